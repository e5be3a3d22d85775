-- Made by wip/pr.py out of the translation (a turned copy of the kit's print; contracts by hand where said).
import Derived.Test.YtdhckibkljafgaaGreatDoorPIx0
import Derived.Test.YtdhckibkljafgaaGreatDoorPIx4
import Derived.Test.YtdhckibkljafgaaGreatDoorPIx5
import Derived.Test.YtdhckibkljafgaaGreatDoorPIx6
import Derived.Test.YtdhckibkljafgaaGreatDoorPIx7
import Derived.Test.YtdhckibkljafgaaGreatDoorPIx10
import Derived.Test.YtdhckibkljafgaaGreatDoorPIx11
namespace Go.Proofs.YtdhckibkljafgaaGreatDoor.PI
open Go.RowKit Go.Proofs.YtdhckibkljafgaaGreatDoorW.PrintWords Go.Proofs.YtdhckibkljafgaaGreatDoorW.PrintLast Go.Proofs.YtdhckibkljafgaaGreatDoorW.PrintMore
-- shrunk
attribute [local go_sem] max2_int min2_int max_two min_two max_three min_three max_four min_four   -- for this text's walks alone
set_option linter.unusedVariables false
set_option linter.unusedSimpArgs false

/-! ### offer_Offer: function 7 -/
-- BY HAND
-- 18 19 20 21 22 23 24
-- inc withput.inc
-- behind table_With.calls
def insR (lt : S44 → S44 → Bool) (x : S44) : List S44 → List S44 → List S44
 | [], b => x :: b
 | y :: ra, b => if lt x y = true then insR lt x ra (y :: b) else (y :: ra).reverse ++ x :: b
theorem wp_get (a : List S44) (x : S44) (b : List S44) (i : Nat) (h : a.length = i) : (a ++ x :: b).toArray[i]! = x := by
 subst h
 rw [getElem!_pos _ _ (by simp)]
 simp
theorem wp_swp (a : List S44) (y x : S44) (b : List S44) : Go.Sort.swp (a ++ y :: x :: b).toArray (a.length + 1) a.length = (a ++ x :: y :: b).toArray := by
 unfold Go.Sort.swp
 have e1 : (a ++ y :: x :: b).toArray[a.length]! = y := wp_get a y (x :: b) _ rfl
 have e2 : (a ++ y :: x :: b).toArray[a.length + 1]! = x := by
  rw [show a ++ y :: x :: b = (a ++ [y]) ++ x :: b by simp]
  exact wp_get (a ++ [y]) x b _ (by simp)
 rw [e1, e2, sa_, sa_]
 congr 1
 rw [List.set_append_right _ _ (by omega), show a.length + 1 - a.length = 1 by omega, sc_, sb_, List.set_append_right _ _ (by omega), Nat.sub_self, sb_]
theorem wp_inner (lt : S44 → S44 → Bool) (x : S44) : ∀ (ra b : List S44), Go.Sort.insInner lt 0 ra.length (ra.reverse ++ x :: b).toArray = (insR lt x ra b).toArray
 | [], b => rfl
 | y :: ra, b => by
  have h1 : ((y :: ra).reverse ++ x :: b).toArray[ra.length + 1]! = x := wp_get _ x b _ (by simp)
  have h2 : ((y :: ra).reverse ++ x :: b).toArray[ra.length]! = y := by
   rw [List.reverse_cons, List.append_assoc]
   exact wp_get _ y (x :: b) _ (by simp)
  have h3 : Go.Sort.swp ((y :: ra).reverse ++ x :: b).toArray (ra.length + 1) ra.length = (ra.reverse ++ x :: y :: b).toArray := by
   have := wp_swp ra.reverse y x b
   rw [List.length_reverse] at this
   rw [List.reverse_cons, List.append_assoc]
   exact this
  rw [List.length_cons, Go.Sort.insInner, h1, h2, h3]
  unfold insR
  cases lt x y with
  | true =>
   rw [show (decide (ra.length + 1 > 0) && true) = true by simp, if_pos rfl, if_pos rfl]
   exact wp_inner lt x ra (y :: b)
  | false => simp
/-- a row that stands in order stays. -/
theorem wp_rounds (lt : S44 → S44 → Bool) (l b : List S44) (hl : ∀ u y x v, l = u ++ y :: x :: v → lt x y = false) : ∀ (m i : Nat), 1 ≤ i → i + m = l.length → table_With.outer lt m i (l ++ b).toArray = (l ++ b).toArray
 | 0, _, _, _ => rfl
 | m + 1, i, h1, hi => by
  have hs : Go.Sort.insInner lt 0 i (l ++ b).toArray = (l ++ b).toArray := by
   obtain ⟨j, rfl⟩ : ∃ j, i = j + 1 := ⟨i - 1, by omega⟩
   have hj : j + 1 < l.length := by omega
   have e : l = l.take j ++ l[j] :: l[j + 1] :: l.drop (j + 2) := by
    rw [← List.drop_eq_getElem_cons hj, ← List.drop_eq_getElem_cons (by omega : j < l.length), List.take_append_drop]
   have h1 : (l ++ b).toArray[j + 1]! = l[j + 1] := by
    rw [getElem!_pos _ _ (by simp; omega)]
    simp [List.getElem_append_left hj]
   have h2 : (l ++ b).toArray[j]! = l[j] := by
    rw [getElem!_pos _ _ (by simp; omega)]
    simp [List.getElem_append_left (show j < l.length by omega)]
   rw [Go.Sort.insInner, h1, h2, hl _ _ _ _ e]
   simp
  rw [table_With.outer, hs]
  exact wp_rounds lt l b hl m (i + 1) (by omega) (by omega)
theorem wp_last (lt : S44 → S44 → Bool) (l : List S44) (x : S44) (hl : ∀ u y x v, l = u ++ y :: x :: v → lt x y = false) : (table_With.outer lt ((l ++ [x]).length - 1) 1 (l ++ [x]).toArray).toList = insR lt x l.reverse [] := by
 cases l with
 | nil => rfl
 | cons a r =>
  have key : ∀ (m i : Nat) (d : Array S44), table_With.outer lt (m + 1) i d = Go.Sort.insInner lt 0 (i + m) (table_With.outer lt m i d) := by
   intro m
   induction m with
   | zero => intro i d; rfl
   | succ m ih =>
    intro i d
    rw [table_With.outer, ih (i + 1)]
    conv => rhs; rw [table_With.outer]
    rw [show i + 1 + m = i + (m + 1) by omega]
  have e1 : ((a :: r) ++ [x]).length - 1 = r.length + 1 := by simp
  rw [e1, key, wp_rounds lt (a :: r) [x] hl r.length 1 (by omega) (by simp; omega)]
  have := wp_inner lt x (a :: r).reverse []
  rw [List.reverse_reverse, List.length_reverse] at this
  rw [show 1 + r.length = (a :: r).length by simp; omega, this]
theorem wp_ins (lt : S44 → S44 → Bool) (x : S44) (u : List S44) (hu : ∀ y ∈ u, lt x y = false) : ∀ (rv b : List S44), (∀ y ∈ rv, lt x y = true) → insR lt x (rv ++ u.reverse) b = u ++ x :: (rv.reverse ++ b)
 | [], b, _ => by
  rw [List.nil_append, List.reverse_nil, List.nil_append]
  cases hr : u.reverse with
  | nil =>
   have : u = [] := by simpa using hr
   rw [this]
   rfl
  | cons y ra =>
   have hy : lt x y = false := hu y (by rw [← List.mem_reverse, hr]; exact List.mem_cons_self)
   unfold insR
   rw [hy, if_neg (by decide), ← hr, List.reverse_reverse]
 | y :: rv, b, h => by
  rw [List.cons_append]
  unfold insR
  rw [h y List.mem_cons_self, if_pos rfl, wp_ins lt x u hu rv (y :: b) (fun z hz => h z (List.mem_cons_of_mem _ hz))]
  simp
theorem wp_split (x : S44) : ∀ (l : List S44), l.Pairwise (fun a b => a.f0 < b.f0) → (∀ y ∈ l, y.f0 ≠ x.f0) → ∃ u v, l = u ++ v ∧ (∀ y ∈ u, y.f0 < x.f0) ∧ ∀ y ∈ v, x.f0 < y.f0
 | [], _, _ => ⟨[], [], rfl, (fun y h => by cases h), (fun y h => by cases h)⟩
 | y :: r, hs, hn => by
  obtain ⟨h1, h2⟩ := List.pairwise_cons.1 hs
  by_cases q : y.f0 < x.f0
  ·obtain ⟨u, v, e, hu, hv⟩ := wp_split x r h2 (fun z hz => hn z (List.mem_cons_of_mem _ hz))
   refine ⟨y :: u, v, by rw [e]; rfl, ?_, hv⟩
   intro z hz
   rcases List.mem_cons.1 hz with e | e
   ·rw [e]; exact q
   ·exact hu z e
  ·refine ⟨[], y :: r, rfl, (fun z h => by cases h), ?_⟩
   have := hn y List.mem_cons_self
   intro z hz
   rcases List.mem_cons.1 hz with e | e
   ·rw [e]; omega
   ·have := h1 z e; omega
theorem put_mid (x : S44) (v : List S44) (hv : ∀ y ∈ v, x.f0 < y.f0) : ∀ (u : List S44), (∀ y ∈ u, y.f0 < x.f0) → putGo x false (u ++ v) = u ++ x :: v
 | [], _ => by
  rw [List.nil_append, List.nil_append]
  cases v with
  | nil => rfl
  | cons y r =>
   have hy := hv y List.mem_cons_self
   unfold putGo
   rw [if_pos ⟨rfl, by omega⟩, if_neg (by omega), decide_eq_true (by omega), Bool.or_true, put_done r x (fun z hz => by have := hv z (List.mem_cons_of_mem _ hz); omega)]
   rfl
 | y :: u, hu => by
  have hy := hu y List.mem_cons_self
  rw [List.cons_append, List.cons_append]
  unfold putGo
  rw [if_neg (by omega), if_neg (by omega), decide_eq_false (by omega), Bool.or_false, put_mid x v hv u (fun z hz => hu z (List.mem_cons_of_mem _ hz))]
  rfl
theorem lease_host {x : S44} (h : leaseOk x = true) : 2 ≤ x.f0 ∧ x.f0 ≤ 254 := by
 have h1 : leaseB x.f0 x.f1 x.f2 x.f3 x.f4 x.f5 = true := h
 unfold leaseB at h1
 simp only [Bool.and_eq_true, decide_eq_true_eq] at h1
 exact h1.1.1.1.1
theorem cf_lt (x y : S44) (hx : 2 ≤ x.f0 ∧ x.f0 ≤ 254) (hy : 2 ≤ y.f0 ∧ y.f0 ≤ 254) : ltOf table_With.cf x y = decide (x.f0 < y.f0) := by
 unfold ltOf table_With.cf
 rw [show wrap64 (x.f0 - y.f0) = x.f0 - y.f0 by unfold wrap64; omega, decide_eq_decide]
 omega
/-- With's row is the document's. -/
theorem with_put (l : List S44) (x : S44) (hT : tableB l = true) (hx : leaseOk x = true) : table_With.out l x = putL l x := by
 obtain ⟨hok, hs, h8⟩ := table_sorted hT
 have hxb := lease_host hx
 unfold table_With.out putL
 by_cases hm : ∃ y ∈ l, y.f0 = x.f0
 ·rw [put_swap l x hs hm]
  obtain ⟨y, hy, hye⟩ := hm
  obtain ⟨i, hi, rfl⟩ := List.getElem_of_mem hy
  have hne : ∀ (j : Nat) (hj : j < l.length), l[j].f0 = x.f0 → j = i := by
   intro j hj e
   rcases Nat.lt_trichotomy j i with h | h | h
   ·have := List.pairwise_iff_getElem.1 hs j i hj hi h; omega
   ·exact h
   ·have := List.pairwise_iff_getElem.1 hs i j hi hj h; omega
  have he : table_at.idx (fun y => y.f0 == x.f0) l = (i : Int) := table_at.idx_hit _ l i hi (by simpa using hye) (fun j hj hji => by
   rw [beq_eq_false_iff_ne]
   intro e
   have := hne j hj e
   omega)
  rw [he, if_pos (by omega), Int.toNat_natCast]
  refine List.ext_getElem (by unfold swapL; rw [List.length_set, List.length_map]) (fun j h1 h2 => ?_)
  have hj : j < l.length := by rw [List.length_set] at h1; exact h1
  have e5 : (swapL l x.f0 x)[j]'h2 = (if l[j].f0 = x.f0 then x else l[j]) := by simp only [swapL, List.getElem_map]
  rw [List.getElem_set, e5]
  by_cases e : i = j
  ·subst e
   rw [if_pos rfl, if_pos hye]
  ·rw [if_neg e, if_neg (fun h => e (hne j hj h).symm)]
 ·have hn : ∀ y ∈ l, y.f0 ≠ x.f0 := fun y hy e => hm ⟨y, hy, e⟩
  have he : table_at.idx (fun y => y.f0 == x.f0) l = -1 := table_at.idx_miss _ l (fun j hj => by
   rw [beq_eq_false_iff_ne]
   exact hn _ (List.getElem_mem hj))
  rw [he, if_neg (by decide)]
  have hlt : ∀ y ∈ l, ltOf table_With.cf x y = decide (x.f0 < y.f0) := fun y hy => cf_lt x y hxb (lease_host (hok y hy))
  obtain ⟨u, v, e, hu, hv⟩ := wp_split x l hs hn
  unfold table_With.srt
  rw [wp_last (ltOf table_With.cf) l x (fun a y z b e => by
   have hy : y ∈ l := by rw [e]; simp
   have hz : z ∈ l := by rw [e]; simp
   have h1 := (List.pairwise_append.1 (by rw [e] at hs; exact hs)).2.1
   have h2 := (List.pairwise_cons.1 h1).1 z List.mem_cons_self
   rw [cf_lt z y (lease_host (hok z hz)) (lease_host (hok y hy)), decide_eq_false (by omega)])]
  have e2 : l.reverse = v.reverse ++ u.reverse := by rw [e, List.reverse_append]
  rw [e2, wp_ins (ltOf table_With.cf) x u (fun y hy => by rw [hlt y (by rw [e]; exact List.mem_append_left _ hy), decide_eq_false (by have := hu y hy; omega)]) v.reverse [] (fun y hy => by
   have hy2 : y ∈ v := by simpa using hy
   rw [hlt y (by rw [e]; exact List.mem_append_right _ hy2), decide_eq_true (hv y hy2)])]
  rw [List.reverse_reverse, List.append_nil, e, put_mid x v hv u hu]
set_option maxHeartbeats 8000000 in
set_option maxRecDepth 100000 in
theorem offer_Offer.offered (gl : Nat) (x : S44) (w : World) (h : w.heap[gl]? = some (.cells #[.int .i64 x.f0, .int .i64 x.f1, .string x.f2, .int .i64 x.f3, .string x.f4, .bool x.f5] 44)) :
  Calls Tryz.prog 21 #[.pointer (some ⟨gl, 0, none⟩)] w fun e w' => e = .returned (.bool (offeredX x)) ∧ Below w.heap.size w w' := by
 have v1 := bc_ h 1
 have e1 : (x.f1 == 1) = offeredX x := by unfold offeredX; rw [Bool.eq_iff_iff, beq_iff_eq, decide_eq_true_eq]
 clear h
 go_enter Tryz.func21, Tryz.ntmps21
 go_wp2
 go_ret
 exact ⟨ret_bool e1, by repeat (with_reducible first | exact Below.refl _ _ | apply p1_ | apply p2_)⟩
def offer_Offer.f (a0_0 : Int) (a0_1 : Int) (l0_2 : List Int) (l0_3 : List S81) (a0_4 : Int) (a0_5 : ByteArray) (l0_6 : List S83) (l1 : List S44) (a2 : Int) (a3 : ByteArray) (a4 : Int) : Option (List S44 × Int × Int) := if pickFit l0_2 l0_3 a0_5 l0_6 l1 then some (offerV a0_0 a0_1 l0_2 l0_3 a0_4 a0_5 l0_6 l1 a2 a3 a4) else none
set_option maxHeartbeats 8000000 in
set_option maxRecDepth 100000 in
theorem offer_Offer.calls (a0_0 : Int) (a0_1 : Int) (A0_2 : Option Addr) (c0_2 : Nat) (l0_2 : List Int) (A0_3 : Option Addr) (c0_3 : Nat) (l0_3 : List S81) (a0_4 : Int) (a0_5 : ByteArray) (A0_6 : Option Addr) (c0_6 : Nat) (l0_6 : List S83) (A1 : Option Addr) (c1 : Nat) (l1 : List S44) (a2 : Int) (a3 : ByteArray) (a4 : Int) (r1 : List S44) (r2 r3 : Int) (w : World) (hr0_2 : Kd.C (Kd.int .i64) w A0_2 l0_2.length l0_2) (hc0_2 : l0_2.length ≤ c0_2) (hr0_3 : Kd.C k81 w A0_3 l0_3.length l0_3) (hc0_3 : l0_3.length ≤ c0_3) (hr0_6 : Kd.C k83 w A0_6 l0_6.length l0_6) (hc0_6 : l0_6.length ≤ c0_6) (hr1 : Kd.C k44 w A1 l1.length l1) (hc1 : l1.length ≤ c1) (h : offer_Offer.f a0_0 a0_1 l0_2 l0_3 a0_4 a0_5 l0_6 l1 a2 a3 a4 = some (r1, r2, r3)) :
  Calls Tryz.prog 7 #[.agg #[.int .i64 a0_0, .int .i64 a0_1, .slice A0_2 l0_2.length c0_2, .slice A0_3 l0_3.length c0_3, .int .i64 a0_4, .string a0_5, .slice A0_6 l0_6.length c0_6], .slice A1 l1.length c1, .int .i64 a2, .string a3, .int .i64 a4] w fun e w' => ∃ v0_ : Value, e = .returned (.tuple #[v0_, .int .i64 r2, .int .i64 r3]) ∧ Kd.R k44 44 w' w.heap.size (fun _ => True) v0_ r1 ∧ Below w.heap.size w w' := by
 unfold offer_Offer.f at h
 by_cases hs : pickFit l0_2 l0_3 a0_5 l0_6 l1
 rotate_left
 ·rw [if_neg hs] at h
  cases h
 rw [if_pos hs] at h
 replace h := e5_ h
 unfold offerV at h
 obtain ⟨b1, h1⟩ : ∃ b, pickMayB a0_0 a0_1 l0_2 l0_3 a0_4 a0_5 l0_6 l1 a2 a3 = b := ⟨_, rfl⟩
 obtain ⟨b2, h2⟩ : ∃ b, decide (0 ≤ a2 ∧ a2 ≤ 1099510579200) = b := ⟨_, rfl⟩
 rw [h1, h2] at h
 have Ce := am_ (fun W => lease_Early_c.calls a2 b2 W (by unfold lease_Early_c.f; rw [h2]))
 have Cpg := fun r1 r2 (e : (if b1 = true then pickV a0_0 a0_1 l0_2 l0_3 a0_4 a0_5 l0_6 l1 a2 a3 a4 else (0, 1400)) = (r1, r2)) W (hb : Below w.heap.size w W) => pick_Pick.calls a0_0 a0_1 A0_2 c0_2 l0_2 A0_3 c0_3 l0_3 a0_4 a0_5 A0_6 c0_6 l0_6 A1 c1 l1 a2 a3 a4 r1 r2 W (c4_ hr0_2 hb) hc0_2 (c4_ hr0_3 hb) hc0_3 (c4_ hr0_6 hb) hc0_6 (c4_ hr1 hb) hc1 (by unfold pick_Pick.f; rw [if_pos hs, h1, e])
 have HB := am_ (Below.refl w.heap.size w)
 have BK := am_ (blk_new w (.cells #[.int .i64 a0_0, .int .i64 a0_1, .slice A0_2 l0_2.length c0_2, .slice A0_3 l0_3.length c0_3, .int .i64 a0_4, .string a0_5, .slice A0_6 l0_6.length c0_6] 26))
 have u0 := bc_ BK.out 0
 have u1 := bc_ BK.out 1
 have u2 := bc_ BK.out 2
 have u3 := bc_ BK.out 3
 have u4 := bc_ BK.out 4
 have u5 := bc_ BK.out 5
 have u6 := bc_ BK.out 6
 cases b1 with
 | false =>
  rw [Bool.false_and, if_neg (by decide)] at h
  obtain ⟨rfl, h'⟩ := Prod.mk.inj h
  obtain ⟨rfl, rfl⟩ := Prod.mk.inj h'
  clear h'
  have Cp := am_ (Cpg 0 1400 (if_neg (by decide)))
  clear Cpg h h1 h2 hs hr0_2 hr0_3 hr0_6 hc0_2 hc0_3 hc0_6 hr1 hc1
  go_enter Tryz.func7, Tryz.ntmps7
  go_wp2_with (first | (go_at_call 18; (with_reducible refine (Cp.out _ (by repeat (with_reducible first | exact HB.out | apply p3_ | apply p1_ | apply p2_))).mono ?_); rintro e w2 ⟨rfl, hb2⟩; replace BK := am_ (kb_ (show _ from (by (with_reducible repeat (first | exact BK.out | refine k2_ ?_ _ | refine k3_ ?_ | refine k1_ ?_ _)))) hb2); replace HB := am_ (bt_ (show Below w.heap.size w _ from (by repeat (with_reducible first | exact HB.out | apply p3_ | apply p1_ | apply p2_))) hb2); clear hb2; clear u0 u1 u2 u3 u4 u5 u6; have u0 := bc_ BK.out 0; have u1 := bc_ BK.out 1; have u2 := bc_ BK.out 2; have u3 := bc_ BK.out 3; have u4 := bc_ BK.out 4; have u5 := bc_ BK.out 5; have u6 := bc_ BK.out 6) | (go_at_call 19; (with_reducible refine (Ce.out _).mono ?_); rintro e w3 ⟨rfl, ⟨nd, rfl⟩⟩))
  go_ret3
  exact ⟨_, rfl, Kd.R_nil _ _ _ _ _, (by repeat (with_reducible first | exact HB.out | apply p3_ | apply p1_ | apply p2_))⟩
 | true =>
 obtain ⟨vh, ve, hve⟩ : ∃ x y, pickV a0_0 a0_1 l0_2 l0_3 a0_4 a0_5 l0_6 l1 a2 a3 a4 = (x, y) := ⟨_, _, rfl⟩
 have Cp := am_ (Cpg vh ve (by rw [if_pos rfl, hve]))
 have hm := may_parts h1
 have htold := pick_told l1 a2 a3 a4 vh ve h1 hve
 have q1 : (ve == 1400) = false := by
  rw [beq_eq_false_iff_ne]
  rcases htold with ⟨e, _⟩ | ⟨e, _⟩ <;> omega
 rw [hve] at h
 simp only at h
 clear Cpg hve
 cases b2 with
 | false =>
  rw [Bool.and_false, if_neg (by decide)] at h
  obtain ⟨rfl, h'⟩ := Prod.mk.inj h
  obtain ⟨rfl, rfl⟩ := Prod.mk.inj h'
  clear h'
  clear h h1 h2 hs hr0_2 hr0_3 hr0_6 hc0_2 hc0_3 hc0_6 hr1 hc1 htold hm
  go_enter Tryz.func7, Tryz.ntmps7
  go_wp2_with (first | (go_at_call 18; (with_reducible refine (Cp.out _ (by repeat (with_reducible first | exact HB.out | apply p3_ | apply p1_ | apply p2_))).mono ?_); rintro e w2 ⟨rfl, hb2⟩; replace BK := am_ (kb_ (show _ from (by (with_reducible repeat (first | exact BK.out | refine k2_ ?_ _ | refine k3_ ?_ | refine k1_ ?_ _)))) hb2); replace HB := am_ (bt_ (show Below w.heap.size w _ from (by repeat (with_reducible first | exact HB.out | apply p3_ | apply p1_ | apply p2_))) hb2); clear hb2; clear u0 u1 u2 u3 u4 u5 u6; have u0 := bc_ BK.out 0; have u1 := bc_ BK.out 1; have u2 := bc_ BK.out 2; have u3 := bc_ BK.out 3; have u4 := bc_ BK.out 4; have u5 := bc_ BK.out 5; have u6 := bc_ BK.out 6) | (go_at_call 19; (with_reducible refine (Ce.out _).mono ?_); rintro e w3 ⟨rfl, ⟨nd, rfl⟩⟩))
  go_ret3
  exact ⟨_, rfl, Kd.R_nil _ _ _ _ _, (by repeat (with_reducible first | exact HB.out | apply p3_ | apply p1_ | apply p2_))⟩
 | true =>
 rw [Bool.and_self, if_pos rfl] at h
 rcases htold with ⟨rfl, hopen, hh0, hh1⟩ | ⟨rfl, rfl, _⟩
 rotate_left
 ·rw [if_neg (by decide)] at h
  obtain ⟨rfl, h'⟩ := Prod.mk.inj h
  obtain ⟨rfl, rfl⟩ := Prod.mk.inj h'
  clear h'
  clear h h1 h2 hs hr0_2 hr0_3 hr0_6 hc0_2 hc0_3 hc0_6 hr1 hc1 hm q1
  go_enter Tryz.func7, Tryz.ntmps7
  go_wp2_with (first | (go_at_call 18; (with_reducible refine (Cp.out _ (by repeat (with_reducible first | exact HB.out | apply p3_ | apply p1_ | apply p2_))).mono ?_); rintro e w2 ⟨rfl, hb2⟩; replace BK := am_ (kb_ (show _ from (by (with_reducible repeat (first | exact BK.out | refine k2_ ?_ _ | refine k3_ ?_ | refine k1_ ?_ _)))) hb2); replace HB := am_ (bt_ (show Below w.heap.size w _ from (by repeat (with_reducible first | exact HB.out | apply p3_ | apply p1_ | apply p2_))) hb2); clear hb2; clear u0 u1 u2 u3 u4 u5 u6; have u0 := bc_ BK.out 0; have u1 := bc_ BK.out 1; have u2 := bc_ BK.out 2; have u3 := bc_ BK.out 3; have u4 := bc_ BK.out 4; have u5 := bc_ BK.out 5; have u6 := bc_ BK.out 6) | (go_at_call 19; (with_reducible refine (Ce.out _).mono ?_); rintro e w3 ⟨rfl, ⟨nd, rfl⟩⟩))
  go_ret3
  exact ⟨_, rfl, Kd.R_nil _ _ _ _ _, (by repeat (with_reducible first | exact HB.out | apply p3_ | apply p1_ | apply p2_))⟩
 rw [if_pos rfl] at h
 have hn := of_decide_eq_true h2
 have hT := hm.2.2.2.1
 have h8 := (table_sorted hT).2.2
 have Cd := am_ (fun W (hb : Below w.heap.size w W) => offer_Drop.calls offeredX 21 #[] A1 c1 l1 a2 a3 vh W (c4_ hr1 hb) hc1 ⟨by omega, hs.2.2⟩ (fun args w => enters_ Tryz.func21 (by kernel_rfl) rfl args w) (fun W gl x hx => offer_Offer.offered gl x W hx))
 obtain ⟨x, hx⟩ : ∃ x, gotL (findL l1 vh) = x := ⟨_, rfl⟩
 have hsz : x.f4.size ≤ 140737488351232 := by
  rw [← hx]
  cases e : findL l1 vh with
  | none => exact (by decide : (⟨#[]⟩ : ByteArray).size ≤ 140737488351232)
  | some y => exact hs.2.2 y (List.mem_of_find?_eq_some e)
 have Cf := am_ (fun W (hb : Below w.heap.size w W) => table_Find_c.calls A1 c1 l1 vh x.f0 x.f1 x.f2 x.f3 x.f4 x.f5 (findL l1 vh).isSome W (c4_ hr1 hb) hc1 (by unfold table_Find_c.f; rw [if_pos hs.2.1, hx]))
 have hD : tableB (dropL offeredX a3 a2 vh l1) = true := table_drop hT
 have hDl : (dropL offeredX a3 a2 vh l1).length = l1.length := by unfold dropL; rw [List.length_map]
 have hnew := new_ok (c := a3) (now := a2) vh ⟨by omega, by omega⟩ hm.2.2.2.2.2 hn
 have hput := with_put (dropL offeredX a3 a2 vh l1) ⟨vh, 1, a3, a2 + 8, ⟨#[]⟩, false⟩ hD hnew
 have Ctg := fun r1 r2 (e : (if (putL (dropL offeredX a3 a2 vh l1) ⟨vh, 1, a3, a2 + 8, ⟨#[]⟩, false⟩).length ≤ 8 then (putL (dropL offeredX a3 a2 vh l1) ⟨vh, 1, a3, a2 + 8, ⟨#[]⟩, false⟩, (0 : Int)) else ([], 1300)) = (r1, r2)) W A c (h1 : Kd.C k44 W A (dropL offeredX a3 a2 vh l1).length (dropL offeredX a3 a2 vh l1)) (h2 : (dropL offeredX a3 a2 vh l1).length ≤ c) => table_With.calls A c (dropL offeredX a3 a2 vh l1) vh 1 a3 (a2 + 8) ⟨#[]⟩ false r1 r2 W h1 h2 (by
  have hfit1 : tabFit (dropL offeredX a3 a2 vh l1) := by have := table_fitr hD; exact ⟨this.1, fun x hx => by have := this.2 x hx; omega⟩
  have hg := go_put hD hnew
  have hfit2 : tabFit (putL (dropL offeredX a3 a2 vh l1) ⟨vh, 1, a3, a2 + 8, ⟨#[]⟩, false⟩) := by
   have hmem := putfit (dropL offeredX a3 a2 vh l1) ⟨vh, 1, a3, a2 + 8, ⟨#[]⟩, false⟩ 140737488351232 hfit1.2 (by show (⟨#[]⟩ : ByteArray).size ≤ 140737488351232; decide)
   exact ⟨by have := hmem.1; omega, hmem.2⟩
  unfold table_With.f table_May_c.f
  rw [if_pos (by omega), if_pos hfit1, hD, Option.bind_some, if_pos rfl, hput, if_pos hfit2, Option.bind_some, table_put hD hnew, ← e]
  by_cases q : (putL (dropL offeredX a3 a2 vh l1) ⟨vh, 1, a3, a2 + 8, ⟨#[]⟩, false⟩).length ≤ 8
  ·rw [decide_eq_true q, if_pos rfl, if_pos q]
  ·rw [decide_eq_false q, if_neg (by decide), if_neg q])
 unfold offerGo at h
 rw [hx] at h
 have hw8 : IntKind.i64.wrap (a2 + 8) = a2 + 8 := (i64_w _).trans (by unfold wrap64; omega)
 obtain ⟨x0, x1, x2, x3, x4, x5⟩ := x
 simp only at hsz Cf
 obtain ⟨bb, hbb⟩ : ∃ b, boundB x0 x1 x2 x3 x4 x5 a3 a2 = b := ⟨_, rfl⟩
 have hbb2 : boundX a3 a2 (⟨x0, x1, x2, x3, x4, x5⟩ : S44) = bb := hbb
 rw [hbb2] at h
 have Cb := am_ (fun W (gl : Nat) (bx : W.heap[gl]? = some (.cells #[.int .i64 x0, .int .i64 x1, .string x2, .int .i64 x3, .string x4, .bool x5] 44)) => lease_Bound.calls gl x0 x1 x2 x3 x4 x5 a3 a2 bb W bx hsz hbb)
 generalize (findL l1 vh).isSome = isx at Cf
 generalize dropL offeredX a3 a2 vh l1 = D at h Cd Ctg
 clear h1 h2 hs hr0_2 hr0_3 hr0_6 hc0_2 hc0_3 hc0_6 hr1 hc1 hm hopen hh0 hh1 hT h8 hx hsz hD hDl hnew hput hbb hbb2 hn
 cases bb with
 | true =>
  rw [if_pos rfl] at h
  obtain ⟨rfl, h'⟩ := Prod.mk.inj h
  obtain ⟨rfl, rfl⟩ := Prod.mk.inj h'
  clear h'
  clear h Ctg hw8
  go_enter Tryz.func7, Tryz.ntmps7
  go_wp2_with (first | (go_at_call 18; (with_reducible refine (Cp.out _ (by repeat (with_reducible first | exact HB.out | apply p3_ | apply p1_ | apply p2_))).mono ?_); rintro e w2 ⟨rfl, hb2⟩; replace BK := am_ (kb_ (show _ from (by (with_reducible repeat (first | exact BK.out | refine k2_ ?_ _ | refine k3_ ?_ | refine k1_ ?_ _)))) hb2); replace HB := am_ (bt_ (show Below w.heap.size w _ from (by repeat (with_reducible first | exact HB.out | apply p3_ | apply p1_ | apply p2_))) hb2); clear hb2; clear u0 u1 u2 u3 u4 u5 u6; have u0 := bc_ BK.out 0; have u1 := bc_ BK.out 1; have u2 := bc_ BK.out 2; have u3 := bc_ BK.out 3; have u4 := bc_ BK.out 4; have u5 := bc_ BK.out 5; have u6 := bc_ BK.out 6) | (go_at_call 19; (with_reducible refine (Ce.out _).mono ?_); rintro e w3 ⟨rfl, ⟨nd, rfl⟩⟩) | (go_at_call 20; (with_reducible refine (Cd.out _ (by repeat (with_reducible first | exact HB.out | apply p3_ | apply p1_ | apply p2_))).mono ?_); rintro e w4 ⟨v, rfl, hv, hb2⟩; obtain ⟨AD, cd, rfl, hcd, hD⟩ := Kd.R_reads hv; have HV := am_ (Kd.R_lower hv (show w.heap.size ≤ _ from (show Below w.heap.size w _ from (by repeat (with_reducible first | exact HB.out | apply p3_ | apply p1_ | apply p2_))).size)); have HD := am_ hD; have HCD := am_ hcd; replace HB := am_ (bt_ (show Below w.heap.size w _ from (by repeat (with_reducible first | exact HB.out | apply p3_ | apply p1_ | apply p2_))) hb2); clear hb2 hv hD hcd) | (go_at_call 22; (with_reducible refine (Cf.out _ HB.out).mono ?_); rintro e w5 ⟨rfl, hb2⟩; have BX := am_ (blk_new w5 (.cells #[.int .i64 x0, .int .i64 x1, .string x2, .int .i64 x3, .string x4, .bool x5] 44)); replace HV := am_ (r1_ (Kd.R_below HV.out hb2) (.cells #[.int .i64 x0, .int .i64 x1, .string x2, .int .i64 x3, .string x4, .bool x5] 44)); replace HD := am_ (c1_ (c4_ HD.out hb2) (.cells #[.int .i64 x0, .int .i64 x1, .string x2, .int .i64 x3, .string x4, .bool x5] 44)); replace HB := am_ (p3_ (bt_ HB.out hb2) (.cells #[.int .i64 x0, .int .i64 x1, .string x2, .int .i64 x3, .string x4, .bool x5] 44)); clear hb2) | (go_at_call 23; (with_reducible refine (Cb.out _ _ BX.out).mono ?_); rintro e w6 ⟨rfl, hb2⟩; replace HV := am_ (Kd.R_below HV.out hb2); replace HD := am_ (c4_ HD.out hb2); replace HB := am_ (bt_ HB.out hb2); clear hb2))
  go_ret3
  exact ⟨_, rfl, HV.out, HB.out⟩
 | false =>
  rw [if_neg (by decide)] at h
  have hw8b := am_ hw8
  by_cases q : (putL D ⟨vh, 1, a3, a2 + 8, ⟨#[]⟩, false⟩).length ≤ 8
  ·rw [if_pos q] at h
   obtain ⟨rfl, h'⟩ := Prod.mk.inj h
   obtain ⟨rfl, rfl⟩ := Prod.mk.inj h'
   clear h'
   have Ct := am_ (fun W A c h1 h2 => Ctg _ 0 (if_pos q) W A c h1 h2)
   clear h Ctg q
   go_enter Tryz.func7, Tryz.ntmps7
   go_wp2_with (first | (go_at_call 18; (with_reducible refine (Cp.out _ (by repeat (with_reducible first | exact HB.out | apply p3_ | apply p1_ | apply p2_))).mono ?_); rintro e w2 ⟨rfl, hb2⟩; replace BK := am_ (kb_ (show _ from (by (with_reducible repeat (first | exact BK.out | refine k2_ ?_ _ | refine k3_ ?_ | refine k1_ ?_ _)))) hb2); replace HB := am_ (bt_ (show Below w.heap.size w _ from (by repeat (with_reducible first | exact HB.out | apply p3_ | apply p1_ | apply p2_))) hb2); clear hb2; clear u0 u1 u2 u3 u4 u5 u6; have u0 := bc_ BK.out 0; have u1 := bc_ BK.out 1; have u2 := bc_ BK.out 2; have u3 := bc_ BK.out 3; have u4 := bc_ BK.out 4; have u5 := bc_ BK.out 5; have u6 := bc_ BK.out 6) | (go_at_call 19; (with_reducible refine (Ce.out _).mono ?_); rintro e w3 ⟨rfl, ⟨nd, rfl⟩⟩) | (go_at_call 20; (with_reducible refine (Cd.out _ (by repeat (with_reducible first | exact HB.out | apply p3_ | apply p1_ | apply p2_))).mono ?_); rintro e w4 ⟨v, rfl, hv, hb2⟩; obtain ⟨AD, cd, rfl, hcd, hD⟩ := Kd.R_reads hv; have HV := am_ (Kd.R_lower hv (show w.heap.size ≤ _ from (show Below w.heap.size w _ from (by repeat (with_reducible first | exact HB.out | apply p3_ | apply p1_ | apply p2_))).size)); have HD := am_ hD; have HCD := am_ hcd; replace HB := am_ (bt_ (show Below w.heap.size w _ from (by repeat (with_reducible first | exact HB.out | apply p3_ | apply p1_ | apply p2_))) hb2); clear hb2 hv hD hcd) | (go_at_call 22; (with_reducible refine (Cf.out _ HB.out).mono ?_); rintro e w5 ⟨rfl, hb2⟩; have BX := am_ (blk_new w5 (.cells #[.int .i64 x0, .int .i64 x1, .string x2, .int .i64 x3, .string x4, .bool x5] 44)); replace HV := am_ (r1_ (Kd.R_below HV.out hb2) (.cells #[.int .i64 x0, .int .i64 x1, .string x2, .int .i64 x3, .string x4, .bool x5] 44)); replace HD := am_ (c1_ (c4_ HD.out hb2) (.cells #[.int .i64 x0, .int .i64 x1, .string x2, .int .i64 x3, .string x4, .bool x5] 44)); replace HB := am_ (p3_ (bt_ HB.out hb2) (.cells #[.int .i64 x0, .int .i64 x1, .string x2, .int .i64 x3, .string x4, .bool x5] 44)); clear hb2) | (go_at_call 23; (with_reducible refine (Cb.out _ _ BX.out).mono ?_); rintro e w6 ⟨rfl, hb2⟩; replace HV := am_ (Kd.R_below HV.out hb2); replace HD := am_ (c4_ HD.out hb2); replace HB := am_ (bt_ HB.out hb2); clear hb2) | (go_at_call 24; (with_reducible refine (Ct.out _ _ _ HD.out HCD.out).mono ?_); rintro e w7 ⟨v7, rfl, hv7, hb2⟩; have HV7 := am_ (Kd.R_lower hv7 (show w.heap.size ≤ _ from HB.out.size)); replace HB := am_ (bt_ HB.out hb2); clear hb2 hv7))
   go_ret3
   exact ⟨_, rfl, HV7.out, HB.out⟩
  ·rw [if_neg q] at h
   obtain ⟨rfl, h'⟩ := Prod.mk.inj h
   obtain ⟨rfl, rfl⟩ := Prod.mk.inj h'
   clear h'
   have Ct := am_ (fun W A c h1 h2 => Ctg _ 1300 (if_neg q) W A c h1 h2)
   clear h Ctg q
   go_enter Tryz.func7, Tryz.ntmps7
   go_wp2_with (first | (go_at_call 18; (with_reducible refine (Cp.out _ (by repeat (with_reducible first | exact HB.out | apply p3_ | apply p1_ | apply p2_))).mono ?_); rintro e w2 ⟨rfl, hb2⟩; replace BK := am_ (kb_ (show _ from (by (with_reducible repeat (first | exact BK.out | refine k2_ ?_ _ | refine k3_ ?_ | refine k1_ ?_ _)))) hb2); replace HB := am_ (bt_ (show Below w.heap.size w _ from (by repeat (with_reducible first | exact HB.out | apply p3_ | apply p1_ | apply p2_))) hb2); clear hb2; clear u0 u1 u2 u3 u4 u5 u6; have u0 := bc_ BK.out 0; have u1 := bc_ BK.out 1; have u2 := bc_ BK.out 2; have u3 := bc_ BK.out 3; have u4 := bc_ BK.out 4; have u5 := bc_ BK.out 5; have u6 := bc_ BK.out 6) | (go_at_call 19; (with_reducible refine (Ce.out _).mono ?_); rintro e w3 ⟨rfl, ⟨nd, rfl⟩⟩) | (go_at_call 20; (with_reducible refine (Cd.out _ (by repeat (with_reducible first | exact HB.out | apply p3_ | apply p1_ | apply p2_))).mono ?_); rintro e w4 ⟨v, rfl, hv, hb2⟩; obtain ⟨AD, cd, rfl, hcd, hD⟩ := Kd.R_reads hv; have HV := am_ (Kd.R_lower hv (show w.heap.size ≤ _ from (show Below w.heap.size w _ from (by repeat (with_reducible first | exact HB.out | apply p3_ | apply p1_ | apply p2_))).size)); have HD := am_ hD; have HCD := am_ hcd; replace HB := am_ (bt_ (show Below w.heap.size w _ from (by repeat (with_reducible first | exact HB.out | apply p3_ | apply p1_ | apply p2_))) hb2); clear hb2 hv hD hcd) | (go_at_call 22; (with_reducible refine (Cf.out _ HB.out).mono ?_); rintro e w5 ⟨rfl, hb2⟩; have BX := am_ (blk_new w5 (.cells #[.int .i64 x0, .int .i64 x1, .string x2, .int .i64 x3, .string x4, .bool x5] 44)); replace HV := am_ (r1_ (Kd.R_below HV.out hb2) (.cells #[.int .i64 x0, .int .i64 x1, .string x2, .int .i64 x3, .string x4, .bool x5] 44)); replace HD := am_ (c1_ (c4_ HD.out hb2) (.cells #[.int .i64 x0, .int .i64 x1, .string x2, .int .i64 x3, .string x4, .bool x5] 44)); replace HB := am_ (p3_ (bt_ HB.out hb2) (.cells #[.int .i64 x0, .int .i64 x1, .string x2, .int .i64 x3, .string x4, .bool x5] 44)); clear hb2) | (go_at_call 23; (with_reducible refine (Cb.out _ _ BX.out).mono ?_); rintro e w6 ⟨rfl, hb2⟩; replace HV := am_ (Kd.R_below HV.out hb2); replace HD := am_ (c4_ HD.out hb2); replace HB := am_ (bt_ HB.out hb2); clear hb2) | (go_at_call 24; (with_reducible refine (Ct.out _ _ _ HD.out HCD.out).mono ?_); rintro e w7 ⟨v7, rfl, hv7, hb2⟩; have HV7 := am_ (Kd.R_lower hv7 (show w.heap.size ≤ _ from HB.out.size)); replace HB := am_ (bt_ HB.out hb2); clear hb2 hv7))
   go_ret3
   exact ⟨_, rfl, Kd.R_nil _ _ _ _ _, HB.out⟩

/-! ### pinfoldref1_parts: function 76 -/
def pinfoldref1_parts.l0 : Nat → ByteArray → List ByteArray → Int → Int → Option (List ByteArray)
 | 0, _, _, _, _ => none
 | k + 1, x0, x3, x4, x5 => if x5 ≤ (x0.size : Int) then (if x5 = (x0.size : Int) then (if 0 ≤ x4 then (if x4 ≤ x5 then (if x3.length < 8796093022208 then (pinfoldref1_parts.l0 k x0 (x3 ++ [x0.extract (x4 : Int).toNat (x5 : Int).toNat]) (wrap64 (x5 + 1)) (wrap64 (x5 + 1))) else (none)) else (none)) else (none)) else (if 0 ≤ x5 then (if x5 < (x0.size : Int) then (if (bt x0 x5) = 46 then (if 0 ≤ x4 then (if x4 ≤ x5 then (if x3.length < 8796093022208 then (pinfoldref1_parts.l0 k x0 (x3 ++ [x0.extract (x4 : Int).toNat (x5 : Int).toNat]) (wrap64 (x5 + 1)) (wrap64 (x5 + 1))) else (none)) else (none)) else (none)) else (pinfoldref1_parts.l0 k x0 x3 x4 (wrap64 (x5 + 1)))) else (none)) else (none))) else (some x3)
def pinfoldref1_parts.f (k : Nat) (a0 : ByteArray) : Option (List ByteArray) := pinfoldref1_parts.l0 k a0 ([] : List ByteArray) 0 0
theorem pinfoldref1_parts.mono_l : ∀ k, (∀ y0 y1 y2 y3, LeO (pinfoldref1_parts.l0 k y0 y1 y2 y3) (pinfoldref1_parts.l0 (k + 1) y0 y1 y2 y3))
 | 0 => fun _ _ _ _ r h => by simp [pinfoldref1_parts.l0] at h
 | k + 1 => by
  have ih0 := pinfoldref1_parts.mono_l k
  ·intro y0 y1 y2 y3
   unfold pinfoldref1_parts.l0
   repeat' first
   | (with_reducible exact ih0 _ _ _ _)
   | (with_reducible exact LeO.refl _)
   | (with_reducible exact LeO.none _)
   | (with_reducible refine LeO.ite ?_ ?_)
   | (with_reducible refine LeO.bind ?_ (fun _ => ?_))
   | exact ih0 _ _ _ _
   | exact LeO.none _
   | refine LeO.ite ?_ ?_
   | refine LeO.bind ?_ (fun _ => ?_)
theorem pinfoldref1_parts.mono : ∀ a0 k, LeO (pinfoldref1_parts.f k a0) (pinfoldref1_parts.f (k + 1) a0) := by
 intro a0 k
 have ih0 := pinfoldref1_parts.mono_l k
 unfold pinfoldref1_parts.f
 repeat' first
   | (with_reducible exact ih0 _ _ _ _)
   | (with_reducible exact LeO.refl _)
   | (with_reducible exact LeO.none _)
   | (with_reducible refine LeO.ite ?_ ?_)
   | (with_reducible refine LeO.bind ?_ (fun _ => ?_))
   | exact ih0 _ _ _ _
   | exact LeO.none _
   | refine LeO.ite ?_ ?_
   | refine LeO.bind ?_ (fun _ => ?_)
set_option maxHeartbeats 8000000 in
set_option maxRecDepth 100000 in
theorem pinfoldref1_parts.calls (k : Nat) (a0 : ByteArray) (r : List ByteArray) (w : World) (h : pinfoldref1_parts.f k a0 = some r) :
  Calls Tryz.prog 76 #[.string a0] w fun e w' => ∃ v0_ : Value, e = .returned (v0_) ∧ Kd.R Kd.string 9 w' w.heap.size (fun _ => True) v0_ r ∧ Below w.heap.size w w' := by
 have HB := am_ (Below.refl w.heap.size w)
 have H : (pinfoldref1_parts.l0 k a0 ([] : List ByteArray) 0 0) = some r := h
 clear h
 have H' := am_ H
 clear H
 go_enter Tryz.func76, Tryz.ntmps76
 go_wp2
 go_loopg [3, 4, 5] k (fun kq v3 v4 v5 w' => ∃ (x3_1 : List ByteArray) (x4_1 : Int) (x5_1 : Int), v4 = .int .i64 x4_1 ∧ v5 = .int .i64 x5_1 ∧ Aside0 (pinfoldref1_parts.l0 kq a0 x3_1 x4_1 x5_1 = some r) ∧ Aside0 (kq ≤ k) ∧ Aside0 (Kd.R Kd.string 9 w' w.heap.size (fun _ => True) v3 x3_1) ∧ Aside0 (Below w.heap.size w w'))
 case atStart => exact ⟨(([] : List ByteArray)), (0), (0), (by first | rfl | (simp; done) | (simp [*]; done)), (by first | rfl | (simp; done) | (simp [*]; done)), H', ⟨Nat.le_refl _⟩, ⟨by first | exact Kd.R_nil _ _ _ _ _ | exact Kd.N_nil _ _ _ _ _ | exact Kd.V_nil _ _ _ _ _ | exact Kd.Q_nil _ _ _ _ _ | exact Kd.S_nil _ _ _ _ _⟩, ⟨by repeat (with_reducible first | exact HB.out | apply p3_ | apply p1_ | apply p2_)⟩⟩
 case round =>
  clear H'
  obtain ⟨x3_1, x4_1, x5_1, rfl, rfl, HA, HK1, HO_3, HB⟩ := hrel
  cases gk with
  | zero => exact absurd HA.out (by simp [pinfoldref1_parts.l0])
  | succ k1 =>
   have H := HA.out
   clear HA
   simp only [pinfoldref1_parts.l0] at H
   by_cases c2 : x5_1 ≤ (a0.size : Int)
   ·rw [if_pos c2] at H
    have c2b0 : decide (x5_1 ≤ (a0.size : Int)) = true := decide_eq_true c2
    clear c2
    by_cases c3 : x5_1 = (a0.size : Int)
    ·rw [if_pos c3] at H
     have c3b0 : (x5_1 == (a0.size : Int)) = true := beq_iff_eq.mpr c3
     have c3b1 : (x5_1 != (a0.size : Int)) = false := e1_ c3
     clear c3
     by_cases c4 : 0 ≤ x4_1
     rotate_left
     ·rw [if_neg c4] at H
      exact absurd H (by simp)
     rw [if_pos c4] at H
     have c4b0 := eq_true c4
     have c4b1 : decide (0 ≤ x4_1) = true := decide_eq_true c4
     clear c4
     by_cases c5 : x4_1 ≤ x5_1
     rotate_left
     ·rw [if_neg c5] at H
      exact absurd H (by simp)
     rw [if_pos c5] at H
     have c5b0 := eq_true c5
     have c5b1 : decide (x4_1 ≤ x5_1) = true := decide_eq_true c5
     clear c5
     have c6b0 := eq_true (of_decide_eq_true (by first | (with_reducible assumption) | assumption) : x5_1 ≤ (a0.size : Int))
     by_cases c7 : x3_1.length < 8796093022208
     rotate_left
     ·rw [if_neg c7] at H
      exact absurd H (by simp)
     rw [if_pos c7] at H
     have LMc7 := am_ c7
     clear c7
     obtain ⟨y147, hy147⟩ : ∃ y_ : List ByteArray, y_ = (x3_1 ++ [a0.extract (x4_1 : Int).toNat (x5_1 : Int).toNat]) := ⟨_, rfl⟩
     replace H : (pinfoldref1_parts.l0 k1 a0 y147 (wrap64 (x5_1 + 1)) (wrap64 (x5_1 + 1))) = some r := by first | (rw [hy147]; with_reducible exact H) | (have H2_ := (Option.bind_some _ _).symm.trans H; rw [hy147]; with_reducible exact H2_) | (have H2_ := (Option.bind_some _ _).symm.trans H; with_reducible exact H2_) | with_reducible exact H | (rw [hy147]; exact H) | exact H
     have Ny147 := am_ hy147
     clear hy147
     have H' := am_ H
     clear H
     go_wp2_with (first | ((with_reducible refine gate_builtin (b := .append) (xs := #[.tmp 22, .tmp 27]) rfl ?_); at_builtin; refine Kd.R_append Kd.string (w0 := w) w.heap.size rfl (.tmp 22) (.tmp 27) 95 9 (.string ⟨#[]⟩) 16 rfl Tryz.underlying95 info9 rfl (by decide) (by omega) u3 x3_1 (a0.extract (x4_1 : Int).toNat (x5_1 : Int).toNat) [.string (a0.extract (x4_1 : Int).toNat (x5_1 : Int).toNat)] (fun _ => True) (fun _ => False) rfl rfl ?aP (fun _ hk => hk.elim) ?aF ?aO ?aB ?aS ?aL ?_; (case aP => exact rfl); (case aB => exact (by repeat (with_reducible first | exact HB.out | apply p3_ | apply p1_ | apply p2_))); (case aF => exact (fun _ _ => trivial)); (case aO => exact (by (with_reducible repeat (first | apply r1_ | apply r2_ | apply r3_)); exact HO_3.out)); (case aS => exact (bz_ (by repeat (with_reducible first | exact HB.out | apply p3_ | apply p1_ | apply p2_)))); (case aL => have := LMc7.out; omega); intro v148 w8 ho hb hg hat; rw [← Ny147.out] at ho; have n0_ := am_ (hb); have n1_ := am_ (ho); clear HB; clear HO_3; have HB := n0_; have HO149 := n1_; clear n0_ n1_; clear ho hb hg hat))
     go_roundg k1
     case measure => have := HK1.out; omega
     case rel => exact ⟨(y147), (wrap64 (x5_1 + 1)), (wrap64 (x5_1 + 1)), (by first | rfl | (simp; done) | (simp [*]; done)), (by first | rfl | (simp; done) | (simp [*]; done)), H', ⟨by have := HK1.out; omega⟩, ⟨by (with_reducible repeat (first | apply r1_ | apply r2_ | apply r3_)); exact HO149.out⟩, ⟨by repeat (with_reducible first | exact HB.out | apply p3_ | apply p1_ | apply p2_)⟩⟩
    rw [if_neg c3] at H
    have c3b0 : (x5_1 == (a0.size : Int)) = false := e2_ c3
    have c3b1 : (x5_1 != (a0.size : Int)) = true := bne_iff_ne.mpr c3
    by_cases c9 : 0 ≤ x5_1
    rotate_left
    ·rw [if_neg c9] at H
     exact absurd H (by simp)
    rw [if_pos c9] at H
    have c9b0 : decide (0 ≤ x5_1) = true := decide_eq_true c9
    clear c9
    by_cases c10 : x5_1 < (a0.size : Int)
    rotate_left
    ·rw [if_neg c10] at H
     exact absurd H (by simp)
    rw [if_pos c10] at H
    have c10b0 : decide (x5_1 < (a0.size : Int)) = true := decide_eq_true c10
    clear c10
    by_cases c12 : (bt a0 x5_1) = 46
    ·rw [if_pos c12] at H
     have c12b0 : ((bt a0 x5_1) == 46) = true := beq_iff_eq.mpr c12
     have c12b1 : ((bt a0 x5_1) != 46) = false := e1_ c12
     clear c12
     by_cases c13 : 0 ≤ x4_1
     rotate_left
     ·rw [if_neg c13] at H
      exact absurd H (by simp)
     rw [if_pos c13] at H
     have c13b0 := eq_true c13
     have c13b1 : decide (0 ≤ x4_1) = true := decide_eq_true c13
     clear c13
     by_cases c14 : x4_1 ≤ x5_1
     rotate_left
     ·rw [if_neg c14] at H
      exact absurd H (by simp)
     rw [if_pos c14] at H
     have c14b0 := eq_true c14
     have c14b1 : decide (x4_1 ≤ x5_1) = true := decide_eq_true c14
     clear c14
     have c15b0 := eq_true (of_decide_eq_true (by first | (with_reducible assumption) | assumption) : x5_1 ≤ (a0.size : Int))
     by_cases c16 : x3_1.length < 8796093022208
     rotate_left
     ·rw [if_neg c16] at H
      exact absurd H (by simp)
     rw [if_pos c16] at H
     have LMc16 := am_ c16
     clear c16
     obtain ⟨y150, hy150⟩ : ∃ y_ : List ByteArray, y_ = (x3_1 ++ [a0.extract (x4_1 : Int).toNat (x5_1 : Int).toNat]) := ⟨_, rfl⟩
     replace H : (pinfoldref1_parts.l0 k1 a0 y150 (wrap64 (x5_1 + 1)) (wrap64 (x5_1 + 1))) = some r := by first | (rw [hy150]; with_reducible exact H) | (have H2_ := (Option.bind_some _ _).symm.trans H; rw [hy150]; with_reducible exact H2_) | (have H2_ := (Option.bind_some _ _).symm.trans H; with_reducible exact H2_) | with_reducible exact H | (rw [hy150]; exact H) | exact H
     have Ny150 := am_ hy150
     clear hy150
     have H' := am_ H
     clear H
     have p11 : 0 ≤ (x5_1 : Int) := of_decide_eq_true (by first | (with_reducible assumption) | assumption)
     have q11 : x5_1 < (a0.size : Int) := of_decide_eq_true (by first | (with_reducible assumption) | assumption)
     have hx11 := bt_at a0 x5_1
     replace p11 := eq_true p11
     replace q11 := eq_true q11
     go_wp2_with (first | ((with_reducible refine gate_builtin (b := .append) (xs := #[.tmp 22, .tmp 27]) rfl ?_); at_builtin; refine Kd.R_append Kd.string (w0 := w) w.heap.size rfl (.tmp 22) (.tmp 27) 95 9 (.string ⟨#[]⟩) 16 rfl Tryz.underlying95 info9 rfl (by decide) (by omega) u3 x3_1 (a0.extract (x4_1 : Int).toNat (x5_1 : Int).toNat) [.string (a0.extract (x4_1 : Int).toNat (x5_1 : Int).toNat)] (fun _ => True) (fun _ => False) rfl rfl ?aP (fun _ hk => hk.elim) ?aF ?aO ?aB ?aS ?aL ?_; (case aP => exact rfl); (case aB => exact (by repeat (with_reducible first | exact HB.out | apply p3_ | apply p1_ | apply p2_))); (case aF => exact (fun _ _ => trivial)); (case aO => exact (by (with_reducible repeat (first | apply r1_ | apply r2_ | apply r3_)); exact HO_3.out)); (case aS => exact (bz_ (by repeat (with_reducible first | exact HB.out | apply p3_ | apply p1_ | apply p2_)))); (case aL => have := LMc16.out; omega); intro v151 w17 ho hb hg hat; rw [← Ny150.out] at ho; have n0_ := am_ (hb); have n1_ := am_ (ho); clear HB; clear HO_3; have HB := n0_; have HO152 := n1_; clear n0_ n1_; clear ho hb hg hat))
     go_roundg k1
     case measure => have := HK1.out; omega
     case rel => exact ⟨(y150), (wrap64 (x5_1 + 1)), (wrap64 (x5_1 + 1)), (by first | rfl | (simp; done) | (simp [*]; done)), (by first | rfl | (simp; done) | (simp [*]; done)), H', ⟨by have := HK1.out; omega⟩, ⟨by (with_reducible repeat (first | apply r1_ | apply r2_ | apply r3_)); exact HO152.out⟩, ⟨by repeat (with_reducible first | exact HB.out | apply p3_ | apply p1_ | apply p2_)⟩⟩
    rw [if_neg c12] at H
    have c12b0 : ((bt a0 x5_1) == 46) = false := e2_ c12
    have c12b1 : ((bt a0 x5_1) != 46) = true := bne_iff_ne.mpr c12
    have H' := am_ H
    clear H
    have p11 : 0 ≤ (x5_1 : Int) := of_decide_eq_true (by first | (with_reducible assumption) | assumption)
    have q11 : x5_1 < (a0.size : Int) := of_decide_eq_true (by first | (with_reducible assumption) | assumption)
    have hx11 := bt_at a0 x5_1
    replace p11 := eq_true p11
    replace q11 := eq_true q11
    go_wp2
    go_roundg k1
    case measure => have := HK1.out; omega
    case rel => exact ⟨(x3_1), (x4_1), (wrap64 (x5_1 + 1)), (by first | rfl | (simp; done) | (simp [*]; done)), (by first | rfl | (simp; done) | (simp [*]; done)), H', ⟨by have := HK1.out; omega⟩, ⟨by (with_reducible repeat (first | apply r1_ | apply r2_ | apply r3_)); exact HO_3.out⟩, ⟨by repeat (with_reducible first | exact HB.out | apply p3_ | apply p1_ | apply p2_)⟩⟩
   rw [if_neg c2] at H
   have c2b0 : decide (x5_1 ≤ (a0.size : Int)) = false := decide_eq_false c2
   clear c2
   obtain rfl := e5_ H
   go_wp2
   go_ret
   exact ⟨_, by first | rfl | (simp [errW_none, errW_some] <;> rfl) | (simp [*, errW_none, errW_some] <;> rfl), by (with_reducible repeat (first | apply r1_ | apply r2_ | apply r3_)); exact HO_3.out, by repeat (with_reducible first | exact HB.out | apply p3_ | apply p1_ | apply p2_)⟩

/-! ### pinfoldref1_labelMay: function 77 -/
def pinfoldref1_labelMay.l0 : Nat → ByteArray → Int → Option (Bool)
 | 0, _, _ => none
 | k + 1, x0, x3 => if x3 < (x0.size : Int) then (if 0 ≤ x3 then (if (bt x0 x3) < 97 then (if (bt x0 x3) < 48 then (if (bt x0 x3) = 45 then (pinfoldref1_labelMay.l0 k x0 (wrap64 (x3 + 1))) else (some false)) else (if (bt x0 x3) > 57 then (if (bt x0 x3) = 45 then (pinfoldref1_labelMay.l0 k x0 (wrap64 (x3 + 1))) else (some false)) else (pinfoldref1_labelMay.l0 k x0 (wrap64 (x3 + 1))))) else (if (bt x0 x3) > 122 then (if (bt x0 x3) < 48 then (if (bt x0 x3) = 45 then (pinfoldref1_labelMay.l0 k x0 (wrap64 (x3 + 1))) else (some false)) else (if (bt x0 x3) > 57 then (if (bt x0 x3) = 45 then (pinfoldref1_labelMay.l0 k x0 (wrap64 (x3 + 1))) else (some false)) else (pinfoldref1_labelMay.l0 k x0 (wrap64 (x3 + 1))))) else (pinfoldref1_labelMay.l0 k x0 (wrap64 (x3 + 1))))) else (none)) else (if (x0.size : Int) ≥ 1 then (some (decide ((x0.size : Int) ≤ 8))) else (some false))
def pinfoldref1_labelMay.f (k : Nat) (a0 : ByteArray) : Option (Bool) := pinfoldref1_labelMay.l0 k a0 0
theorem pinfoldref1_labelMay.mono_l : ∀ k, (∀ y0 y1, LeO (pinfoldref1_labelMay.l0 k y0 y1) (pinfoldref1_labelMay.l0 (k + 1) y0 y1))
 | 0 => fun _ _ r h => by simp [pinfoldref1_labelMay.l0] at h
 | k + 1 => by
  have ih0 := pinfoldref1_labelMay.mono_l k
  ·intro y0 y1
   unfold pinfoldref1_labelMay.l0
   repeat' first
   | (with_reducible exact ih0 _ _)
   | (with_reducible exact LeO.refl _)
   | (with_reducible exact LeO.none _)
   | (with_reducible refine LeO.ite ?_ ?_)
   | (with_reducible refine LeO.bind ?_ (fun _ => ?_))
   | exact ih0 _ _
   | exact LeO.none _
   | refine LeO.ite ?_ ?_
   | refine LeO.bind ?_ (fun _ => ?_)
theorem pinfoldref1_labelMay.mono : ∀ a0 k, LeO (pinfoldref1_labelMay.f k a0) (pinfoldref1_labelMay.f (k + 1) a0) := by
 intro a0 k
 have ih0 := pinfoldref1_labelMay.mono_l k
 unfold pinfoldref1_labelMay.f
 repeat' first
   | (with_reducible exact ih0 _ _)
   | (with_reducible exact LeO.refl _)
   | (with_reducible exact LeO.none _)
   | (with_reducible refine LeO.ite ?_ ?_)
   | (with_reducible refine LeO.bind ?_ (fun _ => ?_))
   | exact ih0 _ _
   | exact LeO.none _
   | refine LeO.ite ?_ ?_
   | refine LeO.bind ?_ (fun _ => ?_)
set_option maxHeartbeats 8000000 in
set_option maxRecDepth 100000 in
theorem pinfoldref1_labelMay.calls (k : Nat) (a0 : ByteArray) (r : Bool) (w : World) (h : pinfoldref1_labelMay.f k a0 = some r) :
  Calls Tryz.prog 77 #[.string a0] w fun e w' => e = .returned (.bool r) ∧ Drawn0 w w' := by
 have H : (pinfoldref1_labelMay.l0 k a0 0) = some r := h
 clear h
 have H' := am_ H
 clear H
 go_enter Tryz.func77, Tryz.ntmps77
 go_wp2
 go_loopg [3] k (fun kq v3 w' => ∃ (x3_1 : Int), v3 = .int .i64 x3_1 ∧ Aside0 (pinfoldref1_labelMay.l0 kq a0 x3_1 = some r) ∧ Aside0 (kq ≤ k) ∧ Drawn0 w w')
 case atStart => exact ⟨(0), (by first | rfl | (simp; done) | (simp [*]; done)), H', ⟨Nat.le_refl _⟩, by repeat (first | exact Drawn0.refl _ | apply Drawn0.step)⟩
 case round =>
  clear H'
  obtain ⟨x3_1, rfl, HA, HK1, ⟨m1, rfl⟩⟩ := hrel
  cases gk with
  | zero => exact absurd HA.out (by simp [pinfoldref1_labelMay.l0])
  | succ k1 =>
   have H := HA.out
   clear HA
   simp only [pinfoldref1_labelMay.l0] at H
   by_cases c2 : x3_1 < (a0.size : Int)
   ·rw [if_pos c2] at H
    have c2b0 : decide (x3_1 < (a0.size : Int)) = true := decide_eq_true c2
    clear c2
    by_cases c3 : 0 ≤ x3_1
    rotate_left
    ·rw [if_neg c3] at H
     exact absurd H (by simp)
    rw [if_pos c3] at H
    have c3b0 : decide (0 ≤ x3_1) = true := decide_eq_true c3
    clear c3
    by_cases c5 : (bt a0 x3_1) < 97
    ·rw [if_pos c5] at H
     have c5b0 : decide ((bt a0 x3_1) < 97) = true := decide_eq_true c5
     clear c5
     by_cases c6 : (bt a0 x3_1) < 48
     ·rw [if_pos c6] at H
      have c6b0 : decide ((bt a0 x3_1) < 48) = true := decide_eq_true c6
      clear c6
      by_cases c7 : (bt a0 x3_1) = 45
      ·rw [if_pos c7] at H
       have c7b0 : ((bt a0 x3_1) == 45) = true := beq_iff_eq.mpr c7
       have c7b1 : ((bt a0 x3_1) != 45) = false := e1_ c7
       clear c7
       have H' := am_ H
       clear H
       have p4 : 0 ≤ (x3_1 : Int) := of_decide_eq_true (by first | (with_reducible assumption) | assumption)
       have q4 : x3_1 < (a0.size : Int) := of_decide_eq_true (by first | (with_reducible assumption) | assumption)
       have hx4 := bt_at a0 x3_1
       replace p4 := eq_true p4
       replace q4 := eq_true q4
       go_wp2
       go_roundg k1
       case measure => have := HK1.out; omega
       case rel => exact ⟨(wrap64 (x3_1 + 1)), (by first | rfl | (simp; done) | (simp [*]; done)), H', ⟨by have := HK1.out; omega⟩, by repeat (first | exact Drawn0.refl _ | apply Drawn0.step)⟩
      rw [if_neg c7] at H
      have c7b0 : ((bt a0 x3_1) == 45) = false := e2_ c7
      have c7b1 : ((bt a0 x3_1) != 45) = true := bne_iff_ne.mpr c7
      obtain rfl := e5_ H
      have p4 : 0 ≤ (x3_1 : Int) := of_decide_eq_true (by first | (with_reducible assumption) | assumption)
      have q4 : x3_1 < (a0.size : Int) := of_decide_eq_true (by first | (with_reducible assumption) | assumption)
      have hx4 := bt_at a0 x3_1
      replace p4 := eq_true p4
      replace q4 := eq_true q4
      go_wp2
      go_ret
      exact ⟨by first | rfl | (simp; done) | (simp [*]; done), by repeat (first | exact Drawn0.refl _ | apply Drawn0.step)⟩
     rw [if_neg c6] at H
     have c6b0 : decide ((bt a0 x3_1) < 48) = false := decide_eq_false c6
     clear c6
     by_cases c8 : (bt a0 x3_1) > 57
     ·rw [if_pos c8] at H
      have c8b0 : decide (57 < (bt a0 x3_1)) = true := decide_eq_true c8
      clear c8
      by_cases c9 : (bt a0 x3_1) = 45
      ·rw [if_pos c9] at H
       have c9b0 : ((bt a0 x3_1) == 45) = true := beq_iff_eq.mpr c9
       have c9b1 : ((bt a0 x3_1) != 45) = false := e1_ c9
       clear c9
       have H' := am_ H
       clear H
       have p4 : 0 ≤ (x3_1 : Int) := of_decide_eq_true (by first | (with_reducible assumption) | assumption)
       have q4 : x3_1 < (a0.size : Int) := of_decide_eq_true (by first | (with_reducible assumption) | assumption)
       have hx4 := bt_at a0 x3_1
       replace p4 := eq_true p4
       replace q4 := eq_true q4
       go_wp2
       go_roundg k1
       case measure => have := HK1.out; omega
       case rel => exact ⟨(wrap64 (x3_1 + 1)), (by first | rfl | (simp; done) | (simp [*]; done)), H', ⟨by have := HK1.out; omega⟩, by repeat (first | exact Drawn0.refl _ | apply Drawn0.step)⟩
      rw [if_neg c9] at H
      have c9b0 : ((bt a0 x3_1) == 45) = false := e2_ c9
      have c9b1 : ((bt a0 x3_1) != 45) = true := bne_iff_ne.mpr c9
      obtain rfl := e5_ H
      have p4 : 0 ≤ (x3_1 : Int) := of_decide_eq_true (by first | (with_reducible assumption) | assumption)
      have q4 : x3_1 < (a0.size : Int) := of_decide_eq_true (by first | (with_reducible assumption) | assumption)
      have hx4 := bt_at a0 x3_1
      replace p4 := eq_true p4
      replace q4 := eq_true q4
      go_wp2
      go_ret
      exact ⟨by first | rfl | (simp; done) | (simp [*]; done), by repeat (first | exact Drawn0.refl _ | apply Drawn0.step)⟩
     rw [if_neg c8] at H
     have c8b0 : decide (57 < (bt a0 x3_1)) = false := decide_eq_false c8
     clear c8
     have H' := am_ H
     clear H
     have p4 : 0 ≤ (x3_1 : Int) := of_decide_eq_true (by first | (with_reducible assumption) | assumption)
     have q4 : x3_1 < (a0.size : Int) := of_decide_eq_true (by first | (with_reducible assumption) | assumption)
     have hx4 := bt_at a0 x3_1
     replace p4 := eq_true p4
     replace q4 := eq_true q4
     go_wp2
     go_roundg k1
     case measure => have := HK1.out; omega
     case rel => exact ⟨(wrap64 (x3_1 + 1)), (by first | rfl | (simp; done) | (simp [*]; done)), H', ⟨by have := HK1.out; omega⟩, by repeat (first | exact Drawn0.refl _ | apply Drawn0.step)⟩
    rw [if_neg c5] at H
    have c5b0 : decide ((bt a0 x3_1) < 97) = false := decide_eq_false c5
    clear c5
    by_cases c10 : (bt a0 x3_1) > 122
    ·rw [if_pos c10] at H
     have c10b0 : decide (122 < (bt a0 x3_1)) = true := decide_eq_true c10
     clear c10
     by_cases c11 : (bt a0 x3_1) < 48
     ·rw [if_pos c11] at H
      have c11b0 : decide ((bt a0 x3_1) < 48) = true := decide_eq_true c11
      clear c11
      by_cases c12 : (bt a0 x3_1) = 45
      ·rw [if_pos c12] at H
       have c12b0 : ((bt a0 x3_1) == 45) = true := beq_iff_eq.mpr c12
       have c12b1 : ((bt a0 x3_1) != 45) = false := e1_ c12
       clear c12
       have H' := am_ H
       clear H
       have p4 : 0 ≤ (x3_1 : Int) := of_decide_eq_true (by first | (with_reducible assumption) | assumption)
       have q4 : x3_1 < (a0.size : Int) := of_decide_eq_true (by first | (with_reducible assumption) | assumption)
       have hx4 := bt_at a0 x3_1
       replace p4 := eq_true p4
       replace q4 := eq_true q4
       go_wp2
       go_roundg k1
       case measure => have := HK1.out; omega
       case rel => exact ⟨(wrap64 (x3_1 + 1)), (by first | rfl | (simp; done) | (simp [*]; done)), H', ⟨by have := HK1.out; omega⟩, by repeat (first | exact Drawn0.refl _ | apply Drawn0.step)⟩
      rw [if_neg c12] at H
      have c12b0 : ((bt a0 x3_1) == 45) = false := e2_ c12
      have c12b1 : ((bt a0 x3_1) != 45) = true := bne_iff_ne.mpr c12
      obtain rfl := e5_ H
      have p4 : 0 ≤ (x3_1 : Int) := of_decide_eq_true (by first | (with_reducible assumption) | assumption)
      have q4 : x3_1 < (a0.size : Int) := of_decide_eq_true (by first | (with_reducible assumption) | assumption)
      have hx4 := bt_at a0 x3_1
      replace p4 := eq_true p4
      replace q4 := eq_true q4
      go_wp2
      go_ret
      exact ⟨by first | rfl | (simp; done) | (simp [*]; done), by repeat (first | exact Drawn0.refl _ | apply Drawn0.step)⟩
     rw [if_neg c11] at H
     have c11b0 : decide ((bt a0 x3_1) < 48) = false := decide_eq_false c11
     clear c11
     by_cases c13 : (bt a0 x3_1) > 57
     ·rw [if_pos c13] at H
      have c13b0 : decide (57 < (bt a0 x3_1)) = true := decide_eq_true c13
      clear c13
      by_cases c14 : (bt a0 x3_1) = 45
      ·rw [if_pos c14] at H
       have c14b0 : ((bt a0 x3_1) == 45) = true := beq_iff_eq.mpr c14
       have c14b1 : ((bt a0 x3_1) != 45) = false := e1_ c14
       clear c14
       have H' := am_ H
       clear H
       have p4 : 0 ≤ (x3_1 : Int) := of_decide_eq_true (by first | (with_reducible assumption) | assumption)
       have q4 : x3_1 < (a0.size : Int) := of_decide_eq_true (by first | (with_reducible assumption) | assumption)
       have hx4 := bt_at a0 x3_1
       replace p4 := eq_true p4
       replace q4 := eq_true q4
       go_wp2
       go_roundg k1
       case measure => have := HK1.out; omega
       case rel => exact ⟨(wrap64 (x3_1 + 1)), (by first | rfl | (simp; done) | (simp [*]; done)), H', ⟨by have := HK1.out; omega⟩, by repeat (first | exact Drawn0.refl _ | apply Drawn0.step)⟩
      rw [if_neg c14] at H
      have c14b0 : ((bt a0 x3_1) == 45) = false := e2_ c14
      have c14b1 : ((bt a0 x3_1) != 45) = true := bne_iff_ne.mpr c14
      obtain rfl := e5_ H
      have p4 : 0 ≤ (x3_1 : Int) := of_decide_eq_true (by first | (with_reducible assumption) | assumption)
      have q4 : x3_1 < (a0.size : Int) := of_decide_eq_true (by first | (with_reducible assumption) | assumption)
      have hx4 := bt_at a0 x3_1
      replace p4 := eq_true p4
      replace q4 := eq_true q4
      go_wp2
      go_ret
      exact ⟨by first | rfl | (simp; done) | (simp [*]; done), by repeat (first | exact Drawn0.refl _ | apply Drawn0.step)⟩
     rw [if_neg c13] at H
     have c13b0 : decide (57 < (bt a0 x3_1)) = false := decide_eq_false c13
     clear c13
     have H' := am_ H
     clear H
     have p4 : 0 ≤ (x3_1 : Int) := of_decide_eq_true (by first | (with_reducible assumption) | assumption)
     have q4 : x3_1 < (a0.size : Int) := of_decide_eq_true (by first | (with_reducible assumption) | assumption)
     have hx4 := bt_at a0 x3_1
     replace p4 := eq_true p4
     replace q4 := eq_true q4
     go_wp2
     go_roundg k1
     case measure => have := HK1.out; omega
     case rel => exact ⟨(wrap64 (x3_1 + 1)), (by first | rfl | (simp; done) | (simp [*]; done)), H', ⟨by have := HK1.out; omega⟩, by repeat (first | exact Drawn0.refl _ | apply Drawn0.step)⟩
    rw [if_neg c10] at H
    have c10b0 : decide (122 < (bt a0 x3_1)) = false := decide_eq_false c10
    clear c10
    have H' := am_ H
    clear H
    have p4 : 0 ≤ (x3_1 : Int) := of_decide_eq_true (by first | (with_reducible assumption) | assumption)
    have q4 : x3_1 < (a0.size : Int) := of_decide_eq_true (by first | (with_reducible assumption) | assumption)
    have hx4 := bt_at a0 x3_1
    replace p4 := eq_true p4
    replace q4 := eq_true q4
    go_wp2
    go_roundg k1
    case measure => have := HK1.out; omega
    case rel => exact ⟨(wrap64 (x3_1 + 1)), (by first | rfl | (simp; done) | (simp [*]; done)), H', ⟨by have := HK1.out; omega⟩, by repeat (first | exact Drawn0.refl _ | apply Drawn0.step)⟩
   rw [if_neg c2] at H
   have c2b0 : decide (x3_1 < (a0.size : Int)) = false := decide_eq_false c2
   clear c2
   by_cases c15 : (a0.size : Int) ≥ 1
   ·rw [if_pos c15] at H
    have c15b0 : decide (1 ≤ (a0.size : Int)) = true := decide_eq_true c15
    have c15b1 : decide (1 ≤ a0.size) = true := decide_eq_true (by omega)
    clear c15
    obtain rfl := e5_ H
    go_wp2
    go_ret
    exact ⟨by first | rfl | (simp; done) | (simp [*]; done), by repeat (first | exact Drawn0.refl _ | apply Drawn0.step)⟩
   rw [if_neg c15] at H
   have c15b0 : decide (1 ≤ (a0.size : Int)) = false := decide_eq_false c15
   have c15b1 : decide (1 ≤ a0.size) = false := decide_eq_false (by omega)
   clear c15
   obtain rfl := e5_ H
   go_wp2
   go_ret
   exact ⟨by first | rfl | (simp; done) | (simp [*]; done), by repeat (first | exact Drawn0.refl _ | apply Drawn0.step)⟩

end Go.Proofs.YtdhckibkljafgaaGreatDoor.PI
