-- Made by wip/pr.py out of the translation (a turned copy of the kit's print; contracts by hand where said).
import Derived.Test.YtdhckibkljafgaaDoorPHx0
import Derived.Test.YtdhckibkljafgaaDoorPHx1
import Derived.Test.YtdhckibkljafgaaDoorPHx2
import Derived.Test.YtdhckibkljafgaaDoorPHx3
import Derived.Test.YtdhckibkljafgaaDoorPHx4
import Derived.Test.YtdhckibkljafgaaDoorPHx5
import Derived.Test.YtdhckibkljafgaaDoorPHx8
import Derived.Test.YtdhckibkljafgaaDoorPHx9
namespace Go.Proofs.YtdhckibkljafgaaDoor.PH
open Go.RowKit Go.Proofs.YtdhckibkljafgaaDoorW.PrintWords Go.Proofs.YtdhckibkljafgaaDoorW.PrintLast Go.Proofs.YtdhckibkljafgaaDoorW.PrintMore
-- shrunk
attribute [local go_sem] max2_int min2_int max_two min_two max_three min_three max_four min_four   -- for this text's walks alone
set_option linter.unusedVariables false
set_option linter.unusedSimpArgs false

attribute [local go_sem high] eqA35
/-! ### offer_Offer: function 7 -/
-- BY HAND
-- 14 15 16 17 18 19 20
-- inc withput.inc
-- behind table_With.calls
def insR (lt : S35 → S35 → Bool) (x : S35) : List S35 → List S35 → List S35
 | [], b => x :: b
 | y :: ra, b => if lt x y = true then insR lt x ra (y :: b) else (y :: ra).reverse ++ x :: b
theorem wp_get (a : List S35) (x : S35) (b : List S35) (i : Nat) (h : a.length = i) : (a ++ x :: b).toArray[i]! = x := by
 subst h
 rw [getElem!_pos _ _ (by simp)]
 simp
theorem wp_swp (a : List S35) (y x : S35) (b : List S35) : Go.Sort.swp (a ++ y :: x :: b).toArray (a.length + 1) a.length = (a ++ x :: y :: b).toArray := by
 unfold Go.Sort.swp
 have e1 : (a ++ y :: x :: b).toArray[a.length]! = y := wp_get a y (x :: b) _ rfl
 have e2 : (a ++ y :: x :: b).toArray[a.length + 1]! = x := by
  rw [show a ++ y :: x :: b = (a ++ [y]) ++ x :: b by simp]
  exact wp_get (a ++ [y]) x b _ (by simp)
 rw [e1, e2, sa_, sa_]
 congr 1
 rw [List.set_append_right _ _ (by omega), show a.length + 1 - a.length = 1 by omega, sc_, sb_, List.set_append_right _ _ (by omega), Nat.sub_self, sb_]
theorem wp_inner (lt : S35 → S35 → Bool) (x : S35) : ∀ (ra b : List S35), Go.Sort.insInner lt 0 ra.length (ra.reverse ++ x :: b).toArray = (insR lt x ra b).toArray
 | [], b => rfl
 | y :: ra, b => by
  have h1 : ((y :: ra).reverse ++ x :: b).toArray[ra.length + 1]! = x := wp_get _ x b _ (by simp)
  have h2 : ((y :: ra).reverse ++ x :: b).toArray[ra.length]! = y := by
   rw [List.reverse_cons, List.append_assoc]
   exact wp_get _ y (x :: b) _ (by simp)
  have h3 : Go.Sort.swp ((y :: ra).reverse ++ x :: b).toArray (ra.length + 1) ra.length = (ra.reverse ++ x :: y :: b).toArray := by
   have := wp_swp ra.reverse y x b
   rw [List.length_reverse] at this
   rw [List.reverse_cons, List.append_assoc]
   exact this
  rw [List.length_cons, Go.Sort.insInner, h1, h2, h3]
  unfold insR
  cases lt x y with
  | true =>
   rw [show (decide (ra.length + 1 > 0) && true) = true by simp, if_pos rfl, if_pos rfl]
   exact wp_inner lt x ra (y :: b)
  | false => simp
/-- a row that stands in order stays. -/
theorem wp_rounds (lt : S35 → S35 → Bool) (l b : List S35) (hl : ∀ u y x v, l = u ++ y :: x :: v → lt x y = false) : ∀ (m i : Nat), 1 ≤ i → i + m = l.length → table_With.outer lt m i (l ++ b).toArray = (l ++ b).toArray
 | 0, _, _, _ => rfl
 | m + 1, i, h1, hi => by
  have hs : Go.Sort.insInner lt 0 i (l ++ b).toArray = (l ++ b).toArray := by
   obtain ⟨j, rfl⟩ : ∃ j, i = j + 1 := ⟨i - 1, by omega⟩
   have hj : j + 1 < l.length := by omega
   have e : l = l.take j ++ l[j] :: l[j + 1] :: l.drop (j + 2) := by
    rw [← List.drop_eq_getElem_cons hj, ← List.drop_eq_getElem_cons (by omega : j < l.length), List.take_append_drop]
   have h1 : (l ++ b).toArray[j + 1]! = l[j + 1] := by
    rw [getElem!_pos _ _ (by simp; omega)]
    simp [List.getElem_append_left hj]
   have h2 : (l ++ b).toArray[j]! = l[j] := by
    rw [getElem!_pos _ _ (by simp; omega)]
    simp [List.getElem_append_left (show j < l.length by omega)]
   rw [Go.Sort.insInner, h1, h2, hl _ _ _ _ e]
   simp
  rw [table_With.outer, hs]
  exact wp_rounds lt l b hl m (i + 1) (by omega) (by omega)
theorem wp_last (lt : S35 → S35 → Bool) (l : List S35) (x : S35) (hl : ∀ u y x v, l = u ++ y :: x :: v → lt x y = false) : (table_With.outer lt ((l ++ [x]).length - 1) 1 (l ++ [x]).toArray).toList = insR lt x l.reverse [] := by
 cases l with
 | nil => rfl
 | cons a r =>
  have key : ∀ (m i : Nat) (d : Array S35), table_With.outer lt (m + 1) i d = Go.Sort.insInner lt 0 (i + m) (table_With.outer lt m i d) := by
   intro m
   induction m with
   | zero => intro i d; rfl
   | succ m ih =>
    intro i d
    rw [table_With.outer, ih (i + 1)]
    conv => rhs; rw [table_With.outer]
    rw [show i + 1 + m = i + (m + 1) by omega]
  have e1 : ((a :: r) ++ [x]).length - 1 = r.length + 1 := by simp
  rw [e1, key, wp_rounds lt (a :: r) [x] hl r.length 1 (by omega) (by simp; omega)]
  have := wp_inner lt x (a :: r).reverse []
  rw [List.reverse_reverse, List.length_reverse] at this
  rw [show 1 + r.length = (a :: r).length by simp; omega, this]
theorem wp_ins (lt : S35 → S35 → Bool) (x : S35) (u : List S35) (hu : ∀ y ∈ u, lt x y = false) : ∀ (rv b : List S35), (∀ y ∈ rv, lt x y = true) → insR lt x (rv ++ u.reverse) b = u ++ x :: (rv.reverse ++ b)
 | [], b, _ => by
  rw [List.nil_append, List.reverse_nil, List.nil_append]
  cases hr : u.reverse with
  | nil =>
   have : u = [] := by simpa using hr
   rw [this]
   rfl
  | cons y ra =>
   have hy : lt x y = false := hu y (by rw [← List.mem_reverse, hr]; exact List.mem_cons_self)
   unfold insR
   rw [hy, if_neg (by decide), ← hr, List.reverse_reverse]
 | y :: rv, b, h => by
  rw [List.cons_append]
  unfold insR
  rw [h y List.mem_cons_self, if_pos rfl, wp_ins lt x u hu rv (y :: b) (fun z hz => h z (List.mem_cons_of_mem _ hz))]
  simp
theorem wp_split (x : S35) : ∀ (l : List S35), l.Pairwise (fun a b => a.f0 < b.f0) → (∀ y ∈ l, y.f0 ≠ x.f0) → ∃ u v, l = u ++ v ∧ (∀ y ∈ u, y.f0 < x.f0) ∧ ∀ y ∈ v, x.f0 < y.f0
 | [], _, _ => ⟨[], [], rfl, (fun y h => by cases h), (fun y h => by cases h)⟩
 | y :: r, hs, hn => by
  obtain ⟨h1, h2⟩ := List.pairwise_cons.1 hs
  by_cases q : y.f0 < x.f0
  ·obtain ⟨u, v, e, hu, hv⟩ := wp_split x r h2 (fun z hz => hn z (List.mem_cons_of_mem _ hz))
   refine ⟨y :: u, v, by rw [e]; rfl, ?_, hv⟩
   intro z hz
   rcases List.mem_cons.1 hz with e | e
   ·rw [e]; exact q
   ·exact hu z e
  ·refine ⟨[], y :: r, rfl, (fun z h => by cases h), ?_⟩
   have := hn y List.mem_cons_self
   intro z hz
   rcases List.mem_cons.1 hz with e | e
   ·rw [e]; omega
   ·have := h1 z e; omega
theorem put_mid (x : S35) (v : List S35) (hv : ∀ y ∈ v, x.f0 < y.f0) : ∀ (u : List S35), (∀ y ∈ u, y.f0 < x.f0) → putGo x false (u ++ v) = u ++ x :: v
 | [], _ => by
  rw [List.nil_append, List.nil_append]
  cases v with
  | nil => rfl
  | cons y r =>
   have hy := hv y List.mem_cons_self
   unfold putGo
   rw [if_pos ⟨rfl, by omega⟩, if_neg (by omega), decide_eq_true (by omega), Bool.or_true, put_done r x (fun z hz => by have := hv z (List.mem_cons_of_mem _ hz); omega)]
   rfl
 | y :: u, hu => by
  have hy := hu y List.mem_cons_self
  rw [List.cons_append, List.cons_append]
  unfold putGo
  rw [if_neg (by omega), if_neg (by omega), decide_eq_false (by omega), Bool.or_false, put_mid x v hv u (fun z hz => hu z (List.mem_cons_of_mem _ hz))]
  rfl
theorem lease_host {x : S35} (h : leaseOk x = true) : 2 ≤ x.f0 ∧ x.f0 ≤ 254 := by
 have h1 : leaseB x.f0 x.f1 x.f2 x.f3 x.f4 x.f5 = true := h
 unfold leaseB at h1
 simp only [Bool.and_eq_true, decide_eq_true_eq] at h1
 exact h1.1.1.1.1
theorem cf_lt (x y : S35) (hx : 2 ≤ x.f0 ∧ x.f0 ≤ 254) (hy : 2 ≤ y.f0 ∧ y.f0 ≤ 254) : ltOf table_With.cf x y = decide (x.f0 < y.f0) := by
 unfold ltOf table_With.cf
 rw [show wrap64 (x.f0 - y.f0) = x.f0 - y.f0 by unfold wrap64; omega, decide_eq_decide]
 omega
/-- With's row is the document's. -/
theorem with_put (l : List S35) (x : S35) (hT : tableB l = true) (hx : leaseOk x = true) : table_With.out l x = putL l x := by
 obtain ⟨hok, hs, h8⟩ := table_sorted hT
 have hxb := lease_host hx
 unfold table_With.out putL
 by_cases hm : ∃ y ∈ l, y.f0 = x.f0
 ·rw [put_swap l x hs hm]
  obtain ⟨y, hy, hye⟩ := hm
  obtain ⟨i, hi, rfl⟩ := List.getElem_of_mem hy
  have hne : ∀ (j : Nat) (hj : j < l.length), l[j].f0 = x.f0 → j = i := by
   intro j hj e
   rcases Nat.lt_trichotomy j i with h | h | h
   ·have := List.pairwise_iff_getElem.1 hs j i hj hi h; omega
   ·exact h
   ·have := List.pairwise_iff_getElem.1 hs i j hi hj h; omega
  have he : table_at.idx (fun y => y.f0 == x.f0) l = (i : Int) := table_at.idx_hit _ l i hi (by simpa using hye) (fun j hj hji => by
   rw [beq_eq_false_iff_ne]
   intro e
   have := hne j hj e
   omega)
  rw [he, if_pos (by omega), Int.toNat_natCast]
  refine List.ext_getElem (by unfold swapL; rw [List.length_set, List.length_map]) (fun j h1 h2 => ?_)
  have hj : j < l.length := by rw [List.length_set] at h1; exact h1
  have e5 : (swapL l x.f0 x)[j]'h2 = (if l[j].f0 = x.f0 then x else l[j]) := by simp only [swapL, List.getElem_map]
  rw [List.getElem_set, e5]
  by_cases e : i = j
  ·subst e
   rw [if_pos rfl, if_pos hye]
  ·rw [if_neg e, if_neg (fun h => e (hne j hj h).symm)]
 ·have hn : ∀ y ∈ l, y.f0 ≠ x.f0 := fun y hy e => hm ⟨y, hy, e⟩
  have he : table_at.idx (fun y => y.f0 == x.f0) l = -1 := table_at.idx_miss _ l (fun j hj => by
   rw [beq_eq_false_iff_ne]
   exact hn _ (List.getElem_mem hj))
  rw [he, if_neg (by decide)]
  have hlt : ∀ y ∈ l, ltOf table_With.cf x y = decide (x.f0 < y.f0) := fun y hy => cf_lt x y hxb (lease_host (hok y hy))
  obtain ⟨u, v, e, hu, hv⟩ := wp_split x l hs hn
  unfold table_With.srt
  rw [wp_last (ltOf table_With.cf) l x (fun a y z b e => by
   have hy : y ∈ l := by rw [e]; simp
   have hz : z ∈ l := by rw [e]; simp
   have h1 := (List.pairwise_append.1 (by rw [e] at hs; exact hs)).2.1
   have h2 := (List.pairwise_cons.1 h1).1 z List.mem_cons_self
   rw [cf_lt z y (lease_host (hok z hz)) (lease_host (hok y hy)), decide_eq_false (by omega)])]
  have e2 : l.reverse = v.reverse ++ u.reverse := by rw [e, List.reverse_append]
  rw [e2, wp_ins (ltOf table_With.cf) x u (fun y hy => by rw [hlt y (by rw [e]; exact List.mem_append_left _ hy), decide_eq_false (by have := hu y hy; omega)]) v.reverse [] (fun y hy => by
   have hy2 : y ∈ v := by simpa using hy
   rw [hlt y (by rw [e]; exact List.mem_append_right _ hy2), decide_eq_true (hv y hy2)])]
  rw [List.reverse_reverse, List.append_nil, e, put_mid x v hv u hu]
set_option maxHeartbeats 8000000 in
set_option maxRecDepth 100000 in
theorem offer_Offer.offered (gl : Nat) (x : S35) (w : World) (h : w.heap[gl]? = some (.cells #[.int .i64 x.f0, .int .i64 x.f1, .string x.f2, .int .i64 x.f3, .string x.f4, .bool x.f5] 35)) :
  Calls Tryd.prog 17 #[.pointer (some ⟨gl, 0, none⟩)] w fun e w' => e = .returned (.bool (offeredX x)) ∧ Below w.heap.size w w' := by
 have v1 := bc_ h 1
 have e1 : (x.f1 == 1) = offeredX x := by unfold offeredX; rw [Bool.eq_iff_iff, beq_iff_eq, decide_eq_true_eq]
 clear h
 go_enter Tryd.func17, Tryd.ntmps17
 go_wp2
 go_ret
 exact ⟨ret_bool e1, by repeat (with_reducible first | exact Below.refl _ _ | apply p1_ | apply p2_)⟩
def offer_Offer.f (a0_0 : Int) (a0_1 : Int) (l0_2 : List Int) (l0_3 : List S56) (a0_4 : Int) (a0_5 : ByteArray) (l0_6 : List S58) (l1 : List S35) (a2 : Int) (a3 : ByteArray) (a4 : Int) : Option (List S35 × Int × Int) := if pickFit l0_2 l0_3 a0_5 l0_6 l1 then some (offerV a0_0 a0_1 l0_2 l0_3 a0_4 a0_5 l0_6 l1 a2 a3 a4) else none
set_option maxHeartbeats 8000000 in
set_option maxRecDepth 100000 in
theorem offer_Offer.calls (a0_0 : Int) (a0_1 : Int) (A0_2 : Option Addr) (c0_2 : Nat) (l0_2 : List Int) (A0_3 : Option Addr) (c0_3 : Nat) (l0_3 : List S56) (a0_4 : Int) (a0_5 : ByteArray) (A0_6 : Option Addr) (c0_6 : Nat) (l0_6 : List S58) (A1 : Option Addr) (c1 : Nat) (l1 : List S35) (a2 : Int) (a3 : ByteArray) (a4 : Int) (r1 : List S35) (r2 r3 : Int) (w : World) (hr0_2 : Kd.C (Kd.int .i64) w A0_2 l0_2.length l0_2) (hc0_2 : l0_2.length ≤ c0_2) (hr0_3 : Kd.C k56 w A0_3 l0_3.length l0_3) (hc0_3 : l0_3.length ≤ c0_3) (hr0_6 : Kd.C k58 w A0_6 l0_6.length l0_6) (hc0_6 : l0_6.length ≤ c0_6) (hr1 : Kd.C k35 w A1 l1.length l1) (hc1 : l1.length ≤ c1) (h : offer_Offer.f a0_0 a0_1 l0_2 l0_3 a0_4 a0_5 l0_6 l1 a2 a3 a4 = some (r1, r2, r3)) :
  Calls Tryd.prog 7 #[.agg #[.int .i64 a0_0, .int .i64 a0_1, .slice A0_2 l0_2.length c0_2, .slice A0_3 l0_3.length c0_3, .int .i64 a0_4, .string a0_5, .slice A0_6 l0_6.length c0_6], .slice A1 l1.length c1, .int .i64 a2, .string a3, .int .i64 a4] w fun e w' => ∃ v0_ : Value, e = .returned (.tuple #[v0_, .int .i64 r2, .int .i64 r3]) ∧ Kd.R k35 35 w' w.heap.size (fun _ => True) v0_ r1 ∧ Below w.heap.size w w' := by
 unfold offer_Offer.f at h
 by_cases hs : pickFit l0_2 l0_3 a0_5 l0_6 l1
 rotate_left
 ·rw [if_neg hs] at h
  cases h
 rw [if_pos hs] at h
 replace h := e5_ h
 unfold offerV at h
 obtain ⟨b1, h1⟩ : ∃ b, pickMayB a0_0 a0_1 l0_2 l0_3 a0_4 a0_5 l0_6 l1 a2 a3 = b := ⟨_, rfl⟩
 obtain ⟨b2, h2⟩ : ∃ b, decide (0 ≤ a2 ∧ a2 ≤ 1099510579200) = b := ⟨_, rfl⟩
 rw [h1, h2] at h
 have Ce := am_ (fun W => lease_Early_c.calls a2 b2 W (by unfold lease_Early_c.f; rw [h2]))
 have Cpg := fun r1 r2 (e : (if b1 = true then pickV a0_0 a0_1 l0_2 l0_3 a0_4 a0_5 l0_6 l1 a2 a3 a4 else (0, 1400)) = (r1, r2)) W (hb : Below w.heap.size w W) => pick_Pick.calls a0_0 a0_1 A0_2 c0_2 l0_2 A0_3 c0_3 l0_3 a0_4 a0_5 A0_6 c0_6 l0_6 A1 c1 l1 a2 a3 a4 r1 r2 W (c4_ hr0_2 hb) hc0_2 (c4_ hr0_3 hb) hc0_3 (c4_ hr0_6 hb) hc0_6 (c4_ hr1 hb) hc1 (by unfold pick_Pick.f; rw [if_pos hs, h1, e])
 have HB := am_ (Below.refl w.heap.size w)
 have BK := am_ (blk_new w (.cells #[.int .i64 a0_0, .int .i64 a0_1, .slice A0_2 l0_2.length c0_2, .slice A0_3 l0_3.length c0_3, .int .i64 a0_4, .string a0_5, .slice A0_6 l0_6.length c0_6] 26))
 have u0 := bc_ BK.out 0
 have u1 := bc_ BK.out 1
 have u2 := bc_ BK.out 2
 have u3 := bc_ BK.out 3
 have u4 := bc_ BK.out 4
 have u5 := bc_ BK.out 5
 have u6 := bc_ BK.out 6
 cases b1 with
 | false =>
  rw [Bool.false_and, if_neg (by decide)] at h
  obtain ⟨rfl, h'⟩ := Prod.mk.inj h
  obtain ⟨rfl, rfl⟩ := Prod.mk.inj h'
  clear h'
  have Cp := am_ (Cpg 0 1400 (if_neg (by decide)))
  clear Cpg h h1 h2 hs hr0_2 hr0_3 hr0_6 hc0_2 hc0_3 hc0_6 hr1 hc1
  go_enter Tryd.func7, Tryd.ntmps7
  go_wp2_with (first | (go_at_call 14; (with_reducible refine (Cp.out _ (by repeat (with_reducible first | exact HB.out | apply p3_ | apply p1_ | apply p2_))).mono ?_); rintro e w2 ⟨rfl, hb2⟩; replace BK := am_ (kb_ (show _ from (by (with_reducible repeat (first | exact BK.out | refine k2_ ?_ _ | refine k3_ ?_ | refine k1_ ?_ _)))) hb2); replace HB := am_ (bt_ (show Below w.heap.size w _ from (by repeat (with_reducible first | exact HB.out | apply p3_ | apply p1_ | apply p2_))) hb2); clear hb2; clear u0 u1 u2 u3 u4 u5 u6; have u0 := bc_ BK.out 0; have u1 := bc_ BK.out 1; have u2 := bc_ BK.out 2; have u3 := bc_ BK.out 3; have u4 := bc_ BK.out 4; have u5 := bc_ BK.out 5; have u6 := bc_ BK.out 6) | (go_at_call 15; (with_reducible refine (Ce.out _).mono ?_); rintro e w3 ⟨rfl, ⟨nd, rfl⟩⟩))
  go_ret3
  exact ⟨_, rfl, Kd.R_nil _ _ _ _ _, (by repeat (with_reducible first | exact HB.out | apply p3_ | apply p1_ | apply p2_))⟩
 | true =>
 obtain ⟨vh, ve, hve⟩ : ∃ x y, pickV a0_0 a0_1 l0_2 l0_3 a0_4 a0_5 l0_6 l1 a2 a3 a4 = (x, y) := ⟨_, _, rfl⟩
 have Cp := am_ (Cpg vh ve (by rw [if_pos rfl, hve]))
 have hm := may_parts h1
 have htold := pick_told l1 a2 a3 a4 vh ve h1 hve
 have q1 : (ve == 1400) = false := by
  rw [beq_eq_false_iff_ne]
  rcases htold with ⟨e, _⟩ | ⟨e, _⟩ <;> omega
 rw [hve] at h
 simp only at h
 clear Cpg hve
 cases b2 with
 | false =>
  rw [Bool.and_false, if_neg (by decide)] at h
  obtain ⟨rfl, h'⟩ := Prod.mk.inj h
  obtain ⟨rfl, rfl⟩ := Prod.mk.inj h'
  clear h'
  clear h h1 h2 hs hr0_2 hr0_3 hr0_6 hc0_2 hc0_3 hc0_6 hr1 hc1 htold hm
  go_enter Tryd.func7, Tryd.ntmps7
  go_wp2_with (first | (go_at_call 14; (with_reducible refine (Cp.out _ (by repeat (with_reducible first | exact HB.out | apply p3_ | apply p1_ | apply p2_))).mono ?_); rintro e w2 ⟨rfl, hb2⟩; replace BK := am_ (kb_ (show _ from (by (with_reducible repeat (first | exact BK.out | refine k2_ ?_ _ | refine k3_ ?_ | refine k1_ ?_ _)))) hb2); replace HB := am_ (bt_ (show Below w.heap.size w _ from (by repeat (with_reducible first | exact HB.out | apply p3_ | apply p1_ | apply p2_))) hb2); clear hb2; clear u0 u1 u2 u3 u4 u5 u6; have u0 := bc_ BK.out 0; have u1 := bc_ BK.out 1; have u2 := bc_ BK.out 2; have u3 := bc_ BK.out 3; have u4 := bc_ BK.out 4; have u5 := bc_ BK.out 5; have u6 := bc_ BK.out 6) | (go_at_call 15; (with_reducible refine (Ce.out _).mono ?_); rintro e w3 ⟨rfl, ⟨nd, rfl⟩⟩))
  go_ret3
  exact ⟨_, rfl, Kd.R_nil _ _ _ _ _, (by repeat (with_reducible first | exact HB.out | apply p3_ | apply p1_ | apply p2_))⟩
 | true =>
 rw [Bool.and_self, if_pos rfl] at h
 rcases htold with ⟨rfl, hopen, hh0, hh1⟩ | ⟨rfl, rfl, _⟩
 rotate_left
 ·rw [if_neg (by decide)] at h
  obtain ⟨rfl, h'⟩ := Prod.mk.inj h
  obtain ⟨rfl, rfl⟩ := Prod.mk.inj h'
  clear h'
  clear h h1 h2 hs hr0_2 hr0_3 hr0_6 hc0_2 hc0_3 hc0_6 hr1 hc1 hm q1
  go_enter Tryd.func7, Tryd.ntmps7
  go_wp2_with (first | (go_at_call 14; (with_reducible refine (Cp.out _ (by repeat (with_reducible first | exact HB.out | apply p3_ | apply p1_ | apply p2_))).mono ?_); rintro e w2 ⟨rfl, hb2⟩; replace BK := am_ (kb_ (show _ from (by (with_reducible repeat (first | exact BK.out | refine k2_ ?_ _ | refine k3_ ?_ | refine k1_ ?_ _)))) hb2); replace HB := am_ (bt_ (show Below w.heap.size w _ from (by repeat (with_reducible first | exact HB.out | apply p3_ | apply p1_ | apply p2_))) hb2); clear hb2; clear u0 u1 u2 u3 u4 u5 u6; have u0 := bc_ BK.out 0; have u1 := bc_ BK.out 1; have u2 := bc_ BK.out 2; have u3 := bc_ BK.out 3; have u4 := bc_ BK.out 4; have u5 := bc_ BK.out 5; have u6 := bc_ BK.out 6) | (go_at_call 15; (with_reducible refine (Ce.out _).mono ?_); rintro e w3 ⟨rfl, ⟨nd, rfl⟩⟩))
  go_ret3
  exact ⟨_, rfl, Kd.R_nil _ _ _ _ _, (by repeat (with_reducible first | exact HB.out | apply p3_ | apply p1_ | apply p2_))⟩
 rw [if_pos rfl] at h
 have hn := of_decide_eq_true h2
 have hT := hm.2.2.2.1
 have h8 := (table_sorted hT).2.2
 have Cd := am_ (fun W (hb : Below w.heap.size w W) => offer_Drop.calls offeredX 17 #[] A1 c1 l1 a2 a3 vh W (c4_ hr1 hb) hc1 ⟨by omega, hs.2.2⟩ (fun args w => enters_ Tryd.func17 (by kernel_rfl) rfl args w) (fun W gl x hx => offer_Offer.offered gl x W hx))
 obtain ⟨x, hx⟩ : ∃ x, gotL (findL l1 vh) = x := ⟨_, rfl⟩
 have hsz : x.f4.size ≤ 140737488351232 := by
  rw [← hx]
  cases e : findL l1 vh with
  | none => exact (by decide : (⟨#[]⟩ : ByteArray).size ≤ 140737488351232)
  | some y => exact hs.2.2 y (List.mem_of_find?_eq_some e)
 have Cf := am_ (fun W (hb : Below w.heap.size w W) => table_Find_c.calls A1 c1 l1 vh x.f0 x.f1 x.f2 x.f3 x.f4 x.f5 (findL l1 vh).isSome W (c4_ hr1 hb) hc1 (by unfold table_Find_c.f; rw [if_pos hs.2.1, hx]))
 have hD : tableB (dropL offeredX a3 a2 vh l1) = true := table_drop hT
 have hDl : (dropL offeredX a3 a2 vh l1).length = l1.length := by unfold dropL; rw [List.length_map]
 have hnew := new_ok (c := a3) (now := a2) vh ⟨by omega, by omega⟩ hm.2.2.2.2.2 hn
 have hput := with_put (dropL offeredX a3 a2 vh l1) ⟨vh, 1, a3, a2 + 8, ⟨#[]⟩, false⟩ hD hnew
 have Ctg := fun r1 r2 (e : (if (putL (dropL offeredX a3 a2 vh l1) ⟨vh, 1, a3, a2 + 8, ⟨#[]⟩, false⟩).length ≤ 8 then (putL (dropL offeredX a3 a2 vh l1) ⟨vh, 1, a3, a2 + 8, ⟨#[]⟩, false⟩, (0 : Int)) else ([], 1300)) = (r1, r2)) W A c (h1 : Kd.C k35 W A (dropL offeredX a3 a2 vh l1).length (dropL offeredX a3 a2 vh l1)) (h2 : (dropL offeredX a3 a2 vh l1).length ≤ c) => table_With.calls A c (dropL offeredX a3 a2 vh l1) vh 1 a3 (a2 + 8) ⟨#[]⟩ false r1 r2 W h1 h2 (by
  have hfit1 : tabFit (dropL offeredX a3 a2 vh l1) := by have := table_fitr hD; exact ⟨this.1, fun x hx => by have := this.2 x hx; omega⟩
  have hg := go_put hD hnew
  have hfit2 : tabFit (putL (dropL offeredX a3 a2 vh l1) ⟨vh, 1, a3, a2 + 8, ⟨#[]⟩, false⟩) := by
   have hmem := putfit (dropL offeredX a3 a2 vh l1) ⟨vh, 1, a3, a2 + 8, ⟨#[]⟩, false⟩ 140737488351232 hfit1.2 (by show (⟨#[]⟩ : ByteArray).size ≤ 140737488351232; decide)
   exact ⟨by have := hmem.1; omega, hmem.2⟩
  unfold table_With.f table_May_c.f
  rw [if_pos (by omega), if_pos hfit1, hD, Option.bind_some, if_pos rfl, hput, if_pos hfit2, Option.bind_some, table_put hD hnew, ← e]
  by_cases q : (putL (dropL offeredX a3 a2 vh l1) ⟨vh, 1, a3, a2 + 8, ⟨#[]⟩, false⟩).length ≤ 8
  ·rw [decide_eq_true q, if_pos rfl, if_pos q]
  ·rw [decide_eq_false q, if_neg (by decide), if_neg q])
 unfold offerGo at h
 rw [hx] at h
 have hw8 : IntKind.i64.wrap (a2 + 8) = a2 + 8 := (i64_w _).trans (by unfold wrap64; omega)
 obtain ⟨x0, x1, x2, x3, x4, x5⟩ := x
 simp only at hsz Cf
 obtain ⟨bb, hbb⟩ : ∃ b, boundB x0 x1 x2 x3 x4 x5 a3 a2 = b := ⟨_, rfl⟩
 have hbb2 : boundX a3 a2 (⟨x0, x1, x2, x3, x4, x5⟩ : S35) = bb := hbb
 rw [hbb2] at h
 have Cb := am_ (fun W (gl : Nat) (bx : W.heap[gl]? = some (.cells #[.int .i64 x0, .int .i64 x1, .string x2, .int .i64 x3, .string x4, .bool x5] 35)) => lease_Bound.calls gl x0 x1 x2 x3 x4 x5 a3 a2 bb W bx hsz hbb)
 generalize (findL l1 vh).isSome = isx at Cf
 generalize dropL offeredX a3 a2 vh l1 = D at h Cd Ctg
 clear h1 h2 hs hr0_2 hr0_3 hr0_6 hc0_2 hc0_3 hc0_6 hr1 hc1 hm hopen hh0 hh1 hT h8 hx hsz hD hDl hnew hput hbb hbb2 hn
 cases bb with
 | true =>
  rw [if_pos rfl] at h
  obtain ⟨rfl, h'⟩ := Prod.mk.inj h
  obtain ⟨rfl, rfl⟩ := Prod.mk.inj h'
  clear h'
  clear h Ctg hw8
  go_enter Tryd.func7, Tryd.ntmps7
  go_wp2_with (first | (go_at_call 14; (with_reducible refine (Cp.out _ (by repeat (with_reducible first | exact HB.out | apply p3_ | apply p1_ | apply p2_))).mono ?_); rintro e w2 ⟨rfl, hb2⟩; replace BK := am_ (kb_ (show _ from (by (with_reducible repeat (first | exact BK.out | refine k2_ ?_ _ | refine k3_ ?_ | refine k1_ ?_ _)))) hb2); replace HB := am_ (bt_ (show Below w.heap.size w _ from (by repeat (with_reducible first | exact HB.out | apply p3_ | apply p1_ | apply p2_))) hb2); clear hb2; clear u0 u1 u2 u3 u4 u5 u6; have u0 := bc_ BK.out 0; have u1 := bc_ BK.out 1; have u2 := bc_ BK.out 2; have u3 := bc_ BK.out 3; have u4 := bc_ BK.out 4; have u5 := bc_ BK.out 5; have u6 := bc_ BK.out 6) | (go_at_call 15; (with_reducible refine (Ce.out _).mono ?_); rintro e w3 ⟨rfl, ⟨nd, rfl⟩⟩) | (go_at_call 16; (with_reducible refine (Cd.out _ (by repeat (with_reducible first | exact HB.out | apply p3_ | apply p1_ | apply p2_))).mono ?_); rintro e w4 ⟨v, rfl, hv, hb2⟩; obtain ⟨AD, cd, rfl, hcd, hD⟩ := Kd.R_reads hv; have HV := am_ (Kd.R_lower hv (show w.heap.size ≤ _ from (show Below w.heap.size w _ from (by repeat (with_reducible first | exact HB.out | apply p3_ | apply p1_ | apply p2_))).size)); have HD := am_ hD; have HCD := am_ hcd; replace HB := am_ (bt_ (show Below w.heap.size w _ from (by repeat (with_reducible first | exact HB.out | apply p3_ | apply p1_ | apply p2_))) hb2); clear hb2 hv hD hcd) | (go_at_call 18; (with_reducible refine (Cf.out _ HB.out).mono ?_); rintro e w5 ⟨rfl, hb2⟩; have BX := am_ (blk_new w5 (.cells #[.int .i64 x0, .int .i64 x1, .string x2, .int .i64 x3, .string x4, .bool x5] 35)); replace HV := am_ (r1_ (Kd.R_below HV.out hb2) (.cells #[.int .i64 x0, .int .i64 x1, .string x2, .int .i64 x3, .string x4, .bool x5] 35)); replace HD := am_ (c1_ (c4_ HD.out hb2) (.cells #[.int .i64 x0, .int .i64 x1, .string x2, .int .i64 x3, .string x4, .bool x5] 35)); replace HB := am_ (p3_ (bt_ HB.out hb2) (.cells #[.int .i64 x0, .int .i64 x1, .string x2, .int .i64 x3, .string x4, .bool x5] 35)); clear hb2) | (go_at_call 19; (with_reducible refine (Cb.out _ _ BX.out).mono ?_); rintro e w6 ⟨rfl, hb2⟩; replace HV := am_ (Kd.R_below HV.out hb2); replace HD := am_ (c4_ HD.out hb2); replace HB := am_ (bt_ HB.out hb2); clear hb2))
  go_ret3
  exact ⟨_, rfl, HV.out, HB.out⟩
 | false =>
  rw [if_neg (by decide)] at h
  have hw8b := am_ hw8
  by_cases q : (putL D ⟨vh, 1, a3, a2 + 8, ⟨#[]⟩, false⟩).length ≤ 8
  ·rw [if_pos q] at h
   obtain ⟨rfl, h'⟩ := Prod.mk.inj h
   obtain ⟨rfl, rfl⟩ := Prod.mk.inj h'
   clear h'
   have Ct := am_ (fun W A c h1 h2 => Ctg _ 0 (if_pos q) W A c h1 h2)
   clear h Ctg q
   go_enter Tryd.func7, Tryd.ntmps7
   go_wp2_with (first | (go_at_call 14; (with_reducible refine (Cp.out _ (by repeat (with_reducible first | exact HB.out | apply p3_ | apply p1_ | apply p2_))).mono ?_); rintro e w2 ⟨rfl, hb2⟩; replace BK := am_ (kb_ (show _ from (by (with_reducible repeat (first | exact BK.out | refine k2_ ?_ _ | refine k3_ ?_ | refine k1_ ?_ _)))) hb2); replace HB := am_ (bt_ (show Below w.heap.size w _ from (by repeat (with_reducible first | exact HB.out | apply p3_ | apply p1_ | apply p2_))) hb2); clear hb2; clear u0 u1 u2 u3 u4 u5 u6; have u0 := bc_ BK.out 0; have u1 := bc_ BK.out 1; have u2 := bc_ BK.out 2; have u3 := bc_ BK.out 3; have u4 := bc_ BK.out 4; have u5 := bc_ BK.out 5; have u6 := bc_ BK.out 6) | (go_at_call 15; (with_reducible refine (Ce.out _).mono ?_); rintro e w3 ⟨rfl, ⟨nd, rfl⟩⟩) | (go_at_call 16; (with_reducible refine (Cd.out _ (by repeat (with_reducible first | exact HB.out | apply p3_ | apply p1_ | apply p2_))).mono ?_); rintro e w4 ⟨v, rfl, hv, hb2⟩; obtain ⟨AD, cd, rfl, hcd, hD⟩ := Kd.R_reads hv; have HV := am_ (Kd.R_lower hv (show w.heap.size ≤ _ from (show Below w.heap.size w _ from (by repeat (with_reducible first | exact HB.out | apply p3_ | apply p1_ | apply p2_))).size)); have HD := am_ hD; have HCD := am_ hcd; replace HB := am_ (bt_ (show Below w.heap.size w _ from (by repeat (with_reducible first | exact HB.out | apply p3_ | apply p1_ | apply p2_))) hb2); clear hb2 hv hD hcd) | (go_at_call 18; (with_reducible refine (Cf.out _ HB.out).mono ?_); rintro e w5 ⟨rfl, hb2⟩; have BX := am_ (blk_new w5 (.cells #[.int .i64 x0, .int .i64 x1, .string x2, .int .i64 x3, .string x4, .bool x5] 35)); replace HV := am_ (r1_ (Kd.R_below HV.out hb2) (.cells #[.int .i64 x0, .int .i64 x1, .string x2, .int .i64 x3, .string x4, .bool x5] 35)); replace HD := am_ (c1_ (c4_ HD.out hb2) (.cells #[.int .i64 x0, .int .i64 x1, .string x2, .int .i64 x3, .string x4, .bool x5] 35)); replace HB := am_ (p3_ (bt_ HB.out hb2) (.cells #[.int .i64 x0, .int .i64 x1, .string x2, .int .i64 x3, .string x4, .bool x5] 35)); clear hb2) | (go_at_call 19; (with_reducible refine (Cb.out _ _ BX.out).mono ?_); rintro e w6 ⟨rfl, hb2⟩; replace HV := am_ (Kd.R_below HV.out hb2); replace HD := am_ (c4_ HD.out hb2); replace HB := am_ (bt_ HB.out hb2); clear hb2) | (go_at_call 20; (with_reducible refine (Ct.out _ _ _ HD.out HCD.out).mono ?_); rintro e w7 ⟨v7, rfl, hv7, hb2⟩; have HV7 := am_ (Kd.R_lower hv7 (show w.heap.size ≤ _ from HB.out.size)); replace HB := am_ (bt_ HB.out hb2); clear hb2 hv7))
   go_ret3
   exact ⟨_, rfl, HV7.out, HB.out⟩
  ·rw [if_neg q] at h
   obtain ⟨rfl, h'⟩ := Prod.mk.inj h
   obtain ⟨rfl, rfl⟩ := Prod.mk.inj h'
   clear h'
   have Ct := am_ (fun W A c h1 h2 => Ctg _ 1300 (if_neg q) W A c h1 h2)
   clear h Ctg q
   go_enter Tryd.func7, Tryd.ntmps7
   go_wp2_with (first | (go_at_call 14; (with_reducible refine (Cp.out _ (by repeat (with_reducible first | exact HB.out | apply p3_ | apply p1_ | apply p2_))).mono ?_); rintro e w2 ⟨rfl, hb2⟩; replace BK := am_ (kb_ (show _ from (by (with_reducible repeat (first | exact BK.out | refine k2_ ?_ _ | refine k3_ ?_ | refine k1_ ?_ _)))) hb2); replace HB := am_ (bt_ (show Below w.heap.size w _ from (by repeat (with_reducible first | exact HB.out | apply p3_ | apply p1_ | apply p2_))) hb2); clear hb2; clear u0 u1 u2 u3 u4 u5 u6; have u0 := bc_ BK.out 0; have u1 := bc_ BK.out 1; have u2 := bc_ BK.out 2; have u3 := bc_ BK.out 3; have u4 := bc_ BK.out 4; have u5 := bc_ BK.out 5; have u6 := bc_ BK.out 6) | (go_at_call 15; (with_reducible refine (Ce.out _).mono ?_); rintro e w3 ⟨rfl, ⟨nd, rfl⟩⟩) | (go_at_call 16; (with_reducible refine (Cd.out _ (by repeat (with_reducible first | exact HB.out | apply p3_ | apply p1_ | apply p2_))).mono ?_); rintro e w4 ⟨v, rfl, hv, hb2⟩; obtain ⟨AD, cd, rfl, hcd, hD⟩ := Kd.R_reads hv; have HV := am_ (Kd.R_lower hv (show w.heap.size ≤ _ from (show Below w.heap.size w _ from (by repeat (with_reducible first | exact HB.out | apply p3_ | apply p1_ | apply p2_))).size)); have HD := am_ hD; have HCD := am_ hcd; replace HB := am_ (bt_ (show Below w.heap.size w _ from (by repeat (with_reducible first | exact HB.out | apply p3_ | apply p1_ | apply p2_))) hb2); clear hb2 hv hD hcd) | (go_at_call 18; (with_reducible refine (Cf.out _ HB.out).mono ?_); rintro e w5 ⟨rfl, hb2⟩; have BX := am_ (blk_new w5 (.cells #[.int .i64 x0, .int .i64 x1, .string x2, .int .i64 x3, .string x4, .bool x5] 35)); replace HV := am_ (r1_ (Kd.R_below HV.out hb2) (.cells #[.int .i64 x0, .int .i64 x1, .string x2, .int .i64 x3, .string x4, .bool x5] 35)); replace HD := am_ (c1_ (c4_ HD.out hb2) (.cells #[.int .i64 x0, .int .i64 x1, .string x2, .int .i64 x3, .string x4, .bool x5] 35)); replace HB := am_ (p3_ (bt_ HB.out hb2) (.cells #[.int .i64 x0, .int .i64 x1, .string x2, .int .i64 x3, .string x4, .bool x5] 35)); clear hb2) | (go_at_call 19; (with_reducible refine (Cb.out _ _ BX.out).mono ?_); rintro e w6 ⟨rfl, hb2⟩; replace HV := am_ (Kd.R_below HV.out hb2); replace HD := am_ (c4_ HD.out hb2); replace HB := am_ (bt_ HB.out hb2); clear hb2) | (go_at_call 20; (with_reducible refine (Ct.out _ _ _ HD.out HCD.out).mono ?_); rintro e w7 ⟨v7, rfl, hv7, hb2⟩; have HV7 := am_ (Kd.R_lower hv7 (show w.heap.size ≤ _ from HB.out.size)); replace HB := am_ (bt_ HB.out hb2); clear hb2 hv7))
   go_ret3
   exact ⟨_, rfl, Kd.R_nil _ _ _ _ _, HB.out⟩

/-! ### pinfoldlaw0_Num: function 8 -/
def pinfoldlaw0_Num.f (a0 : Int) : Option (Int) := some a0
set_option maxHeartbeats 8000000 in
set_option maxRecDepth 100000 in
theorem pinfoldlaw0_Num.calls (a0 : Int) (r : Int) (w : World) (h : pinfoldlaw0_Num.f a0 = some r) :
  Calls Tryd.prog 8 #[.int .i64 a0] w fun e w' => e = .returned (.int .i64 r) ∧ Drawn0 w w' := by
 have H : (some a0) = some r := h
 clear h
 obtain rfl := e5_ H
 go_enter Tryd.func8, Tryd.ntmps8
 go_wp2
 go_ret
 exact ⟨by first | rfl | (simp; done) | (simp [*]; done), by repeat (first | exact Drawn0.refl _ | apply Drawn0.step)⟩

/-! ### pinfoldlaw15_given: function 12 -/
def pinfoldlaw15_given.f  : Option (Int × Int × List Int × (List (S56)) × Int × ByteArray × (List (S58))) := some (10, 13, (([12] : List Int)), (([(⟨(⟨#[118, 105, 112]⟩ : ByteArray), 13⟩ : S56)] : List (S56))), 100, (⟨#[108, 97, 110]⟩ : ByteArray), (([(⟨(⟨#[119, 119, 119, 46, 108, 97, 110]⟩ : ByteArray), 1, 5, 7, (⟨#[]⟩ : ByteArray), (⟨#[]⟩ : ByteArray), 0⟩ : S58)] : List (S58))))
set_option maxHeartbeats 8000000 in
set_option maxRecDepth 100000 in
theorem pinfoldlaw15_given.calls  (r1 : Int) (r2 : Int) (r3 : List Int) (r4 : List (S56)) (r5 : Int) (r6 : ByteArray) (r7 : List (S58)) (w : World) (h : pinfoldlaw15_given.f  = some (r1, r2, r3, r4, r5, r6, r7)) :
  Calls Tryd.prog 12 #[] w fun e w' => ∃ v2_ v3_ v6_ : Value, e = .returned (.agg #[.int .i64 r1, .int .i64 r2, v2_, v3_, .int .i64 r5, .string r6, v6_]) ∧ Kd.R (Kd.int .i64) 3 w' w.heap.size (fun _ => True) v2_ r3 ∧ Kd.R k56 56 w' w.heap.size (fun _ => True) v3_ r4 ∧ Kd.R k58 58 w' w.heap.size (fun _ => True) v6_ r7 ∧ Below w.heap.size w w' := by
 have hu26 := Tryd.underlying26
 have hu56 := Tryd.underlying56
 have hu58 := Tryd.underlying58
 have HB := am_ (Below.refl w.heap.size w)
 have H : (some (10, 13, (([12] : List Int)), (([(⟨(⟨#[118, 105, 112]⟩ : ByteArray), 13⟩ : S56)] : List (S56))), 100, (⟨#[108, 97, 110]⟩ : ByteArray), (([(⟨(⟨#[119, 119, 119, 46, 108, 97, 110]⟩ : ByteArray), 1, 5, 7, (⟨#[]⟩ : ByteArray), (⟨#[]⟩ : ByteArray), 0⟩ : S58)] : List (S58))))) = some (r1, r2, r3, r4, r5, r6, r7) := h
 clear h
 obtain ⟨y122, hy122⟩ : ∃ y_ : List Int, y_ = (([12] : List Int)) := ⟨_, rfl⟩
 replace H : (some (10, 13, y122, (([(⟨(⟨#[118, 105, 112]⟩ : ByteArray), 13⟩ : S56)] : List (S56))), 100, (⟨#[108, 97, 110]⟩ : ByteArray), (([(⟨(⟨#[119, 119, 119, 46, 108, 97, 110]⟩ : ByteArray), 1, 5, 7, (⟨#[]⟩ : ByteArray), (⟨#[]⟩ : ByteArray), 0⟩ : S58)] : List (S58))))) = some (r1, r2, r3, r4, r5, r6, r7) := by first | (rw [hy122]; with_reducible exact H) | (have H2_ := (Option.bind_some _ _).symm.trans H; rw [hy122]; with_reducible exact H2_) | (have H2_ := (Option.bind_some _ _).symm.trans H; with_reducible exact H2_) | with_reducible exact H | (rw [hy122]; exact H) | exact H
 have Ny122 := am_ hy122
 clear hy122
 obtain ⟨y125, hy125⟩ : ∃ y_ : List (S56), y_ = (([(⟨(⟨#[118, 105, 112]⟩ : ByteArray), 13⟩ : S56)] : List (S56))) := ⟨_, rfl⟩
 replace H : (some (10, 13, y122, y125, 100, (⟨#[108, 97, 110]⟩ : ByteArray), (([(⟨(⟨#[119, 119, 119, 46, 108, 97, 110]⟩ : ByteArray), 1, 5, 7, (⟨#[]⟩ : ByteArray), (⟨#[]⟩ : ByteArray), 0⟩ : S58)] : List (S58))))) = some (r1, r2, r3, r4, r5, r6, r7) := by first | (rw [hy125]; with_reducible exact H) | (have H2_ := (Option.bind_some _ _).symm.trans H; rw [hy125]; with_reducible exact H2_) | (have H2_ := (Option.bind_some _ _).symm.trans H; with_reducible exact H2_) | with_reducible exact H | (rw [hy125]; exact H) | exact H
 have Ny125 := am_ hy125
 clear hy125
 obtain ⟨y128, hy128⟩ : ∃ y_ : List (S58), y_ = (([(⟨(⟨#[119, 119, 119, 46, 108, 97, 110]⟩ : ByteArray), 1, 5, 7, (⟨#[]⟩ : ByteArray), (⟨#[]⟩ : ByteArray), 0⟩ : S58)] : List (S58))) := ⟨_, rfl⟩
 replace H : (some (10, 13, y122, y125, 100, (⟨#[108, 97, 110]⟩ : ByteArray), y128)) = some (r1, r2, r3, r4, r5, r6, r7) := by first | (rw [hy128]; with_reducible exact H) | (have H2_ := (Option.bind_some _ _).symm.trans H; rw [hy128]; with_reducible exact H2_) | (have H2_ := (Option.bind_some _ _).symm.trans H; with_reducible exact H2_) | with_reducible exact H | (rw [hy128]; exact H) | exact H
 have Ny128 := am_ hy128
 clear hy128
 simp only [Option.some.injEq, Prod.mk.injEq] at H
 obtain ⟨rfl, rfl, rfl, rfl, rfl, rfl, rfl⟩ := H
 go_enter Tryd.func12, Tryd.ntmps12
 go_wp2_with (first | ((with_reducible refine gate_dst (N := 0) rfl ?_); refine box_event ?hg (N := 0) ?hd (cs := #[.int .i64 0, .int .i64 0, .slice none 0 0, .slice none 0 0, .int .i64 0, .string (⟨#[]⟩ : ByteArray), .slice none 0 0]) (t := 26) ?hr ?_; (case hd => rfl); (case hg => rfl); (case hr => first | (go_simp; done) | (go_simp; rfl)); intro gb121 hg w1 hbox hb; have n0_ := am_ (bt_ (by repeat (with_reducible first | exact HB.out | apply p3_ | apply p1_ | apply p2_)) hb); have n1_ := am_ (hbox); have n2_ := am_ ((by rw [hg]; exact (bz_ (by repeat (with_reducible first | exact HB.out | apply p3_ | apply p1_ | apply p2_))) : w.heap.size ≤ gb121)); have n3_ := am_ ((by rw [hg]; exact (bz_ (by repeat (with_reducible first | exact HB.out | apply p3_ | apply p1_ | apply p2_))) : w.heap.size ≤ gb121)); clear HB; have HB := n0_; have BK121 := n1_; have GW121 := n2_; have GE121 := n3_; clear n0_ n1_ n2_ n3_; clear hb hbox hg) | ((with_reducible refine gate_dst (N := 1) rfl ?_); refine Kd.R_lit (Kd.int .i64) _ 3 ?hg (N := 1) ?hd (xs := ([12] : List Int)) (inner := [.int .i64 12]) (ok := fun _ => True) (okp := fun _ => True) ?hr ?hp (fun _ hk => hk) trivial (Below.refl _ _) (Nat.le_refl _) (by simp) ?_; (case hd => rfl); (case hg => rfl); (case hr => first | (go_simp; done) | (go_simp; rfl)); (case hp => exact (Reps.one (show Kd.M (Kd.int .i64) _ _ _ 12 [.int .i64 12] from rfl) (Reps.none _ _))); intro v123 w2 ho3 hb hg_ hnew_; clear hg_ hnew_; (first | rw [← Ny122.out] at ho3 | (simp only [Int.reduceToNat] at ho3; rw [← Ny122.out] at ho3)); have n0_ := am_ (Kd.R_lower ho3 (bz_ (by repeat (with_reducible first | exact HB.out | apply p3_ | apply p1_ | apply p2_ | refine bs_ ?_ GE121.out)))); have n1_ := am_ (kb_ (g := gb121) (o := .cells #[.int .i64 0, .int .i64 0, .slice none 0 0, .slice none 0 0, .int .i64 0, .string (⟨#[]⟩ : ByteArray), .slice none 0 0] 26 (0, 0)) (by (with_reducible repeat (first | refine k2_ ?_ _ | refine k3_ ?_ | refine k1_ ?_ _)); exact BK121.out) hb); have n2_ := am_ (bt_ (by repeat (with_reducible first | exact HB.out | apply p3_ | apply p1_ | apply p2_ | refine bs_ ?_ GE121.out)) hb); clear BK121; clear HB; have HO124 := n0_; have BK121 := n1_; have HB := n2_; clear n0_ n1_ n2_; clear hb ho3) | ((with_reducible refine gate_dst (N := 3) rfl ?_); refine Kd.R_lit k56 _ 56 ?hg (N := 3) ?hd (xs := ([(⟨(⟨#[118, 105, 112]⟩ : ByteArray), 13⟩ : S56)] : List (S56))) (inner := [.string (⟨#[118, 105, 112]⟩ : ByteArray), .int .i64 13]) (ok := fun _ => True) (okp := fun _ => True) ?hr ?hp (fun _ hk => hk) trivial (Below.refl _ _) (Nat.le_refl _) (by simp) ?_; (case hd => rfl); (case hg => rfl); (case hr => first | (go_simp; done) | (go_simp; rfl)); (case hp => exact (Reps.c2 (show Kd.M k56 _ _ _ (⟨(⟨#[118, 105, 112]⟩ : ByteArray), 13⟩ : S56) [.string (⟨#[118, 105, 112]⟩ : ByteArray), .int .i64 13] from (k56_mkM _ _ _ (⟨(⟨#[118, 105, 112]⟩ : ByteArray), 13⟩ : S56) )) (Reps.none _ _))); intro v126 w4 ho5 hb hg_ hnew_; clear hg_ hnew_; (first | rw [← Ny125.out] at ho5 | (simp only [Int.reduceToNat] at ho5; rw [← Ny125.out] at ho5)); have n0_ := am_ (Kd.R_below (by (with_reducible repeat (first | apply r1_ | apply r2_ | apply r3_)); exact HO124.out) hb); have n1_ := am_ (Kd.R_lower ho5 (bz_ (by repeat (with_reducible first | exact HB.out | apply p3_ | apply p1_ | apply p2_ | refine bs_ ?_ GE121.out)))); have n2_ := am_ (kb_ (g := gb121) (o := .cells #[.int .i64 0, .int .i64 0, .slice none 0 0, .slice none 0 0, .int .i64 0, .string (⟨#[]⟩ : ByteArray), .slice none 0 0] 26 (0, 0)) (by (with_reducible repeat (first | refine k2_ ?_ _ | refine k3_ ?_ | refine k1_ ?_ _)); exact BK121.out) hb); have n3_ := am_ (bt_ (by repeat (with_reducible first | exact HB.out | apply p3_ | apply p1_ | apply p2_ | refine bs_ ?_ GE121.out)) hb); clear HO124; clear BK121; clear HB; have HO124 := n0_; have HO127 := n1_; have BK121 := n2_; have HB := n3_; clear n0_ n1_ n2_ n3_; clear hb ho5) | ((with_reducible refine gate_dst (N := 5) rfl ?_); refine Kd.R_lit k58 _ 58 ?hg (N := 5) ?hd (xs := ([(⟨(⟨#[119, 119, 119, 46, 108, 97, 110]⟩ : ByteArray), 1, 5, 7, (⟨#[]⟩ : ByteArray), (⟨#[]⟩ : ByteArray), 0⟩ : S58)] : List (S58))) (inner := [.string (⟨#[119, 119, 119, 46, 108, 97, 110]⟩ : ByteArray), .int .i64 1, .int .i64 5, .int .i64 7, .string (⟨#[]⟩ : ByteArray), .string (⟨#[]⟩ : ByteArray), .int .i64 0]) (ok := fun _ => True) (okp := fun _ => True) ?hr ?hp (fun _ hk => hk) trivial (Below.refl _ _) (Nat.le_refl _) (by simp) ?_; (case hd => rfl); (case hg => rfl); (case hr => first | (go_simp; done) | (go_simp; rfl)); (case hp => exact (Reps.c7 (show Kd.M k58 _ _ _ (⟨(⟨#[119, 119, 119, 46, 108, 97, 110]⟩ : ByteArray), 1, 5, 7, (⟨#[]⟩ : ByteArray), (⟨#[]⟩ : ByteArray), 0⟩ : S58) [.string (⟨#[119, 119, 119, 46, 108, 97, 110]⟩ : ByteArray), .int .i64 1, .int .i64 5, .int .i64 7, .string (⟨#[]⟩ : ByteArray), .string (⟨#[]⟩ : ByteArray), .int .i64 0] from (k58_mkM _ _ _ (⟨(⟨#[119, 119, 119, 46, 108, 97, 110]⟩ : ByteArray), 1, 5, 7, (⟨#[]⟩ : ByteArray), (⟨#[]⟩ : ByteArray), 0⟩ : S58) )) (Reps.none _ _))); intro v129 w6 ho7 hb hg_ hnew_; clear hg_ hnew_; (first | rw [← Ny128.out] at ho7 | (simp only [Int.reduceToNat] at ho7; rw [← Ny128.out] at ho7)); have n0_ := am_ (Kd.R_below (by (with_reducible repeat (first | apply r1_ | apply r2_ | apply r3_)); exact HO124.out) hb); have n1_ := am_ (Kd.R_below (by (with_reducible repeat (first | apply r1_ | apply r2_ | apply r3_)); exact HO127.out) hb); have n2_ := am_ (Kd.R_lower ho7 (bz_ (by repeat (with_reducible first | exact HB.out | apply p3_ | apply p1_ | apply p2_ | refine bs_ ?_ GE121.out)))); have n3_ := am_ (kb_ (g := gb121) (o := .cells #[.int .i64 0, .int .i64 0, .slice none 0 0, .slice none 0 0, .int .i64 0, .string (⟨#[]⟩ : ByteArray), .slice none 0 0] 26 (0, 0)) (by (with_reducible repeat (first | refine k2_ ?_ _ | refine k3_ ?_ | refine k1_ ?_ _)); exact BK121.out) hb); have n4_ := am_ (bt_ (by repeat (with_reducible first | exact HB.out | apply p3_ | apply p1_ | apply p2_ | refine bs_ ?_ GE121.out)) hb); clear HO124; clear HO127; clear BK121; clear HB; have HO124 := n0_; have HO127 := n1_; have HO130 := n2_; have BK121 := n3_; have HB := n4_; clear n0_ n1_ n2_ n3_ n4_; clear hb ho7; obtain ⟨Ao8, co8, eo8⟩ := Kd.R_slice HO130.out; subst eo8; obtain ⟨Ao9, co9, eo9⟩ := Kd.R_slice HO127.out; subst eo9; obtain ⟨Ao10, co10, eo10⟩ := Kd.R_slice HO124.out; subst eo10; have hcz11_0 : w6.cell? ⟨gb121, 0, none⟩ = some (.int .i64 0) := (bc_ BK121.out 0).trans rfl; have hcz11_1 : w6.cell? ⟨gb121, 1, none⟩ = some (.int .i64 0) := (bc_ BK121.out 1).trans rfl; have hcz11_2 : w6.cell? ⟨gb121, 2, none⟩ = some (.slice none 0 0) := (bc_ BK121.out 2).trans rfl; have hcz11_3 : w6.cell? ⟨gb121, 3, none⟩ = some (.slice none 0 0) := (bc_ BK121.out 3).trans rfl; have hcz11_4 : w6.cell? ⟨gb121, 4, none⟩ = some (.int .i64 0) := (bc_ BK121.out 4).trans rfl; have hcz11_5 : w6.cell? ⟨gb121, 5, none⟩ = some (.string (⟨#[]⟩ : ByteArray)) := (bc_ BK121.out 5).trans rfl; have hcz11_6 : w6.cell? ⟨gb121, 6, none⟩ = some (.slice none 0 0) := (bc_ BK121.out 6).trans rfl; have hfz11_0 := bf_ BK121.out 0; have hfz11_1 := bf_ BK121.out 1; have hfz11_2 := bf_ BK121.out 2; have hfz11_3 := bf_ BK121.out 3; have hfz11_4 := bf_ BK121.out 4; have hfz11_5 := bf_ BK121.out 5; have hfz11_6 := bf_ BK121.out 6))
 refine bodyPost_ret (results_cell_row rfl _ _ gb121 26 #[.int .i64 10, .int .i64 13, .slice Ao10 y122.length co10, .slice Ao9 y125.length co9, .int .i64 100, .string (⟨#[108, 97, 110]⟩ : ByteArray), .slice Ao8 y128.length co8] (0, 0) _ rfl (by (with_reducible repeat (first | refine k2_ ?_ _ | refine k3_ ?_ | refine k1_ ?_ _)); refine blk_put (cs := #[.int .i64 10, .int .i64 13, .slice Ao10 y122.length co10, .slice Ao9 y125.length co9, .int .i64 100, .string (⟨#[108, 97, 110]⟩ : ByteArray), .slice none 0 0]) ?_ 6 _ rfl; (with_reducible repeat (first | refine k2_ ?_ _ | refine k3_ ?_ | refine k1_ ?_ _)); refine blk_put (cs := #[.int .i64 10, .int .i64 13, .slice Ao10 y122.length co10, .slice Ao9 y125.length co9, .int .i64 100, .string (⟨#[]⟩ : ByteArray), .slice none 0 0]) ?_ 5 _ rfl; (with_reducible repeat (first | refine k2_ ?_ _ | refine k3_ ?_ | refine k1_ ?_ _)); refine blk_put (cs := #[.int .i64 10, .int .i64 13, .slice Ao10 y122.length co10, .slice Ao9 y125.length co9, .int .i64 0, .string (⟨#[]⟩ : ByteArray), .slice none 0 0]) ?_ 4 _ rfl; (with_reducible repeat (first | refine k2_ ?_ _ | refine k3_ ?_ | refine k1_ ?_ _)); refine blk_put (cs := #[.int .i64 10, .int .i64 13, .slice Ao10 y122.length co10, .slice none 0 0, .int .i64 0, .string (⟨#[]⟩ : ByteArray), .slice none 0 0]) ?_ 3 _ rfl; (with_reducible repeat (first | refine k2_ ?_ _ | refine k3_ ?_ | refine k1_ ?_ _)); refine blk_put (cs := #[.int .i64 10, .int .i64 13, .slice none 0 0, .slice none 0 0, .int .i64 0, .string (⟨#[]⟩ : ByteArray), .slice none 0 0]) ?_ 2 _ rfl; (with_reducible repeat (first | refine k2_ ?_ _ | refine k3_ ?_ | refine k1_ ?_ _)); refine blk_put (cs := #[.int .i64 10, .int .i64 0, .slice none 0 0, .slice none 0 0, .int .i64 0, .string (⟨#[]⟩ : ByteArray), .slice none 0 0]) ?_ 1 _ rfl; (with_reducible repeat (first | refine k2_ ?_ _ | refine k3_ ?_ | refine k1_ ?_ _)); refine blk_put (cs := #[.int .i64 0, .int .i64 0, .slice none 0 0, .slice none 0 0, .int .i64 0, .string (⟨#[]⟩ : ByteArray), .slice none 0 0]) ?_ 0 _ rfl; (with_reducible repeat (first | refine k2_ ?_ _ | refine k3_ ?_ | refine k1_ ?_ _)); exact BK121.out) Tryd.underlying26 rfl (by kernel_rfl)) rfl ?_
 exact ⟨_, _, _, by first | rfl | (simp [errW_none, errW_some] <;> rfl) | (simp [*, errW_none, errW_some] <;> rfl), by (with_reducible repeat (first | apply r1_ | apply r2_ | apply r3_)); exact Kd.R_mono (Kd.R_far (p := ⟨gb121, 6, none⟩) (Kd.R_far (p := ⟨gb121, 5, none⟩) (Kd.R_far (p := ⟨gb121, 4, none⟩) (Kd.R_far (p := ⟨gb121, 3, none⟩) (Kd.R_far (p := ⟨gb121, 2, none⟩) (Kd.R_far (p := ⟨gb121, 1, none⟩) (Kd.R_far (p := ⟨gb121, 0, none⟩) (Kd.R_types HO124.out BK121.out (by decide)) (fun _ hk => hk.2) (.int .i64 10)) (fun _ hk => hk.2) (.int .i64 13)) (fun _ hk => hk.2) (.slice Ao10 y122.length co10)) (fun _ hk => hk.2) (.slice Ao9 y125.length co9)) (fun _ hk => hk.2) (.int .i64 100)) (fun _ hk => hk.2) (.string (⟨#[108, 97, 110]⟩ : ByteArray))) (fun _ hk => hk.2) (.slice Ao8 y128.length co8)) (fun _ hk => trivial), by (with_reducible repeat (first | apply r1_ | apply r2_ | apply r3_)); exact Kd.R_mono (Kd.R_far (p := ⟨gb121, 6, none⟩) (Kd.R_far (p := ⟨gb121, 5, none⟩) (Kd.R_far (p := ⟨gb121, 4, none⟩) (Kd.R_far (p := ⟨gb121, 3, none⟩) (Kd.R_far (p := ⟨gb121, 2, none⟩) (Kd.R_far (p := ⟨gb121, 1, none⟩) (Kd.R_far (p := ⟨gb121, 0, none⟩) (Kd.R_types HO127.out BK121.out (by decide)) (fun _ hk => hk.2) (.int .i64 10)) (fun _ hk => hk.2) (.int .i64 13)) (fun _ hk => hk.2) (.slice Ao10 y122.length co10)) (fun _ hk => hk.2) (.slice Ao9 y125.length co9)) (fun _ hk => hk.2) (.int .i64 100)) (fun _ hk => hk.2) (.string (⟨#[108, 97, 110]⟩ : ByteArray))) (fun _ hk => hk.2) (.slice Ao8 y128.length co8)) (fun _ hk => trivial), by (with_reducible repeat (first | apply r1_ | apply r2_ | apply r3_)); exact Kd.R_mono (Kd.R_far (p := ⟨gb121, 6, none⟩) (Kd.R_far (p := ⟨gb121, 5, none⟩) (Kd.R_far (p := ⟨gb121, 4, none⟩) (Kd.R_far (p := ⟨gb121, 3, none⟩) (Kd.R_far (p := ⟨gb121, 2, none⟩) (Kd.R_far (p := ⟨gb121, 1, none⟩) (Kd.R_far (p := ⟨gb121, 0, none⟩) (Kd.R_types HO130.out BK121.out (by decide)) (fun _ hk => hk.2) (.int .i64 10)) (fun _ hk => hk.2) (.int .i64 13)) (fun _ hk => hk.2) (.slice Ao10 y122.length co10)) (fun _ hk => hk.2) (.slice Ao9 y125.length co9)) (fun _ hk => hk.2) (.int .i64 100)) (fun _ hk => hk.2) (.string (⟨#[108, 97, 110]⟩ : ByteArray))) (fun _ hk => hk.2) (.slice Ao8 y128.length co8)) (fun _ hk => trivial), by repeat (with_reducible first | exact HB.out | apply p3_ | apply p1_ | apply p2_ | refine bs_ ?_ GE121.out)⟩

/-! ### pinfoldlaw0_SameLeases: function 13 -/
def pinfoldlaw0_SameLeases.l0 : Nat → List (S35) → List (S35) → Int → Option (Bool)
 | 0, _, _, _ => none
 | k + 1, x0, x1, x5 => if x5 < (x0.length : Int) then (if 0 ≤ x5 then (if x5 < (x1.length : Int) then (if (!(((rd_T35 x0 x5).f0) == ((rd_T35 x1 x5).f0)) || (!(((rd_T35 x0 x5).f1) == ((rd_T35 x1 x5).f1)) || (!((((rd_T35 x0 x5).f2).toList) == (((rd_T35 x1 x5).f2).toList)) || (!(((rd_T35 x0 x5).f3) == ((rd_T35 x1 x5).f3)) || (!((((rd_T35 x0 x5).f4).toList) == (((rd_T35 x1 x5).f4).toList)) || (!(((rd_T35 x0 x5).f5) == ((rd_T35 x1 x5).f5)))))))) = true then (some false) else (pinfoldlaw0_SameLeases.l0 k x0 x1 (wrap64 (x5 + 1)))) else (none)) else (none)) else (some true)
def pinfoldlaw0_SameLeases.f (k : Nat) (l0 : List (S35)) (l1 : List (S35)) : Option (Bool) := if (l0.length : Int) = (l1.length : Int) then (pinfoldlaw0_SameLeases.l0 k l0 l1 0) else (some false)
theorem pinfoldlaw0_SameLeases.mono_l : ∀ k, (∀ y0 y1 y2, LeO (pinfoldlaw0_SameLeases.l0 k y0 y1 y2) (pinfoldlaw0_SameLeases.l0 (k + 1) y0 y1 y2))
 | 0 => fun _ _ _ r h => by simp [pinfoldlaw0_SameLeases.l0] at h
 | k + 1 => by
  have ih0 := pinfoldlaw0_SameLeases.mono_l k
  ·intro y0 y1 y2
   unfold pinfoldlaw0_SameLeases.l0
   repeat' first
   | (with_reducible exact ih0 _ _ _)
   | (with_reducible exact LeO.refl _)
   | (with_reducible exact LeO.none _)
   | (with_reducible refine LeO.ite ?_ ?_)
   | (with_reducible refine LeO.bind ?_ (fun _ => ?_))
   | exact ih0 _ _ _
   | exact LeO.none _
   | refine LeO.ite ?_ ?_
   | refine LeO.bind ?_ (fun _ => ?_)
theorem pinfoldlaw0_SameLeases.mono : ∀ a0 a1 k, LeO (pinfoldlaw0_SameLeases.f k a0 a1) (pinfoldlaw0_SameLeases.f (k + 1) a0 a1) := by
 intro a0 a1 k
 have ih0 := pinfoldlaw0_SameLeases.mono_l k
 unfold pinfoldlaw0_SameLeases.f
 repeat' first
   | (with_reducible exact ih0 _ _ _)
   | (with_reducible exact LeO.refl _)
   | (with_reducible exact LeO.none _)
   | (with_reducible refine LeO.ite ?_ ?_)
   | (with_reducible refine LeO.bind ?_ (fun _ => ?_))
   | exact ih0 _ _ _
   | exact LeO.none _
   | refine LeO.ite ?_ ?_
   | refine LeO.bind ?_ (fun _ => ?_)
set_option maxHeartbeats 8000000 in
set_option maxRecDepth 100000 in
theorem pinfoldlaw0_SameLeases.calls (k : Nat) (A0 : Option Addr) (c0 : Nat) (l0 : List (S35)) (A1 : Option Addr) (c1 : Nat) (l1 : List (S35)) (r : Bool) (w : World) (hr0 : Kd.C k35 w A0 l0.length l0) (hc0 : l0.length ≤ c0) (hr1 : Kd.C k35 w A1 l1.length l1) (hc1 : l1.length ≤ c1) (h : pinfoldlaw0_SameLeases.f k l0 l1 = some r) :
  Calls Tryd.prog 13 #[.slice A0 l0.length c0, .slice A1 l1.length c1] w fun e w' => e = .returned (.bool r) ∧ Drawn0 w w' := by
 have hu35 := Tryd.underlying35
 have HR0 := am_ hr0
 have HC0 := am_ hc0
 clear hr0 hc0
 have HR1 := am_ hr1
 have HC1 := am_ hc1
 clear hr1 hc1
 have H : (if (l0.length : Int) = (l1.length : Int) then (pinfoldlaw0_SameLeases.l0 k l0 l1 0) else (some false)) = some r := h
 clear h
 by_cases c3 : (l0.length : Int) = (l1.length : Int)
 ·rw [if_pos c3] at H
  have c3b0 : ((l0.length : Int) == (l1.length : Int)) = true := beq_iff_eq.mpr c3
  have c3b1 : ((l0.length : Int) != (l1.length : Int)) = false := e1_ c3
  have c3b2 : (l0.length == l1.length) = true := by first | simpa using c3 | (simp at c3 ⊢; omega)
  clear c3
  have H' := am_ H
  clear H
  go_enter Tryd.func13, Tryd.ntmps13
  go_wp2
  repeat (go_quiet (fail); try go_wp2)
  go_loopg [5] k (fun kq v5 w' => ∃ (x5_1 : Int), v5 = .int .i64 x5_1 ∧ Aside0 (pinfoldlaw0_SameLeases.l0 kq l0 l1 x5_1 = some r) ∧ Aside0 (kq ≤ k) ∧ Drawn0 w w')
  case atStart => exact ⟨(0), (by first | rfl | (simp; done) | (simp [*]; done)), H', ⟨Nat.le_refl _⟩, by repeat (first | exact Drawn0.refl _ | apply Drawn0.step)⟩
  case round =>
   clear H'
   (try clear c1); (try clear c3); (try clear c3b0); (try clear c3b1); (try clear c3b2)
   obtain ⟨x5_1, rfl, HA, HK1, ⟨m1, rfl⟩⟩ := hrel
   cases gk with
   | zero => exact absurd HA.out (by simp [pinfoldlaw0_SameLeases.l0])
   | succ k1 =>
    have H := HA.out
    clear HA
    simp only [pinfoldlaw0_SameLeases.l0] at H
    by_cases c4 : x5_1 < (l0.length : Int)
    ·rw [if_pos c4] at H
     have c4b0 : decide (x5_1 < (l0.length : Int)) = true := decide_eq_true c4
     clear c4
     by_cases c5 : 0 ≤ x5_1
     rotate_left
     ·rw [if_neg c5] at H
      exact absurd H (by simp)
     rw [if_pos c5] at H
     have c5b0 : decide (0 ≤ x5_1) = true := decide_eq_true c5
     clear c5
     by_cases c6 : x5_1 < (l1.length : Int)
     rotate_left
     ·rw [if_neg c6] at H
      exact absurd H (by simp)
     rw [if_pos c6] at H
     have c6b0 : decide (x5_1 < (l1.length : Int)) = true := decide_eq_true c6
     clear c6
     by_cases c7 : (!(((rd_T35 l0 x5_1).f0) == ((rd_T35 l1 x5_1).f0)) || (!(((rd_T35 l0 x5_1).f1) == ((rd_T35 l1 x5_1).f1)) || (!((((rd_T35 l0 x5_1).f2).toList) == (((rd_T35 l1 x5_1).f2).toList)) || (!(((rd_T35 l0 x5_1).f3) == ((rd_T35 l1 x5_1).f3)) || (!((((rd_T35 l0 x5_1).f4).toList) == (((rd_T35 l1 x5_1).f4).toList)) || (!(((rd_T35 l0 x5_1).f5) == ((rd_T35 l1 x5_1).f5)))))))) = true
     ·rw [if_pos c7] at H
      have c7b0 : (!(((rd_T35 l0 x5_1).f0) == ((rd_T35 l1 x5_1).f0)) || (!(((rd_T35 l0 x5_1).f1) == ((rd_T35 l1 x5_1).f1)) || (!((((rd_T35 l0 x5_1).f2).toList) == (((rd_T35 l1 x5_1).f2).toList)) || (!(((rd_T35 l0 x5_1).f3) == ((rd_T35 l1 x5_1).f3)) || (!((((rd_T35 l0 x5_1).f4).toList) == (((rd_T35 l1 x5_1).f4).toList)) || (!(((rd_T35 l0 x5_1).f5) == ((rd_T35 l1 x5_1).f5)))))))) = true := c7
      clear c7
      obtain rfl := e5_ H
      have p131 : 0 ≤ (x5_1 : Int) := of_decide_eq_true (by first | (with_reducible assumption) | assumption)
      have q131 : x5_1 < (l0.length : Int) := of_decide_eq_true (by first | (with_reducible assumption) | assumption)
      obtain ⟨ad131, e131, hx131_0, hx131_1, hx131_2, hx131_3, hx131_4, hx131_5⟩ := at_T35 HR0.out x5_1 p131 q131
      cases e131
      replace p131 := eq_true p131
      replace q131 := eq_true q131
      have p132 : 0 ≤ (x5_1 : Int) := of_decide_eq_true (by first | (with_reducible assumption) | assumption)
      have q132 : x5_1 < (l1.length : Int) := of_decide_eq_true (by first | (with_reducible assumption) | assumption)
      obtain ⟨ad132, e132, hx132_0, hx132_1, hx132_2, hx132_3, hx132_4, hx132_5⟩ := at_T35 HR1.out x5_1 p132 q132
      cases e132
      replace p132 := eq_true p132
      replace q132 := eq_true q132
      go_wp2
      repeat (go_quiet (fail); try go_wp2)
      go_ret
      exact ⟨by first | rfl | (simp; done) | (simp [*]; done), by repeat (first | exact Drawn0.refl _ | apply Drawn0.step)⟩
     rw [if_neg c7] at H
     have c7b0 : (!(((rd_T35 l0 x5_1).f0) == ((rd_T35 l1 x5_1).f0)) || (!(((rd_T35 l0 x5_1).f1) == ((rd_T35 l1 x5_1).f1)) || (!((((rd_T35 l0 x5_1).f2).toList) == (((rd_T35 l1 x5_1).f2).toList)) || (!(((rd_T35 l0 x5_1).f3) == ((rd_T35 l1 x5_1).f3)) || (!((((rd_T35 l0 x5_1).f4).toList) == (((rd_T35 l1 x5_1).f4).toList)) || (!(((rd_T35 l0 x5_1).f5) == ((rd_T35 l1 x5_1).f5)))))))) = false := by simpa using c7
     clear c7
     have H' := am_ H
     clear H
     have p131 : 0 ≤ (x5_1 : Int) := of_decide_eq_true (by first | (with_reducible assumption) | assumption)
     have q131 : x5_1 < (l0.length : Int) := of_decide_eq_true (by first | (with_reducible assumption) | assumption)
     obtain ⟨ad131, e131, hx131_0, hx131_1, hx131_2, hx131_3, hx131_4, hx131_5⟩ := at_T35 HR0.out x5_1 p131 q131
     cases e131
     replace p131 := eq_true p131
     replace q131 := eq_true q131
     have p132 : 0 ≤ (x5_1 : Int) := of_decide_eq_true (by first | (with_reducible assumption) | assumption)
     have q132 : x5_1 < (l1.length : Int) := of_decide_eq_true (by first | (with_reducible assumption) | assumption)
     obtain ⟨ad132, e132, hx132_0, hx132_1, hx132_2, hx132_3, hx132_4, hx132_5⟩ := at_T35 HR1.out x5_1 p132 q132
     cases e132
     replace p132 := eq_true p132
     replace q132 := eq_true q132
     go_wp2
     repeat (go_quiet (fail); try go_wp2)
     go_roundg k1
     case measure => have := HK1.out; omega
     case rel => exact ⟨(wrap64 (x5_1 + 1)), (by first | rfl | (simp; done) | (simp [*]; done)), H', ⟨by have := HK1.out; omega⟩, by repeat (first | exact Drawn0.refl _ | apply Drawn0.step)⟩
    rw [if_neg c4] at H
    have c4b0 : decide (x5_1 < (l0.length : Int)) = false := decide_eq_false c4
    clear c4
    obtain rfl := e5_ H
    go_wp2
    repeat (go_quiet (fail); try go_wp2)
    go_ret
    exact ⟨by first | rfl | (simp; done) | (simp [*]; done), by repeat (first | exact Drawn0.refl _ | apply Drawn0.step)⟩
 rw [if_neg c3] at H
 have c3b0 : ((l0.length : Int) == (l1.length : Int)) = false := e2_ c3
 have c3b1 : ((l0.length : Int) != (l1.length : Int)) = true := bne_iff_ne.mpr c3
 have c3b2 : (l0.length == l1.length) = false := by first | simpa using c3 | (simp at c3 ⊢; omega)
 obtain rfl := e5_ H
 go_enter Tryd.func13, Tryd.ntmps13
 go_wp2
 repeat (go_quiet (fail); try go_wp2)
 go_ret
 exact ⟨by first | rfl | (simp; done) | (simp [*]; done), by repeat (first | exact Drawn0.refl _ | apply Drawn0.step)⟩

/-! ### pinfoldlaw15_awake: function 6 -/
def pinfoldlaw15_awake.f (k : Nat)  : Option (Bool) := (pinfoldlaw15_given.f).bind fun bt133 => ((offer_Offer.f bt133.1 bt133.2.1 bt133.2.2.1 bt133.2.2.2.1 bt133.2.2.2.2.1 bt133.2.2.2.2.2.1 bt133.2.2.2.2.2.2 ([] : List (S35)) 5 (⟨#[109, 101]⟩ : ByteArray) 0).bind fun bt147 => ((offer_Offer.f bt133.1 bt133.2.1 bt133.2.2.1 bt133.2.2.2.1 bt133.2.2.2.2.1 bt133.2.2.2.2.2.1 bt133.2.2.2.2.2.2 bt147.1 6 (⟨#[109, 101]⟩ : ByteArray) 11).bind fun bt152 => ((offer_Offer.f bt133.1 bt133.2.1 bt133.2.2.1 bt133.2.2.2.1 bt133.2.2.2.2.1 bt133.2.2.2.2.2.1 bt133.2.2.2.2.2.2 bt147.1 6 (⟨#[]⟩ : ByteArray) 0).bind fun bt157 => ((pinfoldlaw0_SameLeases.f k bt147.1 (([(⟨10, 1, (⟨#[109, 101]⟩ : ByteArray), 13, (⟨#[]⟩ : ByteArray), false⟩ : S35)] : List (S35)))).bind fun t165 => (if t165 = true then (if bt147.2.1 = 10 then ((pinfoldlaw0_Num.f bt147.2.2).bind fun t166 => (if t166 = 0 then ((pinfoldlaw0_SameLeases.f k bt152.1 (([(⟨10, 1, (⟨#[109, 101]⟩ : ByteArray), 14, (⟨#[]⟩ : ByteArray), false⟩ : S35)] : List (S35)))).bind fun t170 => (if t170 = true then (if bt152.2.1 = 10 then ((pinfoldlaw0_Num.f bt152.2.2).bind fun t171 => (if t171 = 0 then ((pinfoldlaw0_Num.f bt157.2.2).bind fun t172 => (some (t172 == 1500))) else (none))) else (none)) else (none))) else (none))) else (none)) else (none))))))
theorem pinfoldlaw15_awake.mono : ∀ k, LeO (pinfoldlaw15_awake.f k ) (pinfoldlaw15_awake.f (k + 1) ) := by
 intro  k
 unfold pinfoldlaw15_awake.f
 repeat' first
   | (with_reducible exact pinfoldlaw0_SameLeases.mono _ _ _)
   | (with_reducible exact LeO.refl _)
   | (with_reducible exact LeO.none _)
   | (with_reducible refine LeO.ite ?_ ?_)
   | (with_reducible refine LeO.bind ?_ (fun _ => ?_))
   | exact pinfoldlaw0_SameLeases.mono _ _ _
   | exact LeO.none _
   | refine LeO.ite ?_ ?_
   | refine LeO.bind ?_ (fun _ => ?_)
set_option maxHeartbeats 8000000 in
set_option maxRecDepth 100000 in
theorem pinfoldlaw15_awake.calls (k : Nat)  (r : Bool) (w : World) (h : pinfoldlaw15_awake.f k  = some r) :
  Calls Tryd.prog 6 #[] w fun e w' => e = .returned (.bool r) ∧ Below w.heap.size w w' := by
 have hu26 := Tryd.underlying26
 have hu35 := Tryd.underlying35
 have HB := am_ (Below.refl w.heap.size w)
 have H : ((pinfoldlaw15_given.f).bind fun bt133 => ((offer_Offer.f bt133.1 bt133.2.1 bt133.2.2.1 bt133.2.2.2.1 bt133.2.2.2.2.1 bt133.2.2.2.2.2.1 bt133.2.2.2.2.2.2 ([] : List (S35)) 5 (⟨#[109, 101]⟩ : ByteArray) 0).bind fun bt147 => ((offer_Offer.f bt133.1 bt133.2.1 bt133.2.2.1 bt133.2.2.2.1 bt133.2.2.2.2.1 bt133.2.2.2.2.2.1 bt133.2.2.2.2.2.2 bt147.1 6 (⟨#[109, 101]⟩ : ByteArray) 11).bind fun bt152 => ((offer_Offer.f bt133.1 bt133.2.1 bt133.2.2.1 bt133.2.2.2.1 bt133.2.2.2.2.1 bt133.2.2.2.2.2.1 bt133.2.2.2.2.2.2 bt147.1 6 (⟨#[]⟩ : ByteArray) 0).bind fun bt157 => ((pinfoldlaw0_SameLeases.f k bt147.1 (([(⟨10, 1, (⟨#[109, 101]⟩ : ByteArray), 13, (⟨#[]⟩ : ByteArray), false⟩ : S35)] : List (S35)))).bind fun t165 => (if t165 = true then (if bt147.2.1 = 10 then ((pinfoldlaw0_Num.f bt147.2.2).bind fun t166 => (if t166 = 0 then ((pinfoldlaw0_SameLeases.f k bt152.1 (([(⟨10, 1, (⟨#[109, 101]⟩ : ByteArray), 14, (⟨#[]⟩ : ByteArray), false⟩ : S35)] : List (S35)))).bind fun t170 => (if t170 = true then (if bt152.2.1 = 10 then ((pinfoldlaw0_Num.f bt152.2.2).bind fun t171 => (if t171 = 0 then ((pinfoldlaw0_Num.f bt157.2.2).bind fun t172 => (some (t172 == 1500))) else (none))) else (none)) else (none))) else (none))) else (none)) else (none))))))) = some r := h
 clear h
 replace H := e4_ H
 obtain ⟨⟨t133, t134, t135, t138, t141, t142, t143⟩, A10, H⟩ := H
 replace H : ((offer_Offer.f t133 t134 t135 t138 t141 t142 t143 ([] : List (S35)) 5 (⟨#[109, 101]⟩ : ByteArray) 0).bind fun bt147 => ((offer_Offer.f t133 t134 t135 t138 t141 t142 t143 bt147.1 6 (⟨#[109, 101]⟩ : ByteArray) 11).bind fun bt152 => ((offer_Offer.f t133 t134 t135 t138 t141 t142 t143 bt147.1 6 (⟨#[]⟩ : ByteArray) 0).bind fun bt157 => ((pinfoldlaw0_SameLeases.f k bt147.1 (([(⟨10, 1, (⟨#[109, 101]⟩ : ByteArray), 13, (⟨#[]⟩ : ByteArray), false⟩ : S35)] : List (S35)))).bind fun t165 => (if t165 = true then (if bt147.2.1 = 10 then ((pinfoldlaw0_Num.f bt147.2.2).bind fun t166 => (if t166 = 0 then ((pinfoldlaw0_SameLeases.f k bt152.1 (([(⟨10, 1, (⟨#[109, 101]⟩ : ByteArray), 14, (⟨#[]⟩ : ByteArray), false⟩ : S35)] : List (S35)))).bind fun t170 => (if t170 = true then (if bt152.2.1 = 10 then ((pinfoldlaw0_Num.f bt152.2.2).bind fun t171 => (if t171 = 0 then ((pinfoldlaw0_Num.f bt157.2.2).bind fun t172 => (some (t172 == 1500))) else (none))) else (none)) else (none))) else (none))) else (none)) else (none)))))) = some r := H
 have A1 := am_ A10
 clear A10
 replace H := e4_ H
 obtain ⟨⟨t147, t150, t151⟩, A20, H⟩ := H
 replace H : ((offer_Offer.f t133 t134 t135 t138 t141 t142 t143 t147 6 (⟨#[109, 101]⟩ : ByteArray) 11).bind fun bt152 => ((offer_Offer.f t133 t134 t135 t138 t141 t142 t143 t147 6 (⟨#[]⟩ : ByteArray) 0).bind fun bt157 => ((pinfoldlaw0_SameLeases.f k t147 (([(⟨10, 1, (⟨#[109, 101]⟩ : ByteArray), 13, (⟨#[]⟩ : ByteArray), false⟩ : S35)] : List (S35)))).bind fun t165 => (if t165 = true then (if t150 = 10 then ((pinfoldlaw0_Num.f t151).bind fun t166 => (if t166 = 0 then ((pinfoldlaw0_SameLeases.f k bt152.1 (([(⟨10, 1, (⟨#[109, 101]⟩ : ByteArray), 14, (⟨#[]⟩ : ByteArray), false⟩ : S35)] : List (S35)))).bind fun t170 => (if t170 = true then (if bt152.2.1 = 10 then ((pinfoldlaw0_Num.f bt152.2.2).bind fun t171 => (if t171 = 0 then ((pinfoldlaw0_Num.f bt157.2.2).bind fun t172 => (some (t172 == 1500))) else (none))) else (none)) else (none))) else (none))) else (none)) else (none))))) = some r := H
 have A2 := am_ A20
 clear A20
 replace H := e4_ H
 obtain ⟨⟨t152, t155, t156⟩, A30, H⟩ := H
 replace H : ((offer_Offer.f t133 t134 t135 t138 t141 t142 t143 t147 6 (⟨#[]⟩ : ByteArray) 0).bind fun bt157 => ((pinfoldlaw0_SameLeases.f k t147 (([(⟨10, 1, (⟨#[109, 101]⟩ : ByteArray), 13, (⟨#[]⟩ : ByteArray), false⟩ : S35)] : List (S35)))).bind fun t165 => (if t165 = true then (if t150 = 10 then ((pinfoldlaw0_Num.f t151).bind fun t166 => (if t166 = 0 then ((pinfoldlaw0_SameLeases.f k t152 (([(⟨10, 1, (⟨#[109, 101]⟩ : ByteArray), 14, (⟨#[]⟩ : ByteArray), false⟩ : S35)] : List (S35)))).bind fun t170 => (if t170 = true then (if t155 = 10 then ((pinfoldlaw0_Num.f t156).bind fun t171 => (if t171 = 0 then ((pinfoldlaw0_Num.f bt157.2.2).bind fun t172 => (some (t172 == 1500))) else (none))) else (none)) else (none))) else (none))) else (none)) else (none)))) = some r := H
 have A3 := am_ A30
 clear A30
 replace H := e4_ H
 obtain ⟨⟨t157, t160, t161⟩, A40, H⟩ := H
 replace H : ((pinfoldlaw0_SameLeases.f k t147 (([(⟨10, 1, (⟨#[109, 101]⟩ : ByteArray), 13, (⟨#[]⟩ : ByteArray), false⟩ : S35)] : List (S35)))).bind fun t165 => (if t165 = true then (if t150 = 10 then ((pinfoldlaw0_Num.f t151).bind fun t166 => (if t166 = 0 then ((pinfoldlaw0_SameLeases.f k t152 (([(⟨10, 1, (⟨#[109, 101]⟩ : ByteArray), 14, (⟨#[]⟩ : ByteArray), false⟩ : S35)] : List (S35)))).bind fun t170 => (if t170 = true then (if t155 = 10 then ((pinfoldlaw0_Num.f t156).bind fun t171 => (if t171 = 0 then ((pinfoldlaw0_Num.f t161).bind fun t172 => (some (t172 == 1500))) else (none))) else (none)) else (none))) else (none))) else (none)) else (none))) = some r := H
 have A4 := am_ A40
 clear A40
 obtain ⟨y162, hy162⟩ : ∃ y_ : List (S35), y_ = (([(⟨10, 1, (⟨#[109, 101]⟩ : ByteArray), 13, (⟨#[]⟩ : ByteArray), false⟩ : S35)] : List (S35))) := ⟨_, rfl⟩
 replace H : ((pinfoldlaw0_SameLeases.f k t147 y162).bind fun t165 => (if t165 = true then (if t150 = 10 then ((pinfoldlaw0_Num.f t151).bind fun t166 => (if t166 = 0 then ((pinfoldlaw0_SameLeases.f k t152 (([(⟨10, 1, (⟨#[109, 101]⟩ : ByteArray), 14, (⟨#[]⟩ : ByteArray), false⟩ : S35)] : List (S35)))).bind fun t170 => (if t170 = true then (if t155 = 10 then ((pinfoldlaw0_Num.f t156).bind fun t171 => (if t171 = 0 then ((pinfoldlaw0_Num.f t161).bind fun t172 => (some (t172 == 1500))) else (none))) else (none)) else (none))) else (none))) else (none)) else (none))) = some r := by first | (rw [hy162]; with_reducible exact H) | (have H2_ := (Option.bind_some _ _).symm.trans H; rw [hy162]; with_reducible exact H2_) | (have H2_ := (Option.bind_some _ _).symm.trans H; with_reducible exact H2_) | with_reducible exact H | (rw [hy162]; exact H) | exact H
 have Ny162 := am_ hy162
 clear hy162
 replace H := e4_ H
 obtain ⟨t165, A50, H⟩ := H
 replace H : (if t165 = true then (if t150 = 10 then ((pinfoldlaw0_Num.f t151).bind fun t166 => (if t166 = 0 then ((pinfoldlaw0_SameLeases.f k t152 (([(⟨10, 1, (⟨#[109, 101]⟩ : ByteArray), 14, (⟨#[]⟩ : ByteArray), false⟩ : S35)] : List (S35)))).bind fun t170 => (if t170 = true then (if t155 = 10 then ((pinfoldlaw0_Num.f t156).bind fun t171 => (if t171 = 0 then ((pinfoldlaw0_Num.f t161).bind fun t172 => (some (t172 == 1500))) else (none))) else (none)) else (none))) else (none))) else (none)) else (none)) = some r := H
 have A5 := am_ A50
 clear A50
 by_cases c6 : t165 = true
 ·subst c6
  have H1 : (if t150 = 10 then ((pinfoldlaw0_Num.f t151).bind fun t166 => (if t166 = 0 then ((pinfoldlaw0_SameLeases.f k t152 (([(⟨10, 1, (⟨#[109, 101]⟩ : ByteArray), 14, (⟨#[]⟩ : ByteArray), false⟩ : S35)] : List (S35)))).bind fun t170 => (if t170 = true then (if t155 = 10 then ((pinfoldlaw0_Num.f t156).bind fun t171 => (if t171 = 0 then ((pinfoldlaw0_Num.f t161).bind fun t172 => (some (t172 == 1500))) else (none))) else (none)) else (none))) else (none))) else (none)) = some r := by rw [if_pos rfl] at H; exact H
  clear H
  have H := H1
  clear H1
  by_cases c7 : t150 = 10
  rotate_left
  ·rw [if_neg c7] at H
   exact absurd H (by simp)
  rw [if_pos c7] at H
  have c7b0 : (t150 == 10) = true := beq_iff_eq.mpr c7
  have c7b1 : (t150 != 10) = false := e1_ c7
  clear c7
  replace H := e4_ H
  obtain ⟨t166, A80, H⟩ := H
  replace H : (if t166 = 0 then ((pinfoldlaw0_SameLeases.f k t152 (([(⟨10, 1, (⟨#[109, 101]⟩ : ByteArray), 14, (⟨#[]⟩ : ByteArray), false⟩ : S35)] : List (S35)))).bind fun t170 => (if t170 = true then (if t155 = 10 then ((pinfoldlaw0_Num.f t156).bind fun t171 => (if t171 = 0 then ((pinfoldlaw0_Num.f t161).bind fun t172 => (some (t172 == 1500))) else (none))) else (none)) else (none))) else (none)) = some r := H
  have A8 := am_ A80
  clear A80
  by_cases c9 : t166 = 0
  rotate_left
  ·rw [if_neg c9] at H
   exact absurd H (by simp)
  rw [if_pos c9] at H
  have c9b0 : (t166 == 0) = true := beq_iff_eq.mpr c9
  have c9b1 : (t166 != 0) = false := e1_ c9
  clear c9
  obtain ⟨y167, hy167⟩ : ∃ y_ : List (S35), y_ = (([(⟨10, 1, (⟨#[109, 101]⟩ : ByteArray), 14, (⟨#[]⟩ : ByteArray), false⟩ : S35)] : List (S35))) := ⟨_, rfl⟩
  replace H : ((pinfoldlaw0_SameLeases.f k t152 y167).bind fun t170 => (if t170 = true then (if t155 = 10 then ((pinfoldlaw0_Num.f t156).bind fun t171 => (if t171 = 0 then ((pinfoldlaw0_Num.f t161).bind fun t172 => (some (t172 == 1500))) else (none))) else (none)) else (none))) = some r := by first | (rw [hy167]; with_reducible exact H) | (have H2_ := (Option.bind_some _ _).symm.trans H; rw [hy167]; with_reducible exact H2_) | (have H2_ := (Option.bind_some _ _).symm.trans H; with_reducible exact H2_) | with_reducible exact H | (rw [hy167]; exact H) | exact H
  have Ny167 := am_ hy167
  clear hy167
  replace H := e4_ H
  obtain ⟨t170, A100, H⟩ := H
  replace H : (if t170 = true then (if t155 = 10 then ((pinfoldlaw0_Num.f t156).bind fun t171 => (if t171 = 0 then ((pinfoldlaw0_Num.f t161).bind fun t172 => (some (t172 == 1500))) else (none))) else (none)) else (none)) = some r := H
  have A10 := am_ A100
  clear A100
  by_cases c11 : t170 = true
  ·subst c11
   have H1 : (if t155 = 10 then ((pinfoldlaw0_Num.f t156).bind fun t171 => (if t171 = 0 then ((pinfoldlaw0_Num.f t161).bind fun t172 => (some (t172 == 1500))) else (none))) else (none)) = some r := by rw [if_pos rfl] at H; exact H
   clear H
   have H := H1
   clear H1
   by_cases c12 : t155 = 10
   rotate_left
   ·rw [if_neg c12] at H
    exact absurd H (by simp)
   rw [if_pos c12] at H
   have c12b0 : (t155 == 10) = true := beq_iff_eq.mpr c12
   have c12b1 : (t155 != 10) = false := e1_ c12
   clear c12
   replace H := e4_ H
   obtain ⟨t171, A130, H⟩ := H
   replace H : (if t171 = 0 then ((pinfoldlaw0_Num.f t161).bind fun t172 => (some (t172 == 1500))) else (none)) = some r := H
   have A13 := am_ A130
   clear A130
   by_cases c14 : t171 = 0
   rotate_left
   ·rw [if_neg c14] at H
    exact absurd H (by simp)
   rw [if_pos c14] at H
   have c14b0 : (t171 == 0) = true := beq_iff_eq.mpr c14
   have c14b1 : (t171 != 0) = false := e1_ c14
   clear c14
   replace H := e4_ H
   obtain ⟨t172, A150, H⟩ := H
   replace H : (some (t172 == 1500)) = some r := H
   have A15 := am_ A150
   clear A150
   obtain rfl := e5_ H
   go_enter Tryd.func6, Tryd.ntmps6
   go_wp2_with (first | ((with_reducible refine gate_callee (f := 12) rfl ?_); refine goesL_ (some 11) rfl rfl Tryd.func12 (by kernel_rfl) rfl #[] rfl (by (try simp only [List.map_toArray, List.map_cons, List.map_nil]); first | done | rfl | (simp only [List.length_drop, List.length_take]; rfl)) ?_; (with_reducible refine (pinfoldlaw15_given.calls  t133 t134 t135 t138 t141 t142 t143 _ A1.out).mono ?_); rintro e w16 ⟨v136, v139, v144, rfl, ho0, ho1, ho2, hb⟩; refine ⟨_, rfl, ?_⟩; have n0_ := am_ (Kd.R_lower ho0 (bz_ (by repeat (with_reducible first | exact HB.out | apply p3_ | apply p1_ | apply p2_)))); have n1_ := am_ (Kd.R_lower ho1 (bz_ (by repeat (with_reducible first | exact HB.out | apply p3_ | apply p1_ | apply p2_)))); have n2_ := am_ (Kd.R_lower ho2 (bz_ (by repeat (with_reducible first | exact HB.out | apply p3_ | apply p1_ | apply p2_)))); have n3_ := am_ (bt_ (by repeat (with_reducible first | exact HB.out | apply p3_ | apply p1_ | apply p2_)) hb); clear HB; have HO137 := n0_; have HO140 := n1_; have HO145 := n2_; have HB := n3_; clear n0_ n1_ n2_ n3_; (try clear hb); (try clear ho0); (try clear ho1); (try clear ho2)) | ((with_reducible refine gate_dst (N := 1) rfl ?_); (try (refine gate_guard (by rfl) ?_; dsimp only)); refine box_event ?hg (N := 1) ?hd (cs := #[.int .i64 0, .int .i64 0, .slice none 0 0, .slice none 0 0, .int .i64 0, .string (⟨#[]⟩ : ByteArray), .slice none 0 0]) (t := 26) ?hr ?_; (case hd => rfl); (case hg => rfl); (case hr => first | (go_simp; done) | (go_simp; rfl)); intro gb146 hg w17 hbox hb; have n0_ := am_ (Kd.R_below (by (with_reducible repeat (first | apply r1_ | apply r2_ | apply r3_)); exact HO137.out) hb); have n1_ := am_ (Kd.R_below (by (with_reducible repeat (first | apply r1_ | apply r2_ | apply r3_)); exact HO140.out) hb); have n2_ := am_ (Kd.R_below (by (with_reducible repeat (first | apply r1_ | apply r2_ | apply r3_)); exact HO145.out) hb); have n3_ := am_ (bt_ (by repeat (with_reducible first | exact HB.out | apply p3_ | apply p1_ | apply p2_)) hb); have n4_ := am_ (hbox); have n5_ := am_ ((by rw [hg]; exact (bz_ (by repeat (with_reducible first | exact HB.out | apply p3_ | apply p1_ | apply p2_))) : w.heap.size ≤ gb146)); have n6_ := am_ ((by rw [hg]; exact (bz_ (by repeat (with_reducible first | exact HB.out | apply p3_ | apply p1_ | apply p2_))) : w.heap.size ≤ gb146)); clear HO137; clear HO140; clear HO145; clear HB; have HO137 := n0_; have HO140 := n1_; have HO145 := n2_; have HB := n3_; have BK146 := n4_; have GW146 := n5_; have GE146 := n6_; clear n0_ n1_ n2_ n3_ n4_ n5_ n6_; clear hb hbox hg; have hcz18_0 : w17.cell? ⟨gb146, 0, none⟩ = some (.int .i64 0) := (bc_ BK146.out 0).trans rfl; have hcz18_1 : w17.cell? ⟨gb146, 1, none⟩ = some (.int .i64 0) := (bc_ BK146.out 1).trans rfl; have hcz18_2 : w17.cell? ⟨gb146, 2, none⟩ = some (.slice none 0 0) := (bc_ BK146.out 2).trans rfl; have hcz18_3 : w17.cell? ⟨gb146, 3, none⟩ = some (.slice none 0 0) := (bc_ BK146.out 3).trans rfl; have hcz18_4 : w17.cell? ⟨gb146, 4, none⟩ = some (.int .i64 0) := (bc_ BK146.out 4).trans rfl; have hcz18_5 : w17.cell? ⟨gb146, 5, none⟩ = some (.string (⟨#[]⟩ : ByteArray)) := (bc_ BK146.out 5).trans rfl; have hcz18_6 : w17.cell? ⟨gb146, 6, none⟩ = some (.slice none 0 0) := (bc_ BK146.out 6).trans rfl; have hfz18_0 := bf_ BK146.out 0; have hfz18_1 := bf_ BK146.out 1; have hfz18_2 := bf_ BK146.out 2; have hfz18_3 := bf_ BK146.out 3; have hfz18_4 := bf_ BK146.out 4; have hfz18_5 := bf_ BK146.out 5; have hfz18_6 := bf_ BK146.out 6; obtain ⟨Ao19, co19, eo19⟩ := Kd.R_slice HO137.out; subst eo19; obtain ⟨Ao20, co20, eo20⟩ := Kd.R_slice HO140.out; subst eo20; obtain ⟨Ao21, co21, eo21⟩ := Kd.R_slice HO145.out; subst eo21) | ((with_reducible refine gate_callee (f := 7) rfl ?_); refine goesL_ (some 14) rfl rfl Tryd.func7 (by kernel_rfl) rfl #[.agg #[.int .i64 t133, .int .i64 t134, .slice Ao19 t135.length co19, .slice Ao20 t138.length co20, .int .i64 t141, .string t142, .slice Ao21 t143.length co21], .slice none 0 0, .int .i64 5, .string (⟨#[109, 101]⟩ : ByteArray), .int .i64 0] rfl (by (try simp only [List.map_toArray, List.map_cons, List.map_nil]); first | done | rfl | (simp only [List.length_drop, List.length_take]; rfl)) ?_; (refine (offer_Offer.calls t133 t134 _ _ t135 _ _ t138 t141 t142 _ _ t143 _ _ ([] : List (S35)) 5 (⟨#[109, 101]⟩ : ByteArray) 0 t147 t150 t151 _ ?side1 ?side2 ?side3 ?side4 ?side5 ?side6 ?side7 ?side8 A2.out).mono ?_); (case side1 => refine (Kd.R_reads' (e := 3) (base := w.heap.size) (ok := fun k_ => True) (n := t135.length) (c := co19) ?_).2.2; exact (by (with_reducible repeat (first | apply r1_ | apply r2_ | apply r3_)); exact (Kd.R_mono (Kd.R_far (p := ⟨gb146, 6, none⟩) (Kd.R_far (p := ⟨gb146, 5, none⟩) (Kd.R_far (p := ⟨gb146, 4, none⟩) (Kd.R_far (p := ⟨gb146, 3, none⟩) (Kd.R_far (p := ⟨gb146, 2, none⟩) (Kd.R_far (p := ⟨gb146, 1, none⟩) (Kd.R_far (p := ⟨gb146, 0, none⟩) (Kd.R_types HO137.out BK146.out (by decide)) (fun _ hk => hk.2) (.int .i64 t133)) (fun _ hk => hk.2) (.int .i64 t134)) (fun _ hk => hk.2) (.slice Ao19 t135.length co19)) (fun _ hk => hk.2) (.slice Ao20 t138.length co20)) (fun _ hk => hk.2) (.int .i64 t141)) (fun _ hk => hk.2) (.string t142)) (fun _ hk => hk.2) (.slice Ao21 t143.length co21)) (fun _ h_ => h_.1)))); (case side2 => exact (Kd.R_reads' HO137.out).2.1); (case side3 => refine (Kd.R_reads' (e := 56) (base := w.heap.size) (ok := fun k_ => True) (n := t138.length) (c := co20) ?_).2.2; exact (by (with_reducible repeat (first | apply r1_ | apply r2_ | apply r3_)); exact (Kd.R_mono (Kd.R_far (p := ⟨gb146, 6, none⟩) (Kd.R_far (p := ⟨gb146, 5, none⟩) (Kd.R_far (p := ⟨gb146, 4, none⟩) (Kd.R_far (p := ⟨gb146, 3, none⟩) (Kd.R_far (p := ⟨gb146, 2, none⟩) (Kd.R_far (p := ⟨gb146, 1, none⟩) (Kd.R_far (p := ⟨gb146, 0, none⟩) (Kd.R_types HO140.out BK146.out (by decide)) (fun _ hk => hk.2) (.int .i64 t133)) (fun _ hk => hk.2) (.int .i64 t134)) (fun _ hk => hk.2) (.slice Ao19 t135.length co19)) (fun _ hk => hk.2) (.slice Ao20 t138.length co20)) (fun _ hk => hk.2) (.int .i64 t141)) (fun _ hk => hk.2) (.string t142)) (fun _ hk => hk.2) (.slice Ao21 t143.length co21)) (fun _ h_ => h_.1)))); (case side4 => exact (Kd.R_reads' HO140.out).2.1); (case side5 => refine (Kd.R_reads' (e := 58) (base := w.heap.size) (ok := fun k_ => True) (n := t143.length) (c := co21) ?_).2.2; exact (by (with_reducible repeat (first | apply r1_ | apply r2_ | apply r3_)); exact (Kd.R_mono (Kd.R_far (p := ⟨gb146, 6, none⟩) (Kd.R_far (p := ⟨gb146, 5, none⟩) (Kd.R_far (p := ⟨gb146, 4, none⟩) (Kd.R_far (p := ⟨gb146, 3, none⟩) (Kd.R_far (p := ⟨gb146, 2, none⟩) (Kd.R_far (p := ⟨gb146, 1, none⟩) (Kd.R_far (p := ⟨gb146, 0, none⟩) (Kd.R_types HO145.out BK146.out (by decide)) (fun _ hk => hk.2) (.int .i64 t133)) (fun _ hk => hk.2) (.int .i64 t134)) (fun _ hk => hk.2) (.slice Ao19 t135.length co19)) (fun _ hk => hk.2) (.slice Ao20 t138.length co20)) (fun _ hk => hk.2) (.int .i64 t141)) (fun _ hk => hk.2) (.string t142)) (fun _ hk => hk.2) (.slice Ao21 t143.length co21)) (fun _ h_ => h_.1)))); (case side6 => exact (Kd.R_reads' HO145.out).2.1); (case side7 => exact Kd.C_nil _ _); (case side8 => exact Nat.le_refl _); rintro e w22 ⟨v148, rfl, ho0, hb⟩; refine ⟨_, rfl, ?_⟩; have n0_ := am_ (Kd.R_below (by (with_reducible repeat (first | apply r1_ | apply r2_ | apply r3_)); exact (Kd.R_mono (Kd.R_far (p := ⟨gb146, 6, none⟩) (Kd.R_far (p := ⟨gb146, 5, none⟩) (Kd.R_far (p := ⟨gb146, 4, none⟩) (Kd.R_far (p := ⟨gb146, 3, none⟩) (Kd.R_far (p := ⟨gb146, 2, none⟩) (Kd.R_far (p := ⟨gb146, 1, none⟩) (Kd.R_far (p := ⟨gb146, 0, none⟩) (Kd.R_types HO137.out BK146.out (by decide)) (fun _ hk => hk.2) (.int .i64 t133)) (fun _ hk => hk.2) (.int .i64 t134)) (fun _ hk => hk.2) (.slice Ao19 t135.length co19)) (fun _ hk => hk.2) (.slice Ao20 t138.length co20)) (fun _ hk => hk.2) (.int .i64 t141)) (fun _ hk => hk.2) (.string t142)) (fun _ hk => hk.2) (.slice Ao21 t143.length co21)) (fun _ h_ => h_.1))) hb); have n1_ := am_ (Kd.R_below (by (with_reducible repeat (first | apply r1_ | apply r2_ | apply r3_)); exact (Kd.R_mono (Kd.R_far (p := ⟨gb146, 6, none⟩) (Kd.R_far (p := ⟨gb146, 5, none⟩) (Kd.R_far (p := ⟨gb146, 4, none⟩) (Kd.R_far (p := ⟨gb146, 3, none⟩) (Kd.R_far (p := ⟨gb146, 2, none⟩) (Kd.R_far (p := ⟨gb146, 1, none⟩) (Kd.R_far (p := ⟨gb146, 0, none⟩) (Kd.R_types HO140.out BK146.out (by decide)) (fun _ hk => hk.2) (.int .i64 t133)) (fun _ hk => hk.2) (.int .i64 t134)) (fun _ hk => hk.2) (.slice Ao19 t135.length co19)) (fun _ hk => hk.2) (.slice Ao20 t138.length co20)) (fun _ hk => hk.2) (.int .i64 t141)) (fun _ hk => hk.2) (.string t142)) (fun _ hk => hk.2) (.slice Ao21 t143.length co21)) (fun _ h_ => h_.1))) hb); have n2_ := am_ (Kd.R_below (by (with_reducible repeat (first | apply r1_ | apply r2_ | apply r3_)); exact (Kd.R_mono (Kd.R_far (p := ⟨gb146, 6, none⟩) (Kd.R_far (p := ⟨gb146, 5, none⟩) (Kd.R_far (p := ⟨gb146, 4, none⟩) (Kd.R_far (p := ⟨gb146, 3, none⟩) (Kd.R_far (p := ⟨gb146, 2, none⟩) (Kd.R_far (p := ⟨gb146, 1, none⟩) (Kd.R_far (p := ⟨gb146, 0, none⟩) (Kd.R_types HO145.out BK146.out (by decide)) (fun _ hk => hk.2) (.int .i64 t133)) (fun _ hk => hk.2) (.int .i64 t134)) (fun _ hk => hk.2) (.slice Ao19 t135.length co19)) (fun _ hk => hk.2) (.slice Ao20 t138.length co20)) (fun _ hk => hk.2) (.int .i64 t141)) (fun _ hk => hk.2) (.string t142)) (fun _ hk => hk.2) (.slice Ao21 t143.length co21)) (fun _ h_ => h_.1))) hb); have n3_ := am_ (Kd.R_lower ho0 (bz_ (by repeat (with_reducible first | exact HB.out | apply p3_ | apply p1_ | apply p2_ | refine bs_ ?_ GE146.out)))); have n4_ := am_ (kb_ (g := gb146) (o := .cells #[.int .i64 t133, .int .i64 t134, .slice Ao19 t135.length co19, .slice Ao20 t138.length co20, .int .i64 t141, .string t142, .slice Ao21 t143.length co21] 26 (0, 0)) (by (with_reducible repeat (first | refine k2_ ?_ _ | refine k3_ ?_ | refine k1_ ?_ _)); refine blk_put (cs := #[.int .i64 t133, .int .i64 t134, .slice Ao19 t135.length co19, .slice Ao20 t138.length co20, .int .i64 t141, .string t142, .slice none 0 0]) ?_ 6 _ rfl; (with_reducible repeat (first | refine k2_ ?_ _ | refine k3_ ?_ | refine k1_ ?_ _)); refine blk_put (cs := #[.int .i64 t133, .int .i64 t134, .slice Ao19 t135.length co19, .slice Ao20 t138.length co20, .int .i64 t141, .string (⟨#[]⟩ : ByteArray), .slice none 0 0]) ?_ 5 _ rfl; (with_reducible repeat (first | refine k2_ ?_ _ | refine k3_ ?_ | refine k1_ ?_ _)); refine blk_put (cs := #[.int .i64 t133, .int .i64 t134, .slice Ao19 t135.length co19, .slice Ao20 t138.length co20, .int .i64 0, .string (⟨#[]⟩ : ByteArray), .slice none 0 0]) ?_ 4 _ rfl; (with_reducible repeat (first | refine k2_ ?_ _ | refine k3_ ?_ | refine k1_ ?_ _)); refine blk_put (cs := #[.int .i64 t133, .int .i64 t134, .slice Ao19 t135.length co19, .slice none 0 0, .int .i64 0, .string (⟨#[]⟩ : ByteArray), .slice none 0 0]) ?_ 3 _ rfl; (with_reducible repeat (first | refine k2_ ?_ _ | refine k3_ ?_ | refine k1_ ?_ _)); refine blk_put (cs := #[.int .i64 t133, .int .i64 t134, .slice none 0 0, .slice none 0 0, .int .i64 0, .string (⟨#[]⟩ : ByteArray), .slice none 0 0]) ?_ 2 _ rfl; (with_reducible repeat (first | refine k2_ ?_ _ | refine k3_ ?_ | refine k1_ ?_ _)); refine blk_put (cs := #[.int .i64 t133, .int .i64 0, .slice none 0 0, .slice none 0 0, .int .i64 0, .string (⟨#[]⟩ : ByteArray), .slice none 0 0]) ?_ 1 _ rfl; (with_reducible repeat (first | refine k2_ ?_ _ | refine k3_ ?_ | refine k1_ ?_ _)); refine blk_put (cs := #[.int .i64 0, .int .i64 0, .slice none 0 0, .slice none 0 0, .int .i64 0, .string (⟨#[]⟩ : ByteArray), .slice none 0 0]) ?_ 0 _ rfl; (with_reducible repeat (first | refine k2_ ?_ _ | refine k3_ ?_ | refine k1_ ?_ _)); exact BK146.out) hb); have n5_ := am_ (bt_ (by repeat (with_reducible first | exact HB.out | apply p3_ | apply p1_ | apply p2_ | refine bs_ ?_ GE146.out)) hb); clear HO137; clear HO140; clear HO145; clear BK146; clear HB; have HO137 := n0_; have HO140 := n1_; have HO145 := n2_; have HO149 := n3_; have BK146 := n4_; have HB := n5_; clear n0_ n1_ n2_ n3_ n4_ n5_; (try clear hb); (try clear ho0); have hcz23_0 : w22.cell? ⟨gb146, 0, none⟩ = some (.int .i64 t133) := (bc_ BK146.out 0).trans rfl; have hcz23_1 : w22.cell? ⟨gb146, 1, none⟩ = some (.int .i64 t134) := (bc_ BK146.out 1).trans rfl; have hcz23_2 : w22.cell? ⟨gb146, 2, none⟩ = some (.slice Ao19 t135.length co19) := (bc_ BK146.out 2).trans rfl; have hcz23_3 : w22.cell? ⟨gb146, 3, none⟩ = some (.slice Ao20 t138.length co20) := (bc_ BK146.out 3).trans rfl; have hcz23_4 : w22.cell? ⟨gb146, 4, none⟩ = some (.int .i64 t141) := (bc_ BK146.out 4).trans rfl; have hcz23_5 : w22.cell? ⟨gb146, 5, none⟩ = some (.string t142) := (bc_ BK146.out 5).trans rfl; have hcz23_6 : w22.cell? ⟨gb146, 6, none⟩ = some (.slice Ao21 t143.length co21) := (bc_ BK146.out 6).trans rfl; have hfz23_0 := bf_ BK146.out 0; have hfz23_1 := bf_ BK146.out 1; have hfz23_2 := bf_ BK146.out 2; have hfz23_3 := bf_ BK146.out 3; have hfz23_4 := bf_ BK146.out 4; have hfz23_5 := bf_ BK146.out 5; have hfz23_6 := bf_ BK146.out 6; obtain ⟨Ao24, co24, eo24⟩ := Kd.R_slice HO149.out; subst eo24) | ((with_reducible refine gate_callee (f := 7) rfl ?_); refine goesL_ (some 21) rfl rfl Tryd.func7 (by kernel_rfl) rfl #[.agg #[.int .i64 t133, .int .i64 t134, .slice Ao19 t135.length co19, .slice Ao20 t138.length co20, .int .i64 t141, .string t142, .slice Ao21 t143.length co21], .slice Ao24 t147.length co24, .int .i64 6, .string (⟨#[109, 101]⟩ : ByteArray), .int .i64 11] rfl (by (try simp only [List.map_toArray, List.map_cons, List.map_nil]); first | done | rfl | (simp only [List.length_drop, List.length_take]; rfl)) ?_; (with_reducible refine (offer_Offer.calls t133 t134 _ _ t135 _ _ t138 t141 t142 _ _ t143 _ _ t147 6 (⟨#[109, 101]⟩ : ByteArray) 11 t152 t155 t156 _ ?side1 ?side2 ?side3 ?side4 ?side5 ?side6 ?side7 ?side8 A3.out).mono ?_); (case side1 => repeat (first | exact (Kd.R_reads' HO137.out).2.2 | (with_reducible refine c1_ ?_ _) | (with_reducible refine c2_ ?_ _) | (with_reducible refine c3_ ?_))); (case side2 => exact (Kd.R_reads' HO137.out).2.1); (case side3 => repeat (first | exact (Kd.R_reads' HO140.out).2.2 | (with_reducible refine c1_ ?_ _) | (with_reducible refine c2_ ?_ _) | (with_reducible refine c3_ ?_))); (case side4 => exact (Kd.R_reads' HO140.out).2.1); (case side5 => repeat (first | exact (Kd.R_reads' HO145.out).2.2 | (with_reducible refine c1_ ?_ _) | (with_reducible refine c2_ ?_ _) | (with_reducible refine c3_ ?_))); (case side6 => exact (Kd.R_reads' HO145.out).2.1); (case side7 => repeat (first | exact (Kd.R_reads' HO149.out).2.2 | (with_reducible refine c1_ ?_ _) | (with_reducible refine c2_ ?_ _) | (with_reducible refine c3_ ?_))); (case side8 => exact (Kd.R_reads' HO149.out).2.1); rintro e w25 ⟨v153, rfl, ho0, hb⟩; refine ⟨_, rfl, ?_⟩; have n0_ := am_ (Kd.R_below (by (with_reducible repeat (first | apply r1_ | apply r2_ | apply r3_)); exact HO137.out) hb); have n1_ := am_ (Kd.R_below (by (with_reducible repeat (first | apply r1_ | apply r2_ | apply r3_)); exact HO140.out) hb); have n2_ := am_ (Kd.R_below (by (with_reducible repeat (first | apply r1_ | apply r2_ | apply r3_)); exact HO145.out) hb); have n3_ := am_ (r5_ (by (with_reducible repeat (first | apply r1_ | apply r2_ | apply r3_)); exact HO149.out) (r4_ ho0) hb); have n4_ := am_ (Kd.R_lower (Kd.R_new' ho0 (Kd.R_lt (by (with_reducible repeat (first | apply r1_ | apply r2_ | apply r3_)); exact HO149.out))) (bz_ (by repeat (with_reducible first | exact HB.out | apply p3_ | apply p1_ | apply p2_ | refine bs_ ?_ GE146.out)))); have n5_ := am_ (kb_ (g := gb146) (o := .cells #[.int .i64 t133, .int .i64 t134, .slice Ao19 t135.length co19, .slice Ao20 t138.length co20, .int .i64 t141, .string t142, .slice Ao21 t143.length co21] 26 (0, 0)) (by (with_reducible repeat (first | refine k2_ ?_ _ | refine k3_ ?_ | refine k1_ ?_ _)); exact BK146.out) hb); have n6_ := am_ (bt_ (by repeat (with_reducible first | exact HB.out | apply p3_ | apply p1_ | apply p2_ | refine bs_ ?_ GE146.out)) hb); clear HO137; clear HO140; clear HO145; clear HO149; clear BK146; clear HB; have HO137 := n0_; have HO140 := n1_; have HO145 := n2_; have HO149 := n3_; have HO154 := n4_; have BK146 := n5_; have HB := n6_; clear n0_ n1_ n2_ n3_ n4_ n5_ n6_; (try clear hb); (try clear ho0); have hcz26_0 : w25.cell? ⟨gb146, 0, none⟩ = some (.int .i64 t133) := (bc_ BK146.out 0).trans rfl; have hcz26_1 : w25.cell? ⟨gb146, 1, none⟩ = some (.int .i64 t134) := (bc_ BK146.out 1).trans rfl; have hcz26_2 : w25.cell? ⟨gb146, 2, none⟩ = some (.slice Ao19 t135.length co19) := (bc_ BK146.out 2).trans rfl; have hcz26_3 : w25.cell? ⟨gb146, 3, none⟩ = some (.slice Ao20 t138.length co20) := (bc_ BK146.out 3).trans rfl; have hcz26_4 : w25.cell? ⟨gb146, 4, none⟩ = some (.int .i64 t141) := (bc_ BK146.out 4).trans rfl; have hcz26_5 : w25.cell? ⟨gb146, 5, none⟩ = some (.string t142) := (bc_ BK146.out 5).trans rfl; have hcz26_6 : w25.cell? ⟨gb146, 6, none⟩ = some (.slice Ao21 t143.length co21) := (bc_ BK146.out 6).trans rfl; have hfz26_0 := bf_ BK146.out 0; have hfz26_1 := bf_ BK146.out 1; have hfz26_2 := bf_ BK146.out 2; have hfz26_3 := bf_ BK146.out 3; have hfz26_4 := bf_ BK146.out 4; have hfz26_5 := bf_ BK146.out 5; have hfz26_6 := bf_ BK146.out 6) | ((with_reducible refine gate_callee (f := 7) rfl ?_); refine goesL_ (some 28) rfl rfl Tryd.func7 (by kernel_rfl) rfl #[.agg #[.int .i64 t133, .int .i64 t134, .slice Ao19 t135.length co19, .slice Ao20 t138.length co20, .int .i64 t141, .string t142, .slice Ao21 t143.length co21], .slice Ao24 t147.length co24, .int .i64 6, .string (⟨#[]⟩ : ByteArray), .int .i64 0] rfl (by (try simp only [List.map_toArray, List.map_cons, List.map_nil]); first | done | rfl | (simp only [List.length_drop, List.length_take]; rfl)) ?_; (with_reducible refine (offer_Offer.calls t133 t134 _ _ t135 _ _ t138 t141 t142 _ _ t143 _ _ t147 6 (⟨#[]⟩ : ByteArray) 0 t157 t160 t161 _ ?side1 ?side2 ?side3 ?side4 ?side5 ?side6 ?side7 ?side8 A4.out).mono ?_); (case side1 => repeat (first | exact (Kd.R_reads' HO137.out).2.2 | (with_reducible refine c1_ ?_ _) | (with_reducible refine c2_ ?_ _) | (with_reducible refine c3_ ?_))); (case side2 => exact (Kd.R_reads' HO137.out).2.1); (case side3 => repeat (first | exact (Kd.R_reads' HO140.out).2.2 | (with_reducible refine c1_ ?_ _) | (with_reducible refine c2_ ?_ _) | (with_reducible refine c3_ ?_))); (case side4 => exact (Kd.R_reads' HO140.out).2.1); (case side5 => repeat (first | exact (Kd.R_reads' HO145.out).2.2 | (with_reducible refine c1_ ?_ _) | (with_reducible refine c2_ ?_ _) | (with_reducible refine c3_ ?_))); (case side6 => exact (Kd.R_reads' HO145.out).2.1); (case side7 => repeat (first | exact (Kd.R_reads' HO149.out).2.2 | (with_reducible refine c1_ ?_ _) | (with_reducible refine c2_ ?_ _) | (with_reducible refine c3_ ?_))); (case side8 => exact (Kd.R_reads' HO149.out).2.1); rintro e w27 ⟨v158, rfl, ho0, hb⟩; refine ⟨_, rfl, ?_⟩; have n0_ := am_ (Kd.R_below (by (with_reducible repeat (first | apply r1_ | apply r2_ | apply r3_)); exact HO137.out) hb); have n1_ := am_ (Kd.R_below (by (with_reducible repeat (first | apply r1_ | apply r2_ | apply r3_)); exact HO140.out) hb); have n2_ := am_ (Kd.R_below (by (with_reducible repeat (first | apply r1_ | apply r2_ | apply r3_)); exact HO145.out) hb); have n3_ := am_ (r5_ (by (with_reducible repeat (first | apply r1_ | apply r2_ | apply r3_)); exact HO149.out) (r4_ ho0) hb); have n4_ := am_ (r5_ (by (with_reducible repeat (first | apply r1_ | apply r2_ | apply r3_)); exact HO154.out) (r4_ ho0) hb); have n5_ := am_ (Kd.R_lower (Kd.R_new' (Kd.R_new' ho0 (Kd.R_lt (by (with_reducible repeat (first | apply r1_ | apply r2_ | apply r3_)); exact HO149.out))) (Kd.R_lt (by (with_reducible repeat (first | apply r1_ | apply r2_ | apply r3_)); exact HO154.out))) (bz_ (by repeat (with_reducible first | exact HB.out | apply p3_ | apply p1_ | apply p2_ | refine bs_ ?_ GE146.out)))); have n6_ := am_ (kb_ (g := gb146) (o := .cells #[.int .i64 t133, .int .i64 t134, .slice Ao19 t135.length co19, .slice Ao20 t138.length co20, .int .i64 t141, .string t142, .slice Ao21 t143.length co21] 26 (0, 0)) (by (with_reducible repeat (first | refine k2_ ?_ _ | refine k3_ ?_ | refine k1_ ?_ _)); exact BK146.out) hb); have n7_ := am_ (bt_ (by repeat (with_reducible first | exact HB.out | apply p3_ | apply p1_ | apply p2_ | refine bs_ ?_ GE146.out)) hb); clear HO137; clear HO140; clear HO145; clear HO149; clear HO154; clear BK146; clear HB; have HO137 := n0_; have HO140 := n1_; have HO145 := n2_; have HO149 := n3_; have HO154 := n4_; have HO159 := n5_; have BK146 := n6_; have HB := n7_; clear n0_ n1_ n2_ n3_ n4_ n5_ n6_ n7_; (try clear hb); (try clear ho0)) | ((with_reducible refine gate_dst (N := 34) rfl ?_); (try (refine gate_guard (by rfl) ?_; dsimp only)); refine Kd.R_lit k35 _ 35 ?hg (N := 34) ?hd (xs := ([(⟨10, 1, (⟨#[109, 101]⟩ : ByteArray), 13, (⟨#[]⟩ : ByteArray), false⟩ : S35)] : List (S35))) (inner := [.int .i64 10, .int .i64 1, .string (⟨#[109, 101]⟩ : ByteArray), .int .i64 13, .string (⟨#[]⟩ : ByteArray), .bool false]) (ok := fun _ => True) (okp := fun _ => True) ?hr ?hp (fun _ hk => hk) trivial (Below.refl _ _) (Nat.le_refl _) (by simp) ?_; (case hd => rfl); (case hg => rfl); (case hr => first | (go_simp; done) | (go_simp; rfl)); (case hp => exact (Reps.c6 (show Kd.M k35 _ _ _ (⟨10, 1, (⟨#[109, 101]⟩ : ByteArray), 13, (⟨#[]⟩ : ByteArray), false⟩ : S35) [.int .i64 10, .int .i64 1, .string (⟨#[109, 101]⟩ : ByteArray), .int .i64 13, .string (⟨#[]⟩ : ByteArray), .bool false] from (k35_mkM _ _ _ (⟨10, 1, (⟨#[109, 101]⟩ : ByteArray), 13, (⟨#[]⟩ : ByteArray), false⟩ : S35) )) (Reps.none _ _))); intro v163 w28 ho29 hb hg_ hnew_; clear hg_ hnew_; (first | rw [← Ny162.out] at ho29 | (simp only [Int.reduceToNat] at ho29; rw [← Ny162.out] at ho29)); have n0_ := am_ (Kd.R_below (by (with_reducible repeat (first | apply r1_ | apply r2_ | apply r3_)); exact HO137.out) hb); have n1_ := am_ (Kd.R_below (by (with_reducible repeat (first | apply r1_ | apply r2_ | apply r3_)); exact HO140.out) hb); have n2_ := am_ (Kd.R_below (by (with_reducible repeat (first | apply r1_ | apply r2_ | apply r3_)); exact HO145.out) hb); have n3_ := am_ (r5_ (by (with_reducible repeat (first | apply r1_ | apply r2_ | apply r3_)); exact HO149.out) (r4_ ho29) hb); have n4_ := am_ (r5_ (by (with_reducible repeat (first | apply r1_ | apply r2_ | apply r3_)); exact HO154.out) (r4_ ho29) hb); have n5_ := am_ (r5_ (by (with_reducible repeat (first | apply r1_ | apply r2_ | apply r3_)); exact HO159.out) (r4_ ho29) hb); have n6_ := am_ (Kd.R_lower (Kd.R_new' (Kd.R_new' (Kd.R_new' ho29 (Kd.R_lt (by (with_reducible repeat (first | apply r1_ | apply r2_ | apply r3_)); exact HO149.out))) (Kd.R_lt (by (with_reducible repeat (first | apply r1_ | apply r2_ | apply r3_)); exact HO154.out))) (Kd.R_lt (by (with_reducible repeat (first | apply r1_ | apply r2_ | apply r3_)); exact HO159.out))) (bz_ (by repeat (with_reducible first | exact HB.out | apply p3_ | apply p1_ | apply p2_ | refine bs_ ?_ GE146.out)))); have n7_ := am_ (kb_ (g := gb146) (o := .cells #[.int .i64 t133, .int .i64 t134, .slice Ao19 t135.length co19, .slice Ao20 t138.length co20, .int .i64 t141, .string t142, .slice Ao21 t143.length co21] 26 (0, 0)) (by (with_reducible repeat (first | refine k2_ ?_ _ | refine k3_ ?_ | refine k1_ ?_ _)); exact BK146.out) hb); have n8_ := am_ (bt_ (by repeat (with_reducible first | exact HB.out | apply p3_ | apply p1_ | apply p2_ | refine bs_ ?_ GE146.out)) hb); clear HO137; clear HO140; clear HO145; clear HO149; clear HO154; clear HO159; clear BK146; clear HB; have HO137 := n0_; have HO140 := n1_; have HO145 := n2_; have HO149 := n3_; have HO154 := n4_; have HO159 := n5_; have HO164 := n6_; have BK146 := n7_; have HB := n8_; clear n0_ n1_ n2_ n3_ n4_ n5_ n6_ n7_ n8_; clear hb ho29; obtain ⟨Ao30, co30, eo30⟩ := Kd.R_slice HO164.out; subst eo30) | ((with_reducible refine gate_callee (f := 13) rfl ?_); refine goesL_ (some 35) rfl rfl Tryd.func13 (by kernel_rfl) rfl #[.slice Ao24 t147.length co24, .slice Ao30 y162.length co30] rfl (by (try simp only [List.map_toArray, List.map_cons, List.map_nil]); first | done | rfl | (simp only [List.length_drop, List.length_take]; rfl)) ?_; (with_reducible refine (pinfoldlaw0_SameLeases.calls k _ _ t147 _ _ y162 true _ ?side1 ?side2 ?side3 ?side4 A5.out).mono ?_); (case side1 => repeat (first | exact (Kd.R_reads' HO149.out).2.2 | (with_reducible refine c1_ ?_ _) | (with_reducible refine c2_ ?_ _) | (with_reducible refine c3_ ?_))); (case side2 => exact (Kd.R_reads' HO149.out).2.1); (case side3 => repeat (first | exact (Kd.R_reads' HO164.out).2.2 | (with_reducible refine c1_ ?_ _) | (with_reducible refine c2_ ?_ _) | (with_reducible refine c3_ ?_))); (case side4 => exact (Kd.R_reads' HO164.out).2.1); rintro e w' ⟨rfl, ⟨nd, rfl⟩⟩; refine ⟨_, rfl, ?_⟩) | (go_at_call 8; (with_reducible refine (pinfoldlaw0_Num.calls t151 t166 _ A8.out).mono ?_); rintro e w' ⟨rfl, ⟨nd, rfl⟩⟩) | ((with_reducible refine gate_dst (N := 48) rfl ?_); (try (refine gate_guard (by rfl) ?_; dsimp only)); refine Kd.R_lit k35 _ 35 ?hg (N := 48) ?hd (xs := ([(⟨10, 1, (⟨#[109, 101]⟩ : ByteArray), 14, (⟨#[]⟩ : ByteArray), false⟩ : S35)] : List (S35))) (inner := [.int .i64 10, .int .i64 1, .string (⟨#[109, 101]⟩ : ByteArray), .int .i64 14, .string (⟨#[]⟩ : ByteArray), .bool false]) (ok := fun _ => True) (okp := fun _ => True) ?hr ?hp (fun _ hk => hk) trivial (Below.refl _ _) (Nat.le_refl _) (by simp) ?_; (case hd => rfl); (case hg => rfl); (case hr => first | (go_simp; done) | (go_simp; rfl)); (case hp => exact (Reps.c6 (show Kd.M k35 _ _ _ (⟨10, 1, (⟨#[109, 101]⟩ : ByteArray), 14, (⟨#[]⟩ : ByteArray), false⟩ : S35) [.int .i64 10, .int .i64 1, .string (⟨#[109, 101]⟩ : ByteArray), .int .i64 14, .string (⟨#[]⟩ : ByteArray), .bool false] from (k35_mkM _ _ _ (⟨10, 1, (⟨#[109, 101]⟩ : ByteArray), 14, (⟨#[]⟩ : ByteArray), false⟩ : S35) )) (Reps.none _ _))); intro v168 w31 ho32 hb hg_ hnew_; clear hg_ hnew_; (first | rw [← Ny167.out] at ho32 | (simp only [Int.reduceToNat] at ho32; rw [← Ny167.out] at ho32)); have n0_ := am_ (Kd.R_below (by (with_reducible repeat (first | apply r1_ | apply r2_ | apply r3_)); exact HO137.out) hb); have n1_ := am_ (Kd.R_below (by (with_reducible repeat (first | apply r1_ | apply r2_ | apply r3_)); exact HO140.out) hb); have n2_ := am_ (Kd.R_below (by (with_reducible repeat (first | apply r1_ | apply r2_ | apply r3_)); exact HO145.out) hb); have n3_ := am_ (r5_ (by (with_reducible repeat (first | apply r1_ | apply r2_ | apply r3_)); exact HO149.out) (r4_ ho32) hb); have n4_ := am_ (r5_ (by (with_reducible repeat (first | apply r1_ | apply r2_ | apply r3_)); exact HO154.out) (r4_ ho32) hb); have n5_ := am_ (r5_ (by (with_reducible repeat (first | apply r1_ | apply r2_ | apply r3_)); exact HO159.out) (r4_ ho32) hb); have n6_ := am_ (r5_ (by (with_reducible repeat (first | apply r1_ | apply r2_ | apply r3_)); exact HO164.out) (r4_ ho32) hb); have n7_ := am_ (Kd.R_lower (Kd.R_new' (Kd.R_new' (Kd.R_new' (Kd.R_new' ho32 (Kd.R_lt (by (with_reducible repeat (first | apply r1_ | apply r2_ | apply r3_)); exact HO149.out))) (Kd.R_lt (by (with_reducible repeat (first | apply r1_ | apply r2_ | apply r3_)); exact HO154.out))) (Kd.R_lt (by (with_reducible repeat (first | apply r1_ | apply r2_ | apply r3_)); exact HO159.out))) (Kd.R_lt (by (with_reducible repeat (first | apply r1_ | apply r2_ | apply r3_)); exact HO164.out))) (bz_ (by repeat (with_reducible first | exact HB.out | apply p3_ | apply p1_ | apply p2_ | refine bs_ ?_ GE146.out)))); have n8_ := am_ (kb_ (g := gb146) (o := .cells #[.int .i64 t133, .int .i64 t134, .slice Ao19 t135.length co19, .slice Ao20 t138.length co20, .int .i64 t141, .string t142, .slice Ao21 t143.length co21] 26 (0, 0)) (by (with_reducible repeat (first | refine k2_ ?_ _ | refine k3_ ?_ | refine k1_ ?_ _)); exact BK146.out) hb); have n9_ := am_ (bt_ (by repeat (with_reducible first | exact HB.out | apply p3_ | apply p1_ | apply p2_ | refine bs_ ?_ GE146.out)) hb); clear HO137; clear HO140; clear HO145; clear HO149; clear HO154; clear HO159; clear HO164; clear BK146; clear HB; have HO137 := n0_; have HO140 := n1_; have HO145 := n2_; have HO149 := n3_; have HO154 := n4_; have HO159 := n5_; have HO164 := n6_; have HO169 := n7_; have BK146 := n8_; have HB := n9_; clear n0_ n1_ n2_ n3_ n4_ n5_ n6_ n7_ n8_ n9_; clear hb ho32; obtain ⟨Ao33, co33, eo33⟩ := Kd.R_slice HO154.out; subst eo33; obtain ⟨Ao34, co34, eo34⟩ := Kd.R_slice HO169.out; subst eo34) | (go_at_call 13; (with_reducible refine (pinfoldlaw0_SameLeases.calls k _ _ t152 _ _ y167 true _ ?side1 ?side2 ?side3 ?side4 A10.out).mono ?_); (case side1 => repeat (first | exact (Kd.R_reads' HO154.out).2.2 | (with_reducible refine c1_ ?_ _) | (with_reducible refine c2_ ?_ _) | (with_reducible refine c3_ ?_))); (case side2 => exact (Kd.R_reads' HO154.out).2.1); (case side3 => repeat (first | exact (Kd.R_reads' HO169.out).2.2 | (with_reducible refine c1_ ?_ _) | (with_reducible refine c2_ ?_ _) | (with_reducible refine c3_ ?_))); (case side4 => exact (Kd.R_reads' HO169.out).2.1); rintro e w' ⟨rfl, ⟨nd, rfl⟩⟩) | (go_at_call 8; (with_reducible refine (pinfoldlaw0_Num.calls t156 t171 _ A13.out).mono ?_); rintro e w' ⟨rfl, ⟨nd, rfl⟩⟩) | (go_at_call 8; (with_reducible refine (pinfoldlaw0_Num.calls t161 t172 _ A15.out).mono ?_); rintro e w' ⟨rfl, ⟨nd, rfl⟩⟩))
   go_ret
   exact ⟨by first | rfl | (simp [errW_none, errW_some] <;> rfl) | (simp [*, errW_none, errW_some] <;> rfl), by repeat (with_reducible first | exact HB.out | apply p3_ | apply p1_ | apply p2_ | refine bs_ ?_ GE146.out)⟩
  replace c11 := e3_ c11
  subst c11
  have H1 : (none) = some r := by rw [if_neg (show ¬ (false = true) by decide)] at H; exact H
  clear H
  have H := H1
  clear H1
  exact absurd H (by simp)
 replace c6 := e3_ c6
 subst c6
 have H1 : (none) = some r := by rw [if_neg (show ¬ (false = true) by decide)] at H; exact H
 clear H
 have H := H1
 clear H1
 exact absurd H (by simp)

end Go.Proofs.YtdhckibkljafgaaDoor.PH
