-- Made by wip/pr.py out of the translation (a turned copy of the kit's print; contracts by hand where said).
import Derived.Test.YtibalpbkmgegnaaDoorPJx0
import Derived.Test.YtibalpbkmgegnaaDoorPJx1
import Derived.Test.YtibalpbkmgegnaaDoorPJx2
import Derived.Test.YtibalpbkmgegnaaDoorPJx3
import Derived.Test.YtibalpbkmgegnaaDoorPJx6
import Derived.Test.YtibalpbkmgegnaaDoorPJx7
import Derived.Test.YtibalpbkmgegnaaDoorPJx8
import Derived.Test.YtibalpbkmgegnaaDoorPJx9
import Derived.Test.YtibalpbkmgegnaaDoorPJx10
namespace Go.Proofs.YtibalpbkmgegnaaDoor.PJ
open Go.RowKit Go.Proofs.YtibalpbkmgegnaaDoorW.PrintWords Go.Proofs.YtibalpbkmgegnaaDoorW.PrintLast Go.Proofs.YtibalpbkmgegnaaDoorW.PrintMore
-- shrunk
attribute [local go_sem] max2_int min2_int max_two min_two max_three min_three max_four min_four   -- for this text's walks alone
set_option linter.unusedVariables false
set_option linter.unusedSimpArgs false

attribute [local go_sem high] eqA36
/-! ### claim_Claim: function 9 -/
-- BY HAND
-- 19 20 21 22 23 26 25 28 30 24 29 27
-- inc withput.inc
-- behind table_With.calls
def insR (lt : S36 → S36 → Bool) (x : S36) : List S36 → List S36 → List S36
 | [], b => x :: b
 | y :: ra, b => if lt x y = true then insR lt x ra (y :: b) else (y :: ra).reverse ++ x :: b
theorem wp_get (a : List S36) (x : S36) (b : List S36) (i : Nat) (h : a.length = i) : (a ++ x :: b).toArray[i]! = x := by
 subst h
 rw [getElem!_pos _ _ (by simp)]
 simp
theorem wp_swp (a : List S36) (y x : S36) (b : List S36) : Go.Sort.swp (a ++ y :: x :: b).toArray (a.length + 1) a.length = (a ++ x :: y :: b).toArray := by
 unfold Go.Sort.swp
 have e1 : (a ++ y :: x :: b).toArray[a.length]! = y := wp_get a y (x :: b) _ rfl
 have e2 : (a ++ y :: x :: b).toArray[a.length + 1]! = x := by
  rw [show a ++ y :: x :: b = (a ++ [y]) ++ x :: b by simp]
  exact wp_get (a ++ [y]) x b _ (by simp)
 rw [e1, e2, sa_, sa_]
 congr 1
 rw [List.set_append_right _ _ (by omega), show a.length + 1 - a.length = 1 by omega, sc_, sb_, List.set_append_right _ _ (by omega), Nat.sub_self, sb_]
theorem wp_inner (lt : S36 → S36 → Bool) (x : S36) : ∀ (ra b : List S36), Go.Sort.insInner lt 0 ra.length (ra.reverse ++ x :: b).toArray = (insR lt x ra b).toArray
 | [], b => rfl
 | y :: ra, b => by
  have h1 : ((y :: ra).reverse ++ x :: b).toArray[ra.length + 1]! = x := wp_get _ x b _ (by simp)
  have h2 : ((y :: ra).reverse ++ x :: b).toArray[ra.length]! = y := by
   rw [List.reverse_cons, List.append_assoc]
   exact wp_get _ y (x :: b) _ (by simp)
  have h3 : Go.Sort.swp ((y :: ra).reverse ++ x :: b).toArray (ra.length + 1) ra.length = (ra.reverse ++ x :: y :: b).toArray := by
   have := wp_swp ra.reverse y x b
   rw [List.length_reverse] at this
   rw [List.reverse_cons, List.append_assoc]
   exact this
  rw [List.length_cons, Go.Sort.insInner, h1, h2, h3]
  unfold insR
  cases lt x y with
  | true =>
   rw [show (decide (ra.length + 1 > 0) && true) = true by simp, if_pos rfl, if_pos rfl]
   exact wp_inner lt x ra (y :: b)
  | false => simp
/-- a row that stands in order stays. -/
theorem wp_rounds (lt : S36 → S36 → Bool) (l b : List S36) (hl : ∀ u y x v, l = u ++ y :: x :: v → lt x y = false) : ∀ (m i : Nat), 1 ≤ i → i + m = l.length → table_With.outer lt m i (l ++ b).toArray = (l ++ b).toArray
 | 0, _, _, _ => rfl
 | m + 1, i, h1, hi => by
  have hs : Go.Sort.insInner lt 0 i (l ++ b).toArray = (l ++ b).toArray := by
   obtain ⟨j, rfl⟩ : ∃ j, i = j + 1 := ⟨i - 1, by omega⟩
   have hj : j + 1 < l.length := by omega
   have e : l = l.take j ++ l[j] :: l[j + 1] :: l.drop (j + 2) := by
    rw [← List.drop_eq_getElem_cons hj, ← List.drop_eq_getElem_cons (by omega : j < l.length), List.take_append_drop]
   have h1 : (l ++ b).toArray[j + 1]! = l[j + 1] := by
    rw [getElem!_pos _ _ (by simp; omega)]
    simp [List.getElem_append_left hj]
   have h2 : (l ++ b).toArray[j]! = l[j] := by
    rw [getElem!_pos _ _ (by simp; omega)]
    simp [List.getElem_append_left (show j < l.length by omega)]
   rw [Go.Sort.insInner, h1, h2, hl _ _ _ _ e]
   simp
  rw [table_With.outer, hs]
  exact wp_rounds lt l b hl m (i + 1) (by omega) (by omega)
theorem wp_last (lt : S36 → S36 → Bool) (l : List S36) (x : S36) (hl : ∀ u y x v, l = u ++ y :: x :: v → lt x y = false) : (table_With.outer lt ((l ++ [x]).length - 1) 1 (l ++ [x]).toArray).toList = insR lt x l.reverse [] := by
 cases l with
 | nil => rfl
 | cons a r =>
  have key : ∀ (m i : Nat) (d : Array S36), table_With.outer lt (m + 1) i d = Go.Sort.insInner lt 0 (i + m) (table_With.outer lt m i d) := by
   intro m
   induction m with
   | zero => intro i d; rfl
   | succ m ih =>
    intro i d
    rw [table_With.outer, ih (i + 1)]
    conv => rhs; rw [table_With.outer]
    rw [show i + 1 + m = i + (m + 1) by omega]
  have e1 : ((a :: r) ++ [x]).length - 1 = r.length + 1 := by simp
  rw [e1, key, wp_rounds lt (a :: r) [x] hl r.length 1 (by omega) (by simp; omega)]
  have := wp_inner lt x (a :: r).reverse []
  rw [List.reverse_reverse, List.length_reverse] at this
  rw [show 1 + r.length = (a :: r).length by simp; omega, this]
theorem wp_ins (lt : S36 → S36 → Bool) (x : S36) (u : List S36) (hu : ∀ y ∈ u, lt x y = false) : ∀ (rv b : List S36), (∀ y ∈ rv, lt x y = true) → insR lt x (rv ++ u.reverse) b = u ++ x :: (rv.reverse ++ b)
 | [], b, _ => by
  rw [List.nil_append, List.reverse_nil, List.nil_append]
  cases hr : u.reverse with
  | nil =>
   have : u = [] := by simpa using hr
   rw [this]
   rfl
  | cons y ra =>
   have hy : lt x y = false := hu y (by rw [← List.mem_reverse, hr]; exact List.mem_cons_self)
   unfold insR
   rw [hy, if_neg (by decide), ← hr, List.reverse_reverse]
 | y :: rv, b, h => by
  rw [List.cons_append]
  unfold insR
  rw [h y List.mem_cons_self, if_pos rfl, wp_ins lt x u hu rv (y :: b) (fun z hz => h z (List.mem_cons_of_mem _ hz))]
  simp
theorem wp_split (x : S36) : ∀ (l : List S36), l.Pairwise (fun a b => a.f0 < b.f0) → (∀ y ∈ l, y.f0 ≠ x.f0) → ∃ u v, l = u ++ v ∧ (∀ y ∈ u, y.f0 < x.f0) ∧ ∀ y ∈ v, x.f0 < y.f0
 | [], _, _ => ⟨[], [], rfl, (fun y h => by cases h), (fun y h => by cases h)⟩
 | y :: r, hs, hn => by
  obtain ⟨h1, h2⟩ := List.pairwise_cons.1 hs
  by_cases q : y.f0 < x.f0
  ·obtain ⟨u, v, e, hu, hv⟩ := wp_split x r h2 (fun z hz => hn z (List.mem_cons_of_mem _ hz))
   refine ⟨y :: u, v, by rw [e]; rfl, ?_, hv⟩
   intro z hz
   rcases List.mem_cons.1 hz with e | e
   ·rw [e]; exact q
   ·exact hu z e
  ·refine ⟨[], y :: r, rfl, (fun z h => by cases h), ?_⟩
   have := hn y List.mem_cons_self
   intro z hz
   rcases List.mem_cons.1 hz with e | e
   ·rw [e]; omega
   ·have := h1 z e; omega
theorem put_mid (x : S36) (v : List S36) (hv : ∀ y ∈ v, x.f0 < y.f0) : ∀ (u : List S36), (∀ y ∈ u, y.f0 < x.f0) → putGo x false (u ++ v) = u ++ x :: v
 | [], _ => by
  rw [List.nil_append, List.nil_append]
  cases v with
  | nil => rfl
  | cons y r =>
   have hy := hv y List.mem_cons_self
   unfold putGo
   rw [if_pos ⟨rfl, by omega⟩, if_neg (by omega), decide_eq_true (by omega), Bool.or_true, put_done r x (fun z hz => by have := hv z (List.mem_cons_of_mem _ hz); omega)]
   rfl
 | y :: u, hu => by
  have hy := hu y List.mem_cons_self
  rw [List.cons_append, List.cons_append]
  unfold putGo
  rw [if_neg (by omega), if_neg (by omega), decide_eq_false (by omega), Bool.or_false, put_mid x v hv u (fun z hz => hu z (List.mem_cons_of_mem _ hz))]
  rfl
theorem lease_host {x : S36} (h : leaseOk x = true) : 2 ≤ x.f0 ∧ x.f0 ≤ 254 := by
 have h1 : leaseB x.f0 x.f1 x.f2 x.f3 x.f4 x.f5 = true := h
 unfold leaseB at h1
 simp only [Bool.and_eq_true, decide_eq_true_eq] at h1
 exact h1.1.1.1.1
theorem cf_lt (x y : S36) (hx : 2 ≤ x.f0 ∧ x.f0 ≤ 254) (hy : 2 ≤ y.f0 ∧ y.f0 ≤ 254) : ltOf table_With.cf x y = decide (x.f0 < y.f0) := by
 unfold ltOf table_With.cf
 rw [show wrap64 (x.f0 - y.f0) = x.f0 - y.f0 by unfold wrap64; omega, decide_eq_decide]
 omega
/-- With's row is the document's. -/
theorem with_put (l : List S36) (x : S36) (hT : tableB l = true) (hx : leaseOk x = true) : table_With.out l x = putL l x := by
 obtain ⟨hok, hs, h8⟩ := table_sorted hT
 have hxb := lease_host hx
 unfold table_With.out putL
 by_cases hm : ∃ y ∈ l, y.f0 = x.f0
 ·rw [put_swap l x hs hm]
  obtain ⟨y, hy, hye⟩ := hm
  obtain ⟨i, hi, rfl⟩ := List.getElem_of_mem hy
  have hne : ∀ (j : Nat) (hj : j < l.length), l[j].f0 = x.f0 → j = i := by
   intro j hj e
   rcases Nat.lt_trichotomy j i with h | h | h
   ·have := List.pairwise_iff_getElem.1 hs j i hj hi h; omega
   ·exact h
   ·have := List.pairwise_iff_getElem.1 hs i j hi hj h; omega
  have he : table_at.idx (fun y => y.f0 == x.f0) l = (i : Int) := table_at.idx_hit _ l i hi (by simpa using hye) (fun j hj hji => by
   rw [beq_eq_false_iff_ne]
   intro e
   have := hne j hj e
   omega)
  rw [he, if_pos (by omega), Int.toNat_natCast]
  refine List.ext_getElem (by unfold swapL; rw [List.length_set, List.length_map]) (fun j h1 h2 => ?_)
  have hj : j < l.length := by rw [List.length_set] at h1; exact h1
  have e5 : (swapL l x.f0 x)[j]'h2 = (if l[j].f0 = x.f0 then x else l[j]) := by simp only [swapL, List.getElem_map]
  rw [List.getElem_set, e5]
  by_cases e : i = j
  ·subst e
   rw [if_pos rfl, if_pos hye]
  ·rw [if_neg e, if_neg (fun h => e (hne j hj h).symm)]
 ·have hn : ∀ y ∈ l, y.f0 ≠ x.f0 := fun y hy e => hm ⟨y, hy, e⟩
  have he : table_at.idx (fun y => y.f0 == x.f0) l = -1 := table_at.idx_miss _ l (fun j hj => by
   rw [beq_eq_false_iff_ne]
   exact hn _ (List.getElem_mem hj))
  rw [he, if_neg (by decide)]
  have hlt : ∀ y ∈ l, ltOf table_With.cf x y = decide (x.f0 < y.f0) := fun y hy => cf_lt x y hxb (lease_host (hok y hy))
  obtain ⟨u, v, e, hu, hv⟩ := wp_split x l hs hn
  unfold table_With.srt
  rw [wp_last (ltOf table_With.cf) l x (fun a y z b e => by
   have hy : y ∈ l := by rw [e]; simp
   have hz : z ∈ l := by rw [e]; simp
   have h1 := (List.pairwise_append.1 (by rw [e] at hs; exact hs)).2.1
   have h2 := (List.pairwise_cons.1 h1).1 z List.mem_cons_self
   rw [cf_lt z y (lease_host (hok z hz)) (lease_host (hok y hy)), decide_eq_false (by omega)])]
  have e2 : l.reverse = v.reverse ++ u.reverse := by rw [e, List.reverse_append]
  rw [e2, wp_ins (ltOf table_With.cf) x u (fun y hy => by rw [hlt y (by rw [e]; exact List.mem_append_left _ hy), decide_eq_false (by have := hu y hy; omega)]) v.reverse [] (fun y hy => by
   have hy2 : y ∈ v := by simpa using hy
   rw [hlt y (by rw [e]; exact List.mem_append_right _ hy2), decide_eq_true (hv y hy2)])]
  rw [List.reverse_reverse, List.append_nil, e, put_mid x v hv u hu]
set_option maxHeartbeats 8000000 in
set_option maxRecDepth 100000 in
theorem claim_Claim.offered (gl : Nat) (x : S36) (w : World) (h : w.heap[gl]? = some (.cells #[.int .i64 x.f0, .int .i64 x.f1, .string x.f2, .int .i64 x.f3, .string x.f4, .bool x.f5] 36)) :
  Calls Tryd.prog 30 #[.pointer (some ⟨gl, 0, none⟩)] w fun e w' => e = .returned (.bool (offeredX x)) ∧ Below w.heap.size w w' := by
 have v1 := bc_ h 1
 have e1 : (x.f1 == 1) = offeredX x := by unfold offeredX; rw [Bool.eq_iff_iff, beq_iff_eq, decide_eq_true_eq]
 clear h
 go_enter Tryd.func30, Tryd.ntmps30
 go_wp2
 go_ret
 exact ⟨ret_bool e1, by repeat (with_reducible first | exact Below.refl _ _ | apply p1_ | apply p2_)⟩
theorem claim_Claim.every (gl : Nat) (w : World) :
  Calls Tryd.prog 24 #[.pointer (some ⟨gl, 0, none⟩)] w fun e w' => e = .returned (.bool true) ∧ Below w.heap.size w w' := by
 go_enter Tryd.func24, Tryd.ntmps24
 go_wp2
 go_ret
 exact ⟨rfl, by repeat (with_reducible first | exact Below.refl _ _ | apply p1_ | apply p2_)⟩
theorem claim_Claim.info : (Tryd.prog.info? 36).map (fun i => (i.zero, i.size, i.bytes)) = some (some (.agg #[.int .i64 0, .int .i64 0, .string ⟨#[]⟩, .int .i64 0, .string ⟨#[]⟩, .bool false]), 6, 64) := by kernel_rfl
theorem kind_is (q0 : Bool) (q1 hh : Int) (lent : Bool) (x : S36) (c : ByteArray) (now : Int) : kindV q0 q1 hh lent x c now = 0 ∨ kindV q0 q1 hh lent x c now = 1 ∨ kindV q0 q1 hh lent x c now = 2 := by
 unfold kindV
 repeat' split
 all_goals simp
def claim_Claim.f (a0_0 : Int) (a0_1 : Int) (l0_2 : List Int) (l0_3 : List S72) (a0_4 : Int) (a0_5 : ByteArray) (l0_6 : List S74) (l1 : List S36) (a2 : Int) (a3 : ByteArray) (q0 : Bool) (q1 q2 q3 : Int) (q4 : ByteArray) : Option (List S36 × Int × Int × Int) := if pickFit l0_2 l0_3 a0_5 l0_6 l1 ∧ q4.size ≤ 140737488351232 then some (claimV (freeB a0_0 a0_1 l0_2 l0_3 a0_4 a0_5 l0_6 l1 a2 a3) a0_0 a0_1 l0_2 l0_3 a0_4 a0_5 l0_6 l1 a2 a3 q0 q1 q2 q3 q4) else none
set_option maxHeartbeats 8000000 in
set_option maxRecDepth 100000 in
theorem claim_Claim.calls (a0_0 : Int) (a0_1 : Int) (A0_2 : Option Addr) (c0_2 : Nat) (l0_2 : List Int) (A0_3 : Option Addr) (c0_3 : Nat) (l0_3 : List S72) (a0_4 : Int) (a0_5 : ByteArray) (A0_6 : Option Addr) (c0_6 : Nat) (l0_6 : List S74) (A1 : Option Addr) (c1 : Nat) (l1 : List S36) (a2 : Int) (a3 : ByteArray) (q0 : Bool) (q1 q2 q3 : Int) (q4 : ByteArray) (r1 : List S36) (r2 r3 r4 : Int) (w : World) (hr0_2 : Kd.C (Kd.int .i64) w A0_2 l0_2.length l0_2) (hc0_2 : l0_2.length ≤ c0_2) (hr0_3 : Kd.C k72 w A0_3 l0_3.length l0_3) (hc0_3 : l0_3.length ≤ c0_3) (hr0_6 : Kd.C k74 w A0_6 l0_6.length l0_6) (hc0_6 : l0_6.length ≤ c0_6) (hr1 : Kd.C k36 w A1 l1.length l1) (hc1 : l1.length ≤ c1) (h : claim_Claim.f a0_0 a0_1 l0_2 l0_3 a0_4 a0_5 l0_6 l1 a2 a3 q0 q1 q2 q3 q4 = some (r1, r2, r3, r4)) :
  Calls Tryd.prog 9 #[.agg #[.int .i64 a0_0, .int .i64 a0_1, .slice A0_2 l0_2.length c0_2, .slice A0_3 l0_3.length c0_3, .int .i64 a0_4, .string a0_5, .slice A0_6 l0_6.length c0_6], .slice A1 l1.length c1, .int .i64 a2, .string a3, .agg #[.bool q0, .int .i64 q1, .int .i64 q2, .int .i64 q3, .string q4]] w fun e w' => ∃ v0_ : Value, e = .returned (.tuple #[v0_, .int .i64 r2, .int .i64 r3, .int .i64 r4]) ∧ Kd.R k36 36 w' w.heap.size (fun _ => True) v0_ r1 ∧ Below w.heap.size w w' := by
 unfold claim_Claim.f at h
 by_cases hsq : pickFit l0_2 l0_3 a0_5 l0_6 l1 ∧ q4.size ≤ 140737488351232
 rotate_left
 ·rw [if_neg hsq] at h
  cases h
 rw [if_pos hsq] at h
 obtain ⟨hs, hq⟩ := hsq
 replace h := e5_ h
 have htold := claim_told h
 unfold claimV at h
 obtain ⟨b1, h1⟩ : ∃ b, pickMayB a0_0 a0_1 l0_2 l0_3 a0_4 a0_5 l0_6 l1 a2 a3 = b := ⟨_, rfl⟩
 obtain ⟨b2, h2⟩ : ∃ b, decide (0 ≤ a2 ∧ a2 ≤ 1099510579200) = b := ⟨_, rfl⟩
 obtain ⟨b3, h3⟩ : ∃ b, reqB q0 q1 q2 q3 q4 = b := ⟨_, rfl⟩
 rw [h1, h2, h3] at h
 obtain ⟨W2, hW2⟩ : ∃ W2, ((w.alloc (.cells #[.int .i64 a0_0, .int .i64 a0_1, .slice A0_2 l0_2.length c0_2, .slice A0_3 l0_3.length c0_3, .int .i64 a0_4, .string a0_5, .slice A0_6 l0_6.length c0_6] 26)).alloc (.cells #[.bool q0, .int .i64 q1, .int .i64 q2, .int .i64 q3, .string q4] 29)) = W2 := ⟨_, rfl⟩
 have HB := am_ (show Below w.heap.size w W2 by rw [← hW2]; repeat (first | exact Below.refl _ _ | apply p3_))
 have BK := am_ (show W2.heap[w.heap.size]? = some (.cells #[.int .i64 a0_0, .int .i64 a0_1, .slice A0_2 l0_2.length c0_2, .slice A0_3 l0_3.length c0_3, .int .i64 a0_4, .string a0_5, .slice A0_6 l0_6.length c0_6] 26) by rw [← hW2]; exact k1_ (blk_new w _) _)
 have BQ := am_ (show W2.heap[w.heap.size + 1]? = some (.cells #[.bool q0, .int .i64 q1, .int .i64 q2, .int .i64 q3, .string q4] 29) by
  have := blk_new (w.alloc (.cells #[.int .i64 a0_0, .int .i64 a0_1, .slice A0_2 l0_2.length c0_2, .slice A0_3 l0_3.length c0_3, .int .i64 a0_4, .string a0_5, .slice A0_6 l0_6.length c0_6] 26)) (.cells #[.bool q0, .int .i64 q1, .int .i64 q2, .int .i64 q3, .string q4] 29)
  rw [hW2] at this
  simpa using this)
 have C1 := am_ (fun W (hb : Below w.heap.size w W) (bk : W.heap[w.heap.size]? = some (.cells #[.int .i64 a0_0, .int .i64 a0_1, .slice A0_2 l0_2.length c0_2, .slice A0_3 l0_3.length c0_3, .int .i64 a0_4, .string a0_5, .slice A0_6 l0_6.length c0_6] 26)) => pick_May.calls w.heap.size a0_0 a0_1 A0_2 c0_2 l0_2 A0_3 c0_3 l0_3 a0_4 a0_5 A0_6 c0_6 l0_6 A1 c1 l1 a2 a3 b1 W bk (c4_ hr0_2 hb) hc0_2 (c4_ hr0_3 hb) hc0_3 (c4_ hr0_6 hb) hc0_6 (c4_ hr1 hb) hc1 hs h1)
 have C2 := am_ (fun W => lease_Early_c.calls a2 b2 W (by unfold lease_Early_c.f; rw [h2]))
 have C3 := am_ (fun W (bk : W.heap[w.heap.size + 1]? = some (.cells #[.bool q0, .int .i64 q1, .int .i64 q2, .int .i64 q3, .string q4] 29)) => claim_may.calls (w.heap.size + 1) q0 q1 q2 q3 q4 b3 W bk hq h3)
 cases b1 with
 | false =>
  rw [if_neg (by first | decide | simp)] at h
  obtain ⟨rfl, h5⟩ := Prod.mk.inj h
  obtain ⟨rfl, h6⟩ := Prod.mk.inj h5
  obtain ⟨rfl, rfl⟩ := Prod.mk.inj h6
  clear h6 h5 h
  clear htold C2 C3 h1 h2 h3 hs hq hr0_2 hr0_3 hr0_6 hc0_2 hc0_3 hc0_6 hr1 hc1
  go_enter Tryd.func9, Tryd.ntmps9
  go_wp2_with (first | (go_at_call 19; (try rw [hW2]); (with_reducible refine (C1.out _ (by repeat (with_reducible first | exact HB.out | apply p3_ | apply p1_ | apply p2_)) (by (with_reducible repeat (first | exact BK.out | refine k2_ ?_ _ | refine k3_ ?_ | refine k1_ ?_ _)))).mono ?_); rintro e w1 ⟨rfl, hb2⟩; replace BK := am_ (kb_ (show _ from (by (with_reducible repeat (first | exact BK.out | refine k2_ ?_ _ | refine k3_ ?_ | refine k1_ ?_ _)))) hb2); replace BQ := am_ (kb_ (show _ from (by (with_reducible repeat (first | exact BQ.out | refine k2_ ?_ _ | refine k3_ ?_ | refine k1_ ?_ _)))) hb2); replace HB := am_ (bt_ (show Below w.heap.size w _ from (by repeat (with_reducible first | exact HB.out | apply p3_ | apply p1_ | apply p2_))) hb2); clear hb2; (try clear u0 u1 u2 u3 u4 u5 u6); (try clear v0 v1 v2 v3 v4); have u0 := bc_ BK.out 0; have u1 := bc_ BK.out 1; have u2 := bc_ BK.out 2; have u3 := bc_ BK.out 3; have u4 := bc_ BK.out 4; have u5 := bc_ BK.out 5; have u6 := bc_ BK.out 6; have v0 := bc_ BQ.out 0; have v1 := bc_ BQ.out 1; have v2 := bc_ BQ.out 2; have v3 := bc_ BQ.out 3; have v4 := bc_ BQ.out 4))
  ((try simp only [Exit.inBlock, Exit.then]); refine bodyPost_ret (results_tmp4 rfl _ _ _) rfl ?_)
  exact ⟨_, rfl, Kd.R_nil _ _ _ _ _, (by repeat (with_reducible first | exact HB.out | apply p3_ | apply p1_ | apply p2_))⟩
 | true =>
 cases b2 with
 | false =>
  rw [if_neg (by first | decide | simp)] at h
  obtain ⟨rfl, h5⟩ := Prod.mk.inj h
  obtain ⟨rfl, h6⟩ := Prod.mk.inj h5
  obtain ⟨rfl, rfl⟩ := Prod.mk.inj h6
  clear h6 h5 h
  clear htold C3 h1 h2 h3 hs hq hr0_2 hr0_3 hr0_6 hc0_2 hc0_3 hc0_6 hr1 hc1
  go_enter Tryd.func9, Tryd.ntmps9
  go_wp2_with (first | (go_at_call 19; (try rw [hW2]); (with_reducible refine (C1.out _ (by repeat (with_reducible first | exact HB.out | apply p3_ | apply p1_ | apply p2_)) (by (with_reducible repeat (first | exact BK.out | refine k2_ ?_ _ | refine k3_ ?_ | refine k1_ ?_ _)))).mono ?_); rintro e w1 ⟨rfl, hb2⟩; replace BK := am_ (kb_ (show _ from (by (with_reducible repeat (first | exact BK.out | refine k2_ ?_ _ | refine k3_ ?_ | refine k1_ ?_ _)))) hb2); replace BQ := am_ (kb_ (show _ from (by (with_reducible repeat (first | exact BQ.out | refine k2_ ?_ _ | refine k3_ ?_ | refine k1_ ?_ _)))) hb2); replace HB := am_ (bt_ (show Below w.heap.size w _ from (by repeat (with_reducible first | exact HB.out | apply p3_ | apply p1_ | apply p2_))) hb2); clear hb2; (try clear u0 u1 u2 u3 u4 u5 u6); (try clear v0 v1 v2 v3 v4); have u0 := bc_ BK.out 0; have u1 := bc_ BK.out 1; have u2 := bc_ BK.out 2; have u3 := bc_ BK.out 3; have u4 := bc_ BK.out 4; have u5 := bc_ BK.out 5; have u6 := bc_ BK.out 6; have v0 := bc_ BQ.out 0; have v1 := bc_ BQ.out 1; have v2 := bc_ BQ.out 2; have v3 := bc_ BQ.out 3; have v4 := bc_ BQ.out 4) | (go_at_call 20; (with_reducible refine (C2.out _).mono ?_); rintro e w2 ⟨rfl, ⟨nd, rfl⟩⟩; replace BK := am_ (k2_ BK.out nd); replace BQ := am_ (k2_ BQ.out nd); replace HB := am_ (p1_ HB.out nd)))
  ((try simp only [Exit.inBlock, Exit.then]); refine bodyPost_ret (results_tmp4 rfl _ _ _) rfl ?_)
  exact ⟨_, rfl, Kd.R_nil _ _ _ _ _, (by repeat (with_reducible first | exact HB.out | apply p3_ | apply p1_ | apply p2_))⟩
 | true =>
 cases b3 with
 | false =>
  rw [if_neg (by first | decide | simp)] at h
  obtain ⟨rfl, h5⟩ := Prod.mk.inj h
  obtain ⟨rfl, h6⟩ := Prod.mk.inj h5
  obtain ⟨rfl, rfl⟩ := Prod.mk.inj h6
  clear h6 h5 h
  clear htold h1 h2 h3 hs hq hr0_2 hr0_3 hr0_6 hc0_2 hc0_3 hc0_6 hr1 hc1
  go_enter Tryd.func9, Tryd.ntmps9
  go_wp2_with (first | (go_at_call 19; (try rw [hW2]); (with_reducible refine (C1.out _ (by repeat (with_reducible first | exact HB.out | apply p3_ | apply p1_ | apply p2_)) (by (with_reducible repeat (first | exact BK.out | refine k2_ ?_ _ | refine k3_ ?_ | refine k1_ ?_ _)))).mono ?_); rintro e w1 ⟨rfl, hb2⟩; replace BK := am_ (kb_ (show _ from (by (with_reducible repeat (first | exact BK.out | refine k2_ ?_ _ | refine k3_ ?_ | refine k1_ ?_ _)))) hb2); replace BQ := am_ (kb_ (show _ from (by (with_reducible repeat (first | exact BQ.out | refine k2_ ?_ _ | refine k3_ ?_ | refine k1_ ?_ _)))) hb2); replace HB := am_ (bt_ (show Below w.heap.size w _ from (by repeat (with_reducible first | exact HB.out | apply p3_ | apply p1_ | apply p2_))) hb2); clear hb2; (try clear u0 u1 u2 u3 u4 u5 u6); (try clear v0 v1 v2 v3 v4); have u0 := bc_ BK.out 0; have u1 := bc_ BK.out 1; have u2 := bc_ BK.out 2; have u3 := bc_ BK.out 3; have u4 := bc_ BK.out 4; have u5 := bc_ BK.out 5; have u6 := bc_ BK.out 6; have v0 := bc_ BQ.out 0; have v1 := bc_ BQ.out 1; have v2 := bc_ BQ.out 2; have v3 := bc_ BQ.out 3; have v4 := bc_ BQ.out 4) | (go_at_call 20; (with_reducible refine (C2.out _).mono ?_); rintro e w2 ⟨rfl, ⟨nd, rfl⟩⟩; replace BK := am_ (k2_ BK.out nd); replace BQ := am_ (k2_ BQ.out nd); replace HB := am_ (p1_ HB.out nd)) | (go_at_call 21; (with_reducible refine (C3.out _ (by (with_reducible repeat (first | exact BQ.out | refine k2_ ?_ _ | refine k3_ ?_ | refine k1_ ?_ _)))).mono ?_); rintro e w3 ⟨rfl, hb2⟩; replace BK := am_ (kb_ (show _ from (by (with_reducible repeat (first | exact BK.out | refine k2_ ?_ _ | refine k3_ ?_ | refine k1_ ?_ _)))) hb2); replace BQ := am_ (kb_ (show _ from (by (with_reducible repeat (first | exact BQ.out | refine k2_ ?_ _ | refine k3_ ?_ | refine k1_ ?_ _)))) hb2); replace HB := am_ (bt_ (show Below w.heap.size w _ from (by repeat (with_reducible first | exact HB.out | apply p3_ | apply p1_ | apply p2_))) hb2); clear hb2; (try clear u0 u1 u2 u3 u4 u5 u6); (try clear v0 v1 v2 v3 v4); have u0 := bc_ BK.out 0; have u1 := bc_ BK.out 1; have u2 := bc_ BK.out 2; have u3 := bc_ BK.out 3; have u4 := bc_ BK.out 4; have u5 := bc_ BK.out 5; have u6 := bc_ BK.out 6; have v0 := bc_ BQ.out 0; have v1 := bc_ BQ.out 1; have v2 := bc_ BQ.out 2; have v3 := bc_ BQ.out 3; have v4 := bc_ BQ.out 4))
  ((try simp only [Exit.inBlock, Exit.then]); refine bodyPost_ret (results_tmp4 rfl _ _ _) rfl ?_)
  exact ⟨_, rfl, Kd.R_nil _ _ _ _ _, (by repeat (with_reducible first | exact HB.out | apply p3_ | apply p1_ | apply p2_))⟩
 | true =>
 rw [if_pos (by decide)] at h
 have hm := may_parts h1
 have hn := of_decide_eq_true h2
 have hT := hm.2.2.2.1
 obtain ⟨hh, hhh⟩ : ∃ v, claimHost q0 q2 q3 = v := ⟨_, rfl⟩
 rw [hhh] at h
 have C4 := am_ (fun W (bk : W.heap[w.heap.size + 1]? = some (.cells #[.bool q0, .int .i64 q1, .int .i64 q2, .int .i64 q3, .string q4] 29)) => claim_host.calls (w.heap.size + 1) q0 q1 q2 q3 q4 hh W bk hhh)
 obtain ⟨x, hx⟩ : ∃ x, gotL (findL l1 hh) = x := ⟨_, rfl⟩
 rw [hx] at h
 have hsz : x.f4.size ≤ 140737488351232 := by
  rw [← hx]
  cases e : findL l1 hh with
  | none => exact (by decide : (⟨#[]⟩ : ByteArray).size ≤ 140737488351232)
  | some y => exact hs.2.2 y (List.mem_of_find?_eq_some e)
 have C5 := am_ (fun W (hb : Below w.heap.size w W) => table_Find_c.calls A1 c1 l1 hh x.f0 x.f1 x.f2 x.f3 x.f4 x.f5 (findL l1 hh).isSome W (c4_ hr1 hb) hc1 (by unfold table_Find_c.f; rw [if_pos hs.2.1, hx]))
 obtain ⟨lt, hlt⟩ : ∃ b, lentB a0_0 a0_1 l0_2 l0_3 a0_4 a0_5 l0_6 hh a3 = b := ⟨_, rfl⟩
 rw [hlt] at h
 have C6 := am_ (fun W (hb : Below w.heap.size w W) (bk : W.heap[w.heap.size]? = some (.cells #[.int .i64 a0_0, .int .i64 a0_1, .slice A0_2 l0_2.length c0_2, .slice A0_3 l0_3.length c0_3, .int .i64 a0_4, .string a0_5, .slice A0_6 l0_6.length c0_6] 26)) => conf_Lent.calls w.heap.size a0_0 a0_1 A0_2 c0_2 l0_2 A0_3 c0_3 l0_3 a0_4 a0_5 A0_6 c0_6 l0_6 hh a3 lt W bk (c4_ hr0_2 hb) hc0_2 (c4_ hr0_3 hb) hc0_3 (c4_ hr0_6 hb) hc0_6 hs.1 hlt)
 obtain ⟨k, hk⟩ : ∃ v, kindV q0 q1 hh lt x a3 a2 = v := ⟨_, rfl⟩
 rw [hk] at h
 have hkis := kind_is q0 q1 hh lt x a3 a2
 rw [hk] at hkis
 have hown : k = 1 → x.f2.toList = a3.toList := fun e => (kind_own (hk.trans e)).1
 have hKs : (keptN q4 x a3).size ≤ 140737488351232 := by unfold keptN; split <;> assumption
 obtain ⟨x0, x1, x2, x3, x4, x5⟩ := x
 simp only at hsz C5
 have C7 := am_ (fun W (gl : Nat) (bq : W.heap[w.heap.size + 1]? = some (.cells #[.bool q0, .int .i64 q1, .int .i64 q2, .int .i64 q3, .string q4] 29)) (bx : W.heap[gl]? = some (.cells #[.int .i64 x0, .int .i64 x1, .string x2, .int .i64 x3, .string x4, .bool x5] 36)) => claim_kind.calls (w.heap.size + 1) q0 q1 q2 q3 q4 hh lt gl x0 x1 x2 x3 x4 x5 a3 a2 k W bq bx hsz hk)
 generalize hix : (findL l1 hh).isSome = isx at C5
 unfold claimGo at h
 by_cases k1 : k = 1
 rotate_left
 ·rw [if_neg k1] at h
  have k1b : (k == 1) = false := by simpa using k1
  by_cases k0 : k = 0 ∧ q0 = true
  ·rw [if_pos k0] at h
   obtain ⟨rfl, h5⟩ := Prod.mk.inj h
   obtain ⟨rfl, h6⟩ := Prod.mk.inj h5
   obtain ⟨rfl, rfl⟩ := Prod.mk.inj h6
   clear h6 h5 h
   obtain ⟨rfl, rfl⟩ := k0
   have CD := am_ (fun W (hb : Below w.heap.size w W) => offer_Drop.calls offeredX 30 #[] A1 c1 l1 a2 a3 0 W (c4_ hr1 hb) hc1 ⟨by have := (table_sorted hT).2.2; omega, hs.2.2⟩ (fun args w => enters_ Tryd.func30 (by kernel_rfl) rfl args w) (fun W gl x hx => claim_Claim.offered gl x W hx))
   clear htold h1 h2 h3 hs hq hr0_2 hr0_3 hr0_6 hc0_2 hc0_3 hc0_6 hr1 hc1 hm hT hhh hx hsz hlt hk hkis hown hKs k1 hn
   go_enter Tryd.func9, Tryd.ntmps9
   go_wp2_with (first | (go_at_call 19; (try rw [hW2]); (with_reducible refine (C1.out _ (by repeat (with_reducible first | exact HB.out | apply p3_ | apply p1_ | apply p2_)) (by (with_reducible repeat (first | exact BK.out | refine k2_ ?_ _ | refine k3_ ?_ | refine k1_ ?_ _)))).mono ?_); rintro e w1 ⟨rfl, hb2⟩; replace BK := am_ (kb_ (show _ from (by (with_reducible repeat (first | exact BK.out | refine k2_ ?_ _ | refine k3_ ?_ | refine k1_ ?_ _)))) hb2); replace BQ := am_ (kb_ (show _ from (by (with_reducible repeat (first | exact BQ.out | refine k2_ ?_ _ | refine k3_ ?_ | refine k1_ ?_ _)))) hb2); replace HB := am_ (bt_ (show Below w.heap.size w _ from (by repeat (with_reducible first | exact HB.out | apply p3_ | apply p1_ | apply p2_))) hb2); clear hb2; (try clear u0 u1 u2 u3 u4 u5 u6); (try clear v0 v1 v2 v3 v4); have u0 := bc_ BK.out 0; have u1 := bc_ BK.out 1; have u2 := bc_ BK.out 2; have u3 := bc_ BK.out 3; have u4 := bc_ BK.out 4; have u5 := bc_ BK.out 5; have u6 := bc_ BK.out 6; have v0 := bc_ BQ.out 0; have v1 := bc_ BQ.out 1; have v2 := bc_ BQ.out 2; have v3 := bc_ BQ.out 3; have v4 := bc_ BQ.out 4) | (go_at_call 20; (with_reducible refine (C2.out _).mono ?_); rintro e w2 ⟨rfl, ⟨nd, rfl⟩⟩; replace BK := am_ (k2_ BK.out nd); replace BQ := am_ (k2_ BQ.out nd); replace HB := am_ (p1_ HB.out nd)) | (go_at_call 21; (with_reducible refine (C3.out _ (by (with_reducible repeat (first | exact BQ.out | refine k2_ ?_ _ | refine k3_ ?_ | refine k1_ ?_ _)))).mono ?_); rintro e w3 ⟨rfl, hb2⟩; replace BK := am_ (kb_ (show _ from (by (with_reducible repeat (first | exact BK.out | refine k2_ ?_ _ | refine k3_ ?_ | refine k1_ ?_ _)))) hb2); replace BQ := am_ (kb_ (show _ from (by (with_reducible repeat (first | exact BQ.out | refine k2_ ?_ _ | refine k3_ ?_ | refine k1_ ?_ _)))) hb2); replace HB := am_ (bt_ (show Below w.heap.size w _ from (by repeat (with_reducible first | exact HB.out | apply p3_ | apply p1_ | apply p2_))) hb2); clear hb2; (try clear u0 u1 u2 u3 u4 u5 u6); (try clear v0 v1 v2 v3 v4); have u0 := bc_ BK.out 0; have u1 := bc_ BK.out 1; have u2 := bc_ BK.out 2; have u3 := bc_ BK.out 3; have u4 := bc_ BK.out 4; have u5 := bc_ BK.out 5; have u6 := bc_ BK.out 6; have v0 := bc_ BQ.out 0; have v1 := bc_ BQ.out 1; have v2 := bc_ BQ.out 2; have v3 := bc_ BQ.out 3; have v4 := bc_ BQ.out 4) | (go_at_call 22; (with_reducible refine (C4.out _ (by (with_reducible repeat (first | exact BQ.out | refine k2_ ?_ _ | refine k3_ ?_ | refine k1_ ?_ _)))).mono ?_); rintro e w4 ⟨rfl, hb2⟩; replace BK := am_ (kb_ (show _ from (by (with_reducible repeat (first | exact BK.out | refine k2_ ?_ _ | refine k3_ ?_ | refine k1_ ?_ _)))) hb2); replace BQ := am_ (kb_ (show _ from (by (with_reducible repeat (first | exact BQ.out | refine k2_ ?_ _ | refine k3_ ?_ | refine k1_ ?_ _)))) hb2); replace HB := am_ (bt_ (show Below w.heap.size w _ from (by repeat (with_reducible first | exact HB.out | apply p3_ | apply p1_ | apply p2_))) hb2); clear hb2; (try clear u0 u1 u2 u3 u4 u5 u6); (try clear v0 v1 v2 v3 v4); have u0 := bc_ BK.out 0; have u1 := bc_ BK.out 1; have u2 := bc_ BK.out 2; have u3 := bc_ BK.out 3; have u4 := bc_ BK.out 4; have u5 := bc_ BK.out 5; have u6 := bc_ BK.out 6; have v0 := bc_ BQ.out 0; have v1 := bc_ BQ.out 1; have v2 := bc_ BQ.out 2; have v3 := bc_ BQ.out 3; have v4 := bc_ BQ.out 4) | (go_at_call 23; (with_reducible refine (C5.out _ (by repeat (with_reducible first | exact HB.out | apply p3_ | apply p1_ | apply p2_))).mono ?_); rintro e w5 ⟨rfl, hb2⟩; replace BK := am_ (kb_ (show _ from (by (with_reducible repeat (first | exact BK.out | refine k2_ ?_ _ | refine k3_ ?_ | refine k1_ ?_ _)))) hb2); replace BQ := am_ (kb_ (show _ from (by (with_reducible repeat (first | exact BQ.out | refine k2_ ?_ _ | refine k3_ ?_ | refine k1_ ?_ _)))) hb2); replace HB := am_ (bt_ (show Below w.heap.size w _ from (by repeat (with_reducible first | exact HB.out | apply p3_ | apply p1_ | apply p2_))) hb2); clear hb2; have BX := am_ (blk_new w5 (.cells #[.int .i64 x0, .int .i64 x1, .string x2, .int .i64 x3, .string x4, .bool x5] 36)); replace BK := am_ (k1_ BK.out (.cells #[.int .i64 x0, .int .i64 x1, .string x2, .int .i64 x3, .string x4, .bool x5] 36)); replace BQ := am_ (k1_ BQ.out (.cells #[.int .i64 x0, .int .i64 x1, .string x2, .int .i64 x3, .string x4, .bool x5] 36)); replace HB := am_ (p3_ HB.out (.cells #[.int .i64 x0, .int .i64 x1, .string x2, .int .i64 x3, .string x4, .bool x5] 36)); (try clear u0 u1 u2 u3 u4 u5 u6); (try clear v0 v1 v2 v3 v4); have u0 := bc_ BK.out 0; have u1 := bc_ BK.out 1; have u2 := bc_ BK.out 2; have u3 := bc_ BK.out 3; have u4 := bc_ BK.out 4; have u5 := bc_ BK.out 5; have u6 := bc_ BK.out 6; have v0 := bc_ BQ.out 0; have v1 := bc_ BQ.out 1; have v2 := bc_ BQ.out 2; have v3 := bc_ BQ.out 3; have v4 := bc_ BQ.out 4; have z0 := bc_ BX.out 0; have z1 := bc_ BX.out 1; have z2 := bc_ BX.out 2; have z3 := bc_ BX.out 3; have z4 := bc_ BX.out 4; have z5 := bc_ BX.out 5) | (go_at_call 26; (with_reducible refine (C6.out _ (by repeat (with_reducible first | exact HB.out | apply p3_ | apply p1_ | apply p2_)) (by (with_reducible repeat (first | exact BK.out | refine k2_ ?_ _ | refine k3_ ?_ | refine k1_ ?_ _)))).mono ?_); rintro e w6 ⟨rfl, hb2⟩; replace BK := am_ (kb_ (show _ from (by (with_reducible repeat (first | exact BK.out | refine k2_ ?_ _ | refine k3_ ?_ | refine k1_ ?_ _)))) hb2); replace BQ := am_ (kb_ (show _ from (by (with_reducible repeat (first | exact BQ.out | refine k2_ ?_ _ | refine k3_ ?_ | refine k1_ ?_ _)))) hb2); replace BX := am_ (kb_ (show _ from (by (with_reducible repeat (first | exact BX.out | refine k2_ ?_ _ | refine k3_ ?_ | refine k1_ ?_ _)))) hb2); replace HB := am_ (bt_ (show Below w.heap.size w _ from (by repeat (with_reducible first | exact HB.out | apply p3_ | apply p1_ | apply p2_))) hb2); clear hb2; (try clear u0 u1 u2 u3 u4 u5 u6); (try clear v0 v1 v2 v3 v4); have u0 := bc_ BK.out 0; have u1 := bc_ BK.out 1; have u2 := bc_ BK.out 2; have u3 := bc_ BK.out 3; have u4 := bc_ BK.out 4; have u5 := bc_ BK.out 5; have u6 := bc_ BK.out 6; have v0 := bc_ BQ.out 0; have v1 := bc_ BQ.out 1; have v2 := bc_ BQ.out 2; have v3 := bc_ BQ.out 3; have v4 := bc_ BQ.out 4; (try clear z0 z1 z2 z3 z4 z5); have z0 := bc_ BX.out 0; have z1 := bc_ BX.out 1; have z2 := bc_ BX.out 2; have z3 := bc_ BX.out 3; have z4 := bc_ BX.out 4; have z5 := bc_ BX.out 5) | (go_at_call 25; (with_reducible refine (C7.out _ _ (by (with_reducible repeat (first | exact BQ.out | refine k2_ ?_ _ | refine k3_ ?_ | refine k1_ ?_ _))) (by (with_reducible repeat (first | exact BX.out | refine k2_ ?_ _ | refine k3_ ?_ | refine k1_ ?_ _)))).mono ?_); rintro e w7 ⟨rfl, hb2⟩; replace BK := am_ (kb_ (show _ from (by (with_reducible repeat (first | exact BK.out | refine k2_ ?_ _ | refine k3_ ?_ | refine k1_ ?_ _)))) hb2); replace BQ := am_ (kb_ (show _ from (by (with_reducible repeat (first | exact BQ.out | refine k2_ ?_ _ | refine k3_ ?_ | refine k1_ ?_ _)))) hb2); replace BX := am_ (kb_ (show _ from (by (with_reducible repeat (first | exact BX.out | refine k2_ ?_ _ | refine k3_ ?_ | refine k1_ ?_ _)))) hb2); replace HB := am_ (bt_ (show Below w.heap.size w _ from (by repeat (with_reducible first | exact HB.out | apply p3_ | apply p1_ | apply p2_))) hb2); clear hb2; (try clear u0 u1 u2 u3 u4 u5 u6); (try clear v0 v1 v2 v3 v4); have u0 := bc_ BK.out 0; have u1 := bc_ BK.out 1; have u2 := bc_ BK.out 2; have u3 := bc_ BK.out 3; have u4 := bc_ BK.out 4; have u5 := bc_ BK.out 5; have u6 := bc_ BK.out 6; have v0 := bc_ BQ.out 0; have v1 := bc_ BQ.out 1; have v2 := bc_ BQ.out 2; have v3 := bc_ BQ.out 3; have v4 := bc_ BQ.out 4; (try clear z0 z1 z2 z3 z4 z5); have z0 := bc_ BX.out 0; have z1 := bc_ BX.out 1; have z2 := bc_ BX.out 2; have z3 := bc_ BX.out 3; have z4 := bc_ BX.out 4; have z5 := bc_ BX.out 5) | (go_at_call 28; (with_reducible refine (CD.out _ (by repeat (with_reducible first | exact HB.out | apply p3_ | apply p1_ | apply p2_))).mono ?_); rintro e w8 ⟨v, rfl, hv, hb2⟩; have HV := am_ (Kd.R_lower hv (show w.heap.size ≤ _ from (show Below w.heap.size w _ from (by repeat (with_reducible first | exact HB.out | apply p3_ | apply p1_ | apply p2_))).size)); replace HB := am_ (bt_ (show Below w.heap.size w _ from (by repeat (with_reducible first | exact HB.out | apply p3_ | apply p1_ | apply p2_))) hb2); clear hb2 hv))
   ((try simp only [Exit.inBlock, Exit.then]); refine bodyPost_ret (results_tmp4 rfl _ _ _) rfl ?_)
   exact ⟨_, rfl, HV.out, HB.out⟩
  ·rw [if_neg k0] at h
   obtain ⟨rfl, h5⟩ := Prod.mk.inj h
   obtain ⟨rfl, h6⟩ := Prod.mk.inj h5
   obtain ⟨rfl, rfl⟩ := Prod.mk.inj h6
   clear h6 h5 h
   have hl8 := (table_sorted hT).2.2
   have HR1 := am_ hr1
   have AP := True.intro
   have hq0 : k = 0 → q0 = false := fun e => by cases q0 with
    | false => rfl
    | true => exact absurd ⟨e, rfl⟩ k0
   clear htold h1 h2 h3 hs hq hr0_2 hr0_3 hr0_6 hc0_2 hc0_3 hc0_6 hr1 hc1 hm hT hhh hx hsz hlt hk hown hKs k1 hn k0
   by_cases e0 : k = 0
   ·subst e0
    obtain rfl := hq0 rfl
    clear hkis hq0
    go_enter Tryd.func9, Tryd.ntmps9
    go_wp2_with (first
     | (go_at_call 19; (try rw [hW2]); (with_reducible refine (C1.out _ (by repeat (with_reducible first | exact HB.out | apply p3_ | apply p1_ | apply p2_)) (by (with_reducible repeat (first | exact BK.out | refine k2_ ?_ _ | refine k3_ ?_ | refine k1_ ?_ _)))).mono ?_); rintro e w1 ⟨rfl, hb2⟩; replace BK := am_ (kb_ (show _ from (by (with_reducible repeat (first | exact BK.out | refine k2_ ?_ _ | refine k3_ ?_ | refine k1_ ?_ _)))) hb2); replace BQ := am_ (kb_ (show _ from (by (with_reducible repeat (first | exact BQ.out | refine k2_ ?_ _ | refine k3_ ?_ | refine k1_ ?_ _)))) hb2); replace HB := am_ (bt_ (show Below w.heap.size w _ from (by repeat (with_reducible first | exact HB.out | apply p3_ | apply p1_ | apply p2_))) hb2); clear hb2; (try clear u0 u1 u2 u3 u4 u5 u6); (try clear v0 v1 v2 v3 v4); have u0 := bc_ BK.out 0; have u1 := bc_ BK.out 1; have u2 := bc_ BK.out 2; have u3 := bc_ BK.out 3; have u4 := bc_ BK.out 4; have u5 := bc_ BK.out 5; have u6 := bc_ BK.out 6; have v0 := bc_ BQ.out 0; have v1 := bc_ BQ.out 1; have v2 := bc_ BQ.out 2; have v3 := bc_ BQ.out 3; have v4 := bc_ BQ.out 4) | (go_at_call 20; (with_reducible refine (C2.out _).mono ?_); rintro e w2 ⟨rfl, ⟨nd, rfl⟩⟩; replace BK := am_ (k2_ BK.out nd); replace BQ := am_ (k2_ BQ.out nd); replace HB := am_ (p1_ HB.out nd)) | (go_at_call 21; (with_reducible refine (C3.out _ (by (with_reducible repeat (first | exact BQ.out | refine k2_ ?_ _ | refine k3_ ?_ | refine k1_ ?_ _)))).mono ?_); rintro e w3 ⟨rfl, hb2⟩; replace BK := am_ (kb_ (show _ from (by (with_reducible repeat (first | exact BK.out | refine k2_ ?_ _ | refine k3_ ?_ | refine k1_ ?_ _)))) hb2); replace BQ := am_ (kb_ (show _ from (by (with_reducible repeat (first | exact BQ.out | refine k2_ ?_ _ | refine k3_ ?_ | refine k1_ ?_ _)))) hb2); replace HB := am_ (bt_ (show Below w.heap.size w _ from (by repeat (with_reducible first | exact HB.out | apply p3_ | apply p1_ | apply p2_))) hb2); clear hb2; (try clear u0 u1 u2 u3 u4 u5 u6); (try clear v0 v1 v2 v3 v4); have u0 := bc_ BK.out 0; have u1 := bc_ BK.out 1; have u2 := bc_ BK.out 2; have u3 := bc_ BK.out 3; have u4 := bc_ BK.out 4; have u5 := bc_ BK.out 5; have u6 := bc_ BK.out 6; have v0 := bc_ BQ.out 0; have v1 := bc_ BQ.out 1; have v2 := bc_ BQ.out 2; have v3 := bc_ BQ.out 3; have v4 := bc_ BQ.out 4) | (go_at_call 22; (with_reducible refine (C4.out _ (by (with_reducible repeat (first | exact BQ.out | refine k2_ ?_ _ | refine k3_ ?_ | refine k1_ ?_ _)))).mono ?_); rintro e w4 ⟨rfl, hb2⟩; replace BK := am_ (kb_ (show _ from (by (with_reducible repeat (first | exact BK.out | refine k2_ ?_ _ | refine k3_ ?_ | refine k1_ ?_ _)))) hb2); replace BQ := am_ (kb_ (show _ from (by (with_reducible repeat (first | exact BQ.out | refine k2_ ?_ _ | refine k3_ ?_ | refine k1_ ?_ _)))) hb2); replace HB := am_ (bt_ (show Below w.heap.size w _ from (by repeat (with_reducible first | exact HB.out | apply p3_ | apply p1_ | apply p2_))) hb2); clear hb2; (try clear u0 u1 u2 u3 u4 u5 u6); (try clear v0 v1 v2 v3 v4); have u0 := bc_ BK.out 0; have u1 := bc_ BK.out 1; have u2 := bc_ BK.out 2; have u3 := bc_ BK.out 3; have u4 := bc_ BK.out 4; have u5 := bc_ BK.out 5; have u6 := bc_ BK.out 6; have v0 := bc_ BQ.out 0; have v1 := bc_ BQ.out 1; have v2 := bc_ BQ.out 2; have v3 := bc_ BQ.out 3; have v4 := bc_ BQ.out 4) | (go_at_call 23; (with_reducible refine (C5.out _ (by repeat (with_reducible first | exact HB.out | apply p3_ | apply p1_ | apply p2_))).mono ?_); rintro e w5 ⟨rfl, hb2⟩; replace BK := am_ (kb_ (show _ from (by (with_reducible repeat (first | exact BK.out | refine k2_ ?_ _ | refine k3_ ?_ | refine k1_ ?_ _)))) hb2); replace BQ := am_ (kb_ (show _ from (by (with_reducible repeat (first | exact BQ.out | refine k2_ ?_ _ | refine k3_ ?_ | refine k1_ ?_ _)))) hb2); replace HB := am_ (bt_ (show Below w.heap.size w _ from (by repeat (with_reducible first | exact HB.out | apply p3_ | apply p1_ | apply p2_))) hb2); clear hb2; have BX := am_ (blk_new w5 (.cells #[.int .i64 x0, .int .i64 x1, .string x2, .int .i64 x3, .string x4, .bool x5] 36)); replace BK := am_ (k1_ BK.out (.cells #[.int .i64 x0, .int .i64 x1, .string x2, .int .i64 x3, .string x4, .bool x5] 36)); replace BQ := am_ (k1_ BQ.out (.cells #[.int .i64 x0, .int .i64 x1, .string x2, .int .i64 x3, .string x4, .bool x5] 36)); replace HB := am_ (p3_ HB.out (.cells #[.int .i64 x0, .int .i64 x1, .string x2, .int .i64 x3, .string x4, .bool x5] 36)); (try clear u0 u1 u2 u3 u4 u5 u6); (try clear v0 v1 v2 v3 v4); have u0 := bc_ BK.out 0; have u1 := bc_ BK.out 1; have u2 := bc_ BK.out 2; have u3 := bc_ BK.out 3; have u4 := bc_ BK.out 4; have u5 := bc_ BK.out 5; have u6 := bc_ BK.out 6; have v0 := bc_ BQ.out 0; have v1 := bc_ BQ.out 1; have v2 := bc_ BQ.out 2; have v3 := bc_ BQ.out 3; have v4 := bc_ BQ.out 4; have z0 := bc_ BX.out 0; have z1 := bc_ BX.out 1; have z2 := bc_ BX.out 2; have z3 := bc_ BX.out 3; have z4 := bc_ BX.out 4; have z5 := bc_ BX.out 5) | (go_at_call 26; (with_reducible refine (C6.out _ (by repeat (with_reducible first | exact HB.out | apply p3_ | apply p1_ | apply p2_)) (by (with_reducible repeat (first | exact BK.out | refine k2_ ?_ _ | refine k3_ ?_ | refine k1_ ?_ _)))).mono ?_); rintro e w6 ⟨rfl, hb2⟩; replace BK := am_ (kb_ (show _ from (by (with_reducible repeat (first | exact BK.out | refine k2_ ?_ _ | refine k3_ ?_ | refine k1_ ?_ _)))) hb2); replace BQ := am_ (kb_ (show _ from (by (with_reducible repeat (first | exact BQ.out | refine k2_ ?_ _ | refine k3_ ?_ | refine k1_ ?_ _)))) hb2); replace BX := am_ (kb_ (show _ from (by (with_reducible repeat (first | exact BX.out | refine k2_ ?_ _ | refine k3_ ?_ | refine k1_ ?_ _)))) hb2); replace HB := am_ (bt_ (show Below w.heap.size w _ from (by repeat (with_reducible first | exact HB.out | apply p3_ | apply p1_ | apply p2_))) hb2); clear hb2; (try clear u0 u1 u2 u3 u4 u5 u6); (try clear v0 v1 v2 v3 v4); have u0 := bc_ BK.out 0; have u1 := bc_ BK.out 1; have u2 := bc_ BK.out 2; have u3 := bc_ BK.out 3; have u4 := bc_ BK.out 4; have u5 := bc_ BK.out 5; have u6 := bc_ BK.out 6; have v0 := bc_ BQ.out 0; have v1 := bc_ BQ.out 1; have v2 := bc_ BQ.out 2; have v3 := bc_ BQ.out 3; have v4 := bc_ BQ.out 4; (try clear z0 z1 z2 z3 z4 z5); have z0 := bc_ BX.out 0; have z1 := bc_ BX.out 1; have z2 := bc_ BX.out 2; have z3 := bc_ BX.out 3; have z4 := bc_ BX.out 4; have z5 := bc_ BX.out 5) | (go_at_call 25; (with_reducible refine (C7.out _ _ (by (with_reducible repeat (first | exact BQ.out | refine k2_ ?_ _ | refine k3_ ?_ | refine k1_ ?_ _))) (by (with_reducible repeat (first | exact BX.out | refine k2_ ?_ _ | refine k3_ ?_ | refine k1_ ?_ _)))).mono ?_); rintro e w7 ⟨rfl, hb2⟩; replace BK := am_ (kb_ (show _ from (by (with_reducible repeat (first | exact BK.out | refine k2_ ?_ _ | refine k3_ ?_ | refine k1_ ?_ _)))) hb2); replace BQ := am_ (kb_ (show _ from (by (with_reducible repeat (first | exact BQ.out | refine k2_ ?_ _ | refine k3_ ?_ | refine k1_ ?_ _)))) hb2); replace BX := am_ (kb_ (show _ from (by (with_reducible repeat (first | exact BX.out | refine k2_ ?_ _ | refine k3_ ?_ | refine k1_ ?_ _)))) hb2); replace HB := am_ (bt_ (show Below w.heap.size w _ from (by repeat (with_reducible first | exact HB.out | apply p3_ | apply p1_ | apply p2_))) hb2); clear hb2; (try clear u0 u1 u2 u3 u4 u5 u6); (try clear v0 v1 v2 v3 v4); have u0 := bc_ BK.out 0; have u1 := bc_ BK.out 1; have u2 := bc_ BK.out 2; have u3 := bc_ BK.out 3; have u4 := bc_ BK.out 4; have u5 := bc_ BK.out 5; have u6 := bc_ BK.out 6; have v0 := bc_ BQ.out 0; have v1 := bc_ BQ.out 1; have v2 := bc_ BQ.out 2; have v3 := bc_ BQ.out 3; have v4 := bc_ BQ.out 4; (try clear z0 z1 z2 z3 z4 z5); have z0 := bc_ BX.out 0; have z1 := bc_ BX.out 1; have z2 := bc_ BX.out 2; have z3 := bc_ BX.out 3; have z4 := bc_ BX.out 4; have z5 := bc_ BX.out 5)
     | ((with_reducible refine gate_builtin (b := .append) (xs := #[.const (.slice none 0 0), .tmp 49]) rfl ?_); at_builtin; refine Kd.R_append_rows k36 (w0 := w) w.heap.size rfl (.const (.slice none 0 0)) (.tmp 49) 27 36 (.agg #[.int .i64 0, .int .i64 0, .string ⟨#[]⟩, .int .i64 0, .string ⟨#[]⟩, .bool false]) 64 rfl Tryd.underlying27 claim_Claim.info rfl (by decide) (by omega) (.slice none 0 0) [] l1 _ _ _ (fun _ => True) (fun _ => False) rfl rfl ?aO ?aR (fun _ _ h => h) (fun _ h => h.elim) ?aF ?aB ?aS ?aL ?_; (case aR => exact c4_ HR1.out (by repeat (with_reducible first | exact HB.out | apply p3_ | apply p1_ | apply p2_))); (case aB => exact (by repeat (with_reducible first | exact HB.out | apply p3_ | apply p1_ | apply p2_))); (case aF => exact (fun _ _ => trivial)); (case aO => exact Kd.R_nil _ _ _ _ _); (case aS => exact (bz_ (by repeat (with_reducible first | exact HB.out | apply p3_ | apply p1_ | apply p2_)))); (case aL => simp; omega); intro v107 w9 ho hb hg hat; rw [List.nil_append] at ho; clear hg hat))
    ((try simp only [Exit.inBlock, Exit.then]); refine bodyPost_ret (results_tmp4 rfl _ _ _) rfl ?_)
    exact ⟨_, rfl, ho, hb⟩
   ·have e0b : (k == 0) = false := by simpa using e0
    clear hkis hq0
    go_enter Tryd.func9, Tryd.ntmps9
    go_wp2_with (first
     | (go_at_call 19; (try rw [hW2]); (with_reducible refine (C1.out _ (by repeat (with_reducible first | exact HB.out | apply p3_ | apply p1_ | apply p2_)) (by (with_reducible repeat (first | exact BK.out | refine k2_ ?_ _ | refine k3_ ?_ | refine k1_ ?_ _)))).mono ?_); rintro e w1 ⟨rfl, hb2⟩; replace BK := am_ (kb_ (show _ from (by (with_reducible repeat (first | exact BK.out | refine k2_ ?_ _ | refine k3_ ?_ | refine k1_ ?_ _)))) hb2); replace BQ := am_ (kb_ (show _ from (by (with_reducible repeat (first | exact BQ.out | refine k2_ ?_ _ | refine k3_ ?_ | refine k1_ ?_ _)))) hb2); replace HB := am_ (bt_ (show Below w.heap.size w _ from (by repeat (with_reducible first | exact HB.out | apply p3_ | apply p1_ | apply p2_))) hb2); clear hb2; (try clear u0 u1 u2 u3 u4 u5 u6); (try clear v0 v1 v2 v3 v4); have u0 := bc_ BK.out 0; have u1 := bc_ BK.out 1; have u2 := bc_ BK.out 2; have u3 := bc_ BK.out 3; have u4 := bc_ BK.out 4; have u5 := bc_ BK.out 5; have u6 := bc_ BK.out 6; have v0 := bc_ BQ.out 0; have v1 := bc_ BQ.out 1; have v2 := bc_ BQ.out 2; have v3 := bc_ BQ.out 3; have v4 := bc_ BQ.out 4) | (go_at_call 20; (with_reducible refine (C2.out _).mono ?_); rintro e w2 ⟨rfl, ⟨nd, rfl⟩⟩; replace BK := am_ (k2_ BK.out nd); replace BQ := am_ (k2_ BQ.out nd); replace HB := am_ (p1_ HB.out nd)) | (go_at_call 21; (with_reducible refine (C3.out _ (by (with_reducible repeat (first | exact BQ.out | refine k2_ ?_ _ | refine k3_ ?_ | refine k1_ ?_ _)))).mono ?_); rintro e w3 ⟨rfl, hb2⟩; replace BK := am_ (kb_ (show _ from (by (with_reducible repeat (first | exact BK.out | refine k2_ ?_ _ | refine k3_ ?_ | refine k1_ ?_ _)))) hb2); replace BQ := am_ (kb_ (show _ from (by (with_reducible repeat (first | exact BQ.out | refine k2_ ?_ _ | refine k3_ ?_ | refine k1_ ?_ _)))) hb2); replace HB := am_ (bt_ (show Below w.heap.size w _ from (by repeat (with_reducible first | exact HB.out | apply p3_ | apply p1_ | apply p2_))) hb2); clear hb2; (try clear u0 u1 u2 u3 u4 u5 u6); (try clear v0 v1 v2 v3 v4); have u0 := bc_ BK.out 0; have u1 := bc_ BK.out 1; have u2 := bc_ BK.out 2; have u3 := bc_ BK.out 3; have u4 := bc_ BK.out 4; have u5 := bc_ BK.out 5; have u6 := bc_ BK.out 6; have v0 := bc_ BQ.out 0; have v1 := bc_ BQ.out 1; have v2 := bc_ BQ.out 2; have v3 := bc_ BQ.out 3; have v4 := bc_ BQ.out 4) | (go_at_call 22; (with_reducible refine (C4.out _ (by (with_reducible repeat (first | exact BQ.out | refine k2_ ?_ _ | refine k3_ ?_ | refine k1_ ?_ _)))).mono ?_); rintro e w4 ⟨rfl, hb2⟩; replace BK := am_ (kb_ (show _ from (by (with_reducible repeat (first | exact BK.out | refine k2_ ?_ _ | refine k3_ ?_ | refine k1_ ?_ _)))) hb2); replace BQ := am_ (kb_ (show _ from (by (with_reducible repeat (first | exact BQ.out | refine k2_ ?_ _ | refine k3_ ?_ | refine k1_ ?_ _)))) hb2); replace HB := am_ (bt_ (show Below w.heap.size w _ from (by repeat (with_reducible first | exact HB.out | apply p3_ | apply p1_ | apply p2_))) hb2); clear hb2; (try clear u0 u1 u2 u3 u4 u5 u6); (try clear v0 v1 v2 v3 v4); have u0 := bc_ BK.out 0; have u1 := bc_ BK.out 1; have u2 := bc_ BK.out 2; have u3 := bc_ BK.out 3; have u4 := bc_ BK.out 4; have u5 := bc_ BK.out 5; have u6 := bc_ BK.out 6; have v0 := bc_ BQ.out 0; have v1 := bc_ BQ.out 1; have v2 := bc_ BQ.out 2; have v3 := bc_ BQ.out 3; have v4 := bc_ BQ.out 4) | (go_at_call 23; (with_reducible refine (C5.out _ (by repeat (with_reducible first | exact HB.out | apply p3_ | apply p1_ | apply p2_))).mono ?_); rintro e w5 ⟨rfl, hb2⟩; replace BK := am_ (kb_ (show _ from (by (with_reducible repeat (first | exact BK.out | refine k2_ ?_ _ | refine k3_ ?_ | refine k1_ ?_ _)))) hb2); replace BQ := am_ (kb_ (show _ from (by (with_reducible repeat (first | exact BQ.out | refine k2_ ?_ _ | refine k3_ ?_ | refine k1_ ?_ _)))) hb2); replace HB := am_ (bt_ (show Below w.heap.size w _ from (by repeat (with_reducible first | exact HB.out | apply p3_ | apply p1_ | apply p2_))) hb2); clear hb2; have BX := am_ (blk_new w5 (.cells #[.int .i64 x0, .int .i64 x1, .string x2, .int .i64 x3, .string x4, .bool x5] 36)); replace BK := am_ (k1_ BK.out (.cells #[.int .i64 x0, .int .i64 x1, .string x2, .int .i64 x3, .string x4, .bool x5] 36)); replace BQ := am_ (k1_ BQ.out (.cells #[.int .i64 x0, .int .i64 x1, .string x2, .int .i64 x3, .string x4, .bool x5] 36)); replace HB := am_ (p3_ HB.out (.cells #[.int .i64 x0, .int .i64 x1, .string x2, .int .i64 x3, .string x4, .bool x5] 36)); (try clear u0 u1 u2 u3 u4 u5 u6); (try clear v0 v1 v2 v3 v4); have u0 := bc_ BK.out 0; have u1 := bc_ BK.out 1; have u2 := bc_ BK.out 2; have u3 := bc_ BK.out 3; have u4 := bc_ BK.out 4; have u5 := bc_ BK.out 5; have u6 := bc_ BK.out 6; have v0 := bc_ BQ.out 0; have v1 := bc_ BQ.out 1; have v2 := bc_ BQ.out 2; have v3 := bc_ BQ.out 3; have v4 := bc_ BQ.out 4; have z0 := bc_ BX.out 0; have z1 := bc_ BX.out 1; have z2 := bc_ BX.out 2; have z3 := bc_ BX.out 3; have z4 := bc_ BX.out 4; have z5 := bc_ BX.out 5) | (go_at_call 26; (with_reducible refine (C6.out _ (by repeat (with_reducible first | exact HB.out | apply p3_ | apply p1_ | apply p2_)) (by (with_reducible repeat (first | exact BK.out | refine k2_ ?_ _ | refine k3_ ?_ | refine k1_ ?_ _)))).mono ?_); rintro e w6 ⟨rfl, hb2⟩; replace BK := am_ (kb_ (show _ from (by (with_reducible repeat (first | exact BK.out | refine k2_ ?_ _ | refine k3_ ?_ | refine k1_ ?_ _)))) hb2); replace BQ := am_ (kb_ (show _ from (by (with_reducible repeat (first | exact BQ.out | refine k2_ ?_ _ | refine k3_ ?_ | refine k1_ ?_ _)))) hb2); replace BX := am_ (kb_ (show _ from (by (with_reducible repeat (first | exact BX.out | refine k2_ ?_ _ | refine k3_ ?_ | refine k1_ ?_ _)))) hb2); replace HB := am_ (bt_ (show Below w.heap.size w _ from (by repeat (with_reducible first | exact HB.out | apply p3_ | apply p1_ | apply p2_))) hb2); clear hb2; (try clear u0 u1 u2 u3 u4 u5 u6); (try clear v0 v1 v2 v3 v4); have u0 := bc_ BK.out 0; have u1 := bc_ BK.out 1; have u2 := bc_ BK.out 2; have u3 := bc_ BK.out 3; have u4 := bc_ BK.out 4; have u5 := bc_ BK.out 5; have u6 := bc_ BK.out 6; have v0 := bc_ BQ.out 0; have v1 := bc_ BQ.out 1; have v2 := bc_ BQ.out 2; have v3 := bc_ BQ.out 3; have v4 := bc_ BQ.out 4; (try clear z0 z1 z2 z3 z4 z5); have z0 := bc_ BX.out 0; have z1 := bc_ BX.out 1; have z2 := bc_ BX.out 2; have z3 := bc_ BX.out 3; have z4 := bc_ BX.out 4; have z5 := bc_ BX.out 5) | (go_at_call 25; (with_reducible refine (C7.out _ _ (by (with_reducible repeat (first | exact BQ.out | refine k2_ ?_ _ | refine k3_ ?_ | refine k1_ ?_ _))) (by (with_reducible repeat (first | exact BX.out | refine k2_ ?_ _ | refine k3_ ?_ | refine k1_ ?_ _)))).mono ?_); rintro e w7 ⟨rfl, hb2⟩; replace BK := am_ (kb_ (show _ from (by (with_reducible repeat (first | exact BK.out | refine k2_ ?_ _ | refine k3_ ?_ | refine k1_ ?_ _)))) hb2); replace BQ := am_ (kb_ (show _ from (by (with_reducible repeat (first | exact BQ.out | refine k2_ ?_ _ | refine k3_ ?_ | refine k1_ ?_ _)))) hb2); replace BX := am_ (kb_ (show _ from (by (with_reducible repeat (first | exact BX.out | refine k2_ ?_ _ | refine k3_ ?_ | refine k1_ ?_ _)))) hb2); replace HB := am_ (bt_ (show Below w.heap.size w _ from (by repeat (with_reducible first | exact HB.out | apply p3_ | apply p1_ | apply p2_))) hb2); clear hb2; (try clear u0 u1 u2 u3 u4 u5 u6); (try clear v0 v1 v2 v3 v4); have u0 := bc_ BK.out 0; have u1 := bc_ BK.out 1; have u2 := bc_ BK.out 2; have u3 := bc_ BK.out 3; have u4 := bc_ BK.out 4; have u5 := bc_ BK.out 5; have u6 := bc_ BK.out 6; have v0 := bc_ BQ.out 0; have v1 := bc_ BQ.out 1; have v2 := bc_ BQ.out 2; have v3 := bc_ BQ.out 3; have v4 := bc_ BQ.out 4; (try clear z0 z1 z2 z3 z4 z5); have z0 := bc_ BX.out 0; have z1 := bc_ BX.out 1; have z2 := bc_ BX.out 2; have z3 := bc_ BX.out 3; have z4 := bc_ BX.out 4; have z5 := bc_ BX.out 5)
     | ((with_reducible refine gate_builtin (b := .append) (xs := #[.const (.slice none 0 0), .tmp 49]) rfl ?_); at_builtin; refine Kd.R_append_rows k36 (w0 := w) w.heap.size rfl (.const (.slice none 0 0)) (.tmp 49) 27 36 (.agg #[.int .i64 0, .int .i64 0, .string ⟨#[]⟩, .int .i64 0, .string ⟨#[]⟩, .bool false]) 64 rfl Tryd.underlying27 claim_Claim.info rfl (by decide) (by omega) (.slice none 0 0) [] l1 _ _ _ (fun _ => True) (fun _ => False) rfl rfl ?aO ?aR (fun _ _ h => h) (fun _ h => h.elim) ?aF ?aB ?aS ?aL ?_; (case aR => exact c4_ HR1.out (by repeat (with_reducible first | exact HB.out | apply p3_ | apply p1_ | apply p2_))); (case aB => exact (by repeat (with_reducible first | exact HB.out | apply p3_ | apply p1_ | apply p2_))); (case aF => exact (fun _ _ => trivial)); (case aO => exact Kd.R_nil _ _ _ _ _); (case aS => exact (bz_ (by repeat (with_reducible first | exact HB.out | apply p3_ | apply p1_ | apply p2_)))); (case aL => simp; omega); intro v107 w9 ho hb hg hat; rw [List.nil_append] at ho; clear hg hat))
    ((try simp only [Exit.inBlock, Exit.then]); refine bodyPost_ret (results_tmp4 rfl _ _ _) rfl ?_)
    exact ⟨_, rfl, ho, hb⟩
 subst k1
 rw [if_pos rfl, hx] at h
 obtain ⟨rfl, h5⟩ := Prod.mk.inj h
 obtain ⟨rfl, h6⟩ := Prod.mk.inj h5
 obtain ⟨rfl, rfl⟩ := Prod.mk.inj h6
 clear h6 h5 h hkis
 have hcl := client_parts hm.2.2.2.2.2
 obtain ⟨xx, hxx⟩ := got_found hcl.1 (by rw [hx]; exact hown rfl)
 rcases htold with ⟨e, _⟩ | ⟨_, _, _, _, ⟨_, x', e1, hx', hk', ea, hbok, ht'⟩ | ⟨e, _⟩⟩
 ·exact absurd e (by decide)
 rotate_left
 ·exact absurd rfl e
 have ex' : x' = ⟨x0, x1, x2, x3, x4, x5⟩ := by
  have e2 : gotL (findL l1 hh) = x' := by rw [hx']; rfl
  rw [← e2, hx]
 subst ex'
 have hD : tableB (dropL (fun _ => true) a3 a2 hh l1) = true := table_drop hT
 have hrow : (putL (dropL (fun _ => true) a3 a2 hh l1) (boundL (freeB a0_0 a0_1 l0_2 l0_3 a0_4 a0_5 l0_6 l1 a2 a3) hh (a2 + a0_4) a3 (keptN q4 ⟨x0, x1, x2, x3, x4, x5⟩ a3))).length = l1.length := (claim_row (p := fun _ => true) (c := a3) (now := a2) (b := boundL (freeB a0_0 a0_1 l0_2 l0_3 a0_4 a0_5 l0_6 l1 a2 a3) hh (a2 + a0_4) a3 (keptN q4 ⟨x0, x1, x2, x3, x4, x5⟩ a3)) hT hx').2
 have hput := with_put (dropL (fun _ => true) a3 a2 hh l1) (boundL (freeB a0_0 a0_1 l0_2 l0_3 a0_4 a0_5 l0_6 l1 a2 a3) hh (a2 + a0_4) a3 (keptN q4 ⟨x0, x1, x2, x3, x4, x5⟩ a3)) hD hbok
 have hDl : (dropL (fun _ => true) a3 a2 hh l1).length = l1.length := by unfold dropL; rw [List.length_map]
 have hl8 := (table_sorted hT).2.2
 have ha4 : 1 ≤ a0_4 ∧ a0_4 ≤ 1048576 := by
  have h1 := hm.2.2.1
  unfold confB at h1
  simp only [Bool.and_eq_true, decide_eq_true_eq] at h1
  exact h1.2.1
 have CD := am_ (fun W (hb : Below w.heap.size w W) => offer_Drop.calls (fun _ => true) 24 #[] A1 c1 l1 a2 a3 hh W (c4_ hr1 hb) hc1 ⟨by omega, hs.2.2⟩ (fun args w => enters_ Tryd.func24 (by kernel_rfl) rfl args w) (fun W gl x hx => claim_Claim.every gl W))
 have C8 := am_ (fun W (gl : Nat) (hb : Below w.heap.size w W) (bk : W.heap[w.heap.size]? = some (.cells #[.int .i64 a0_0, .int .i64 a0_1, .slice A0_2 l0_2.length c0_2, .slice A0_3 l0_3.length c0_3, .int .i64 a0_4, .string a0_5, .slice A0_6 l0_6.length c0_6] 26)) (bq : W.heap[w.heap.size + 1]? = some (.cells #[.bool q0, .int .i64 q1, .int .i64 q2, .int .i64 q3, .string q4] 29)) (bx : W.heap[gl]? = some (.cells #[.int .i64 x0, .int .i64 x1, .string x2, .int .i64 x3, .string x4, .bool x5] 36)) => claim_bound.calls w.heap.size (w.heap.size + 1) gl a0_0 a0_1 A0_2 c0_2 l0_2 A0_3 c0_3 l0_3 a0_4 a0_5 A0_6 c0_6 l0_6 A1 c1 l1 a2 a3 q0 q1 q2 q3 q4 x0 x1 x2 x3 x4 x5 hh W bk bq bx (c4_ hr0_2 hb) hc0_2 (c4_ hr0_3 hb) hc0_3 (c4_ hr0_6 hb) hc0_6 (c4_ hr1 hb) hc1 ⟨⟨hs.1, hKs⟩, hs.2⟩ hn ha4)
 have CT := am_ (fun W A c (h1 : Kd.C k36 W A (dropL (fun _ => true) a3 a2 hh l1).length (dropL (fun _ => true) a3 a2 hh l1)) (h2 : (dropL (fun _ => true) a3 a2 hh l1).length ≤ c) => table_With.calls A c (dropL (fun _ => true) a3 a2 hh l1) hh 2 a3 (a2 + a0_4) (keptN q4 ⟨x0, x1, x2, x3, x4, x5⟩ a3) (freeB a0_0 a0_1 l0_2 l0_3 a0_4 a0_5 l0_6 l1 a2 a3 (keptN q4 ⟨x0, x1, x2, x3, x4, x5⟩ a3) && decide ((keptN q4 ⟨x0, x1, x2, x3, x4, x5⟩ a3).toList ≠ [])) (putL (dropL (fun _ => true) a3 a2 hh l1) (boundL (freeB a0_0 a0_1 l0_2 l0_3 a0_4 a0_5 l0_6 l1 a2 a3) hh (a2 + a0_4) a3 (keptN q4 ⟨x0, x1, x2, x3, x4, x5⟩ a3))) 0 W h1 h2 (by
  have hfit1 : tabFit (dropL (fun _ => true) a3 a2 hh l1) := by have := table_fitr hD; exact ⟨this.1, fun x hx => by have := this.2 x hx; omega⟩
  have hfit2 : tabFit (putL (dropL (fun _ => true) a3 a2 hh l1) (boundL (freeB a0_0 a0_1 l0_2 l0_3 a0_4 a0_5 l0_6 l1 a2 a3) hh (a2 + a0_4) a3 (keptN q4 ⟨x0, x1, x2, x3, x4, x5⟩ a3))) := by
   have hmem := putfit (dropL (fun _ => true) a3 a2 hh l1) (boundL (freeB a0_0 a0_1 l0_2 l0_3 a0_4 a0_5 l0_6 l1 a2 a3) hh (a2 + a0_4) a3 (keptN q4 ⟨x0, x1, x2, x3, x4, x5⟩ a3)) 140737488351232 hfit1.2 hKs
   exact ⟨by have := hmem.1; omega, hmem.2⟩
  have eb : (⟨hh, 2, a3, a2 + a0_4, keptN q4 ⟨x0, x1, x2, x3, x4, x5⟩ a3, freeB a0_0 a0_1 l0_2 l0_3 a0_4 a0_5 l0_6 l1 a2 a3 (keptN q4 ⟨x0, x1, x2, x3, x4, x5⟩ a3) && decide ((keptN q4 ⟨x0, x1, x2, x3, x4, x5⟩ a3).toList ≠ [])⟩ : S36) = boundL (freeB a0_0 a0_1 l0_2 l0_3 a0_4 a0_5 l0_6 l1 a2 a3) hh (a2 + a0_4) a3 (keptN q4 ⟨x0, x1, x2, x3, x4, x5⟩ a3) := rfl
  unfold table_With.f table_May_c.f
  rw [if_pos (by omega), if_pos hfit1, hD, Option.bind_some, if_pos rfl, eb, hput, if_pos hfit2, Option.bind_some, table_put hD hbok, hrow, decide_eq_true hl8, if_pos rfl]))
 have hix2 : isx = true := by rw [← hix, hx']; rfl
 generalize hKK : keptN q4 ⟨x0, x1, x2, x3, x4, x5⟩ a3 = KK at C8 CT ⊢
 generalize putL (dropL (fun _ => true) a3 a2 hh l1) (boundL (freeB a0_0 a0_1 l0_2 l0_3 a0_4 a0_5 l0_6 l1 a2 a3) hh (a2 + a0_4) a3 KK) = OUT at CT ⊢
 generalize dropL (fun _ => true) a3 a2 hh l1 = D at CD CT
 generalize (freeB a0_0 a0_1 l0_2 l0_3 a0_4 a0_5 l0_6 l1 a2 a3 KK && decide (KK.toList ≠ [])) = WON at C8 CT
 clear hKK hix hix2 hrow hput hDl hD hbok ht' hk' hx' e1 hxx hcl h1 h2 h3 hs hq hr0_2 hr0_3 hr0_6 hc0_2 hc0_3 hc0_6 hr1 hc1 hm hT hhh hx hsz hlt hk hown hKs hn
 go_enter Tryd.func9, Tryd.ntmps9
 go_wp2_with (first
  | (go_at_call 19; (try rw [hW2]); (with_reducible refine (C1.out _ (by repeat (with_reducible first | exact HB.out | apply p3_ | apply p1_ | apply p2_)) (by (with_reducible repeat (first | exact BK.out | refine k2_ ?_ _ | refine k3_ ?_ | refine k1_ ?_ _)))).mono ?_); rintro e w1 ⟨rfl, hb2⟩; replace BK := am_ (kb_ (show _ from (by (with_reducible repeat (first | exact BK.out | refine k2_ ?_ _ | refine k3_ ?_ | refine k1_ ?_ _)))) hb2); replace BQ := am_ (kb_ (show _ from (by (with_reducible repeat (first | exact BQ.out | refine k2_ ?_ _ | refine k3_ ?_ | refine k1_ ?_ _)))) hb2); replace HB := am_ (bt_ (show Below w.heap.size w _ from (by repeat (with_reducible first | exact HB.out | apply p3_ | apply p1_ | apply p2_))) hb2); clear hb2; (try clear u0 u1 u2 u3 u4 u5 u6); (try clear v0 v1 v2 v3 v4); have u0 := bc_ BK.out 0; have u1 := bc_ BK.out 1; have u2 := bc_ BK.out 2; have u3 := bc_ BK.out 3; have u4 := bc_ BK.out 4; have u5 := bc_ BK.out 5; have u6 := bc_ BK.out 6; have v0 := bc_ BQ.out 0; have v1 := bc_ BQ.out 1; have v2 := bc_ BQ.out 2; have v3 := bc_ BQ.out 3; have v4 := bc_ BQ.out 4) | (go_at_call 20; (with_reducible refine (C2.out _).mono ?_); rintro e w2 ⟨rfl, ⟨nd, rfl⟩⟩; replace BK := am_ (k2_ BK.out nd); replace BQ := am_ (k2_ BQ.out nd); replace HB := am_ (p1_ HB.out nd)) | (go_at_call 21; (with_reducible refine (C3.out _ (by (with_reducible repeat (first | exact BQ.out | refine k2_ ?_ _ | refine k3_ ?_ | refine k1_ ?_ _)))).mono ?_); rintro e w3 ⟨rfl, hb2⟩; replace BK := am_ (kb_ (show _ from (by (with_reducible repeat (first | exact BK.out | refine k2_ ?_ _ | refine k3_ ?_ | refine k1_ ?_ _)))) hb2); replace BQ := am_ (kb_ (show _ from (by (with_reducible repeat (first | exact BQ.out | refine k2_ ?_ _ | refine k3_ ?_ | refine k1_ ?_ _)))) hb2); replace HB := am_ (bt_ (show Below w.heap.size w _ from (by repeat (with_reducible first | exact HB.out | apply p3_ | apply p1_ | apply p2_))) hb2); clear hb2; (try clear u0 u1 u2 u3 u4 u5 u6); (try clear v0 v1 v2 v3 v4); have u0 := bc_ BK.out 0; have u1 := bc_ BK.out 1; have u2 := bc_ BK.out 2; have u3 := bc_ BK.out 3; have u4 := bc_ BK.out 4; have u5 := bc_ BK.out 5; have u6 := bc_ BK.out 6; have v0 := bc_ BQ.out 0; have v1 := bc_ BQ.out 1; have v2 := bc_ BQ.out 2; have v3 := bc_ BQ.out 3; have v4 := bc_ BQ.out 4) | (go_at_call 22; (with_reducible refine (C4.out _ (by (with_reducible repeat (first | exact BQ.out | refine k2_ ?_ _ | refine k3_ ?_ | refine k1_ ?_ _)))).mono ?_); rintro e w4 ⟨rfl, hb2⟩; replace BK := am_ (kb_ (show _ from (by (with_reducible repeat (first | exact BK.out | refine k2_ ?_ _ | refine k3_ ?_ | refine k1_ ?_ _)))) hb2); replace BQ := am_ (kb_ (show _ from (by (with_reducible repeat (first | exact BQ.out | refine k2_ ?_ _ | refine k3_ ?_ | refine k1_ ?_ _)))) hb2); replace HB := am_ (bt_ (show Below w.heap.size w _ from (by repeat (with_reducible first | exact HB.out | apply p3_ | apply p1_ | apply p2_))) hb2); clear hb2; (try clear u0 u1 u2 u3 u4 u5 u6); (try clear v0 v1 v2 v3 v4); have u0 := bc_ BK.out 0; have u1 := bc_ BK.out 1; have u2 := bc_ BK.out 2; have u3 := bc_ BK.out 3; have u4 := bc_ BK.out 4; have u5 := bc_ BK.out 5; have u6 := bc_ BK.out 6; have v0 := bc_ BQ.out 0; have v1 := bc_ BQ.out 1; have v2 := bc_ BQ.out 2; have v3 := bc_ BQ.out 3; have v4 := bc_ BQ.out 4) | (go_at_call 23; (with_reducible refine (C5.out _ (by repeat (with_reducible first | exact HB.out | apply p3_ | apply p1_ | apply p2_))).mono ?_); rintro e w5 ⟨rfl, hb2⟩; replace BK := am_ (kb_ (show _ from (by (with_reducible repeat (first | exact BK.out | refine k2_ ?_ _ | refine k3_ ?_ | refine k1_ ?_ _)))) hb2); replace BQ := am_ (kb_ (show _ from (by (with_reducible repeat (first | exact BQ.out | refine k2_ ?_ _ | refine k3_ ?_ | refine k1_ ?_ _)))) hb2); replace HB := am_ (bt_ (show Below w.heap.size w _ from (by repeat (with_reducible first | exact HB.out | apply p3_ | apply p1_ | apply p2_))) hb2); clear hb2; have BX := am_ (blk_new w5 (.cells #[.int .i64 x0, .int .i64 x1, .string x2, .int .i64 x3, .string x4, .bool x5] 36)); replace BK := am_ (k1_ BK.out (.cells #[.int .i64 x0, .int .i64 x1, .string x2, .int .i64 x3, .string x4, .bool x5] 36)); replace BQ := am_ (k1_ BQ.out (.cells #[.int .i64 x0, .int .i64 x1, .string x2, .int .i64 x3, .string x4, .bool x5] 36)); replace HB := am_ (p3_ HB.out (.cells #[.int .i64 x0, .int .i64 x1, .string x2, .int .i64 x3, .string x4, .bool x5] 36)); (try clear u0 u1 u2 u3 u4 u5 u6); (try clear v0 v1 v2 v3 v4); have u0 := bc_ BK.out 0; have u1 := bc_ BK.out 1; have u2 := bc_ BK.out 2; have u3 := bc_ BK.out 3; have u4 := bc_ BK.out 4; have u5 := bc_ BK.out 5; have u6 := bc_ BK.out 6; have v0 := bc_ BQ.out 0; have v1 := bc_ BQ.out 1; have v2 := bc_ BQ.out 2; have v3 := bc_ BQ.out 3; have v4 := bc_ BQ.out 4; have z0 := bc_ BX.out 0; have z1 := bc_ BX.out 1; have z2 := bc_ BX.out 2; have z3 := bc_ BX.out 3; have z4 := bc_ BX.out 4; have z5 := bc_ BX.out 5) | (go_at_call 26; (with_reducible refine (C6.out _ (by repeat (with_reducible first | exact HB.out | apply p3_ | apply p1_ | apply p2_)) (by (with_reducible repeat (first | exact BK.out | refine k2_ ?_ _ | refine k3_ ?_ | refine k1_ ?_ _)))).mono ?_); rintro e w6 ⟨rfl, hb2⟩; replace BK := am_ (kb_ (show _ from (by (with_reducible repeat (first | exact BK.out | refine k2_ ?_ _ | refine k3_ ?_ | refine k1_ ?_ _)))) hb2); replace BQ := am_ (kb_ (show _ from (by (with_reducible repeat (first | exact BQ.out | refine k2_ ?_ _ | refine k3_ ?_ | refine k1_ ?_ _)))) hb2); replace BX := am_ (kb_ (show _ from (by (with_reducible repeat (first | exact BX.out | refine k2_ ?_ _ | refine k3_ ?_ | refine k1_ ?_ _)))) hb2); replace HB := am_ (bt_ (show Below w.heap.size w _ from (by repeat (with_reducible first | exact HB.out | apply p3_ | apply p1_ | apply p2_))) hb2); clear hb2; (try clear u0 u1 u2 u3 u4 u5 u6); (try clear v0 v1 v2 v3 v4); have u0 := bc_ BK.out 0; have u1 := bc_ BK.out 1; have u2 := bc_ BK.out 2; have u3 := bc_ BK.out 3; have u4 := bc_ BK.out 4; have u5 := bc_ BK.out 5; have u6 := bc_ BK.out 6; have v0 := bc_ BQ.out 0; have v1 := bc_ BQ.out 1; have v2 := bc_ BQ.out 2; have v3 := bc_ BQ.out 3; have v4 := bc_ BQ.out 4; (try clear z0 z1 z2 z3 z4 z5); have z0 := bc_ BX.out 0; have z1 := bc_ BX.out 1; have z2 := bc_ BX.out 2; have z3 := bc_ BX.out 3; have z4 := bc_ BX.out 4; have z5 := bc_ BX.out 5) | (go_at_call 25; (with_reducible refine (C7.out _ _ (by (with_reducible repeat (first | exact BQ.out | refine k2_ ?_ _ | refine k3_ ?_ | refine k1_ ?_ _))) (by (with_reducible repeat (first | exact BX.out | refine k2_ ?_ _ | refine k3_ ?_ | refine k1_ ?_ _)))).mono ?_); rintro e w7 ⟨rfl, hb2⟩; replace BK := am_ (kb_ (show _ from (by (with_reducible repeat (first | exact BK.out | refine k2_ ?_ _ | refine k3_ ?_ | refine k1_ ?_ _)))) hb2); replace BQ := am_ (kb_ (show _ from (by (with_reducible repeat (first | exact BQ.out | refine k2_ ?_ _ | refine k3_ ?_ | refine k1_ ?_ _)))) hb2); replace BX := am_ (kb_ (show _ from (by (with_reducible repeat (first | exact BX.out | refine k2_ ?_ _ | refine k3_ ?_ | refine k1_ ?_ _)))) hb2); replace HB := am_ (bt_ (show Below w.heap.size w _ from (by repeat (with_reducible first | exact HB.out | apply p3_ | apply p1_ | apply p2_))) hb2); clear hb2; (try clear u0 u1 u2 u3 u4 u5 u6); (try clear v0 v1 v2 v3 v4); have u0 := bc_ BK.out 0; have u1 := bc_ BK.out 1; have u2 := bc_ BK.out 2; have u3 := bc_ BK.out 3; have u4 := bc_ BK.out 4; have u5 := bc_ BK.out 5; have u6 := bc_ BK.out 6; have v0 := bc_ BQ.out 0; have v1 := bc_ BQ.out 1; have v2 := bc_ BQ.out 2; have v3 := bc_ BQ.out 3; have v4 := bc_ BQ.out 4; (try clear z0 z1 z2 z3 z4 z5); have z0 := bc_ BX.out 0; have z1 := bc_ BX.out 1; have z2 := bc_ BX.out 2; have z3 := bc_ BX.out 3; have z4 := bc_ BX.out 4; have z5 := bc_ BX.out 5)
  | (go_at_call 28; (with_reducible refine (CD.out _ (by repeat (with_reducible first | exact HB.out | apply p3_ | apply p1_ | apply p2_))).mono ?_); rintro e w8 ⟨v, rfl, hv, hb2⟩; obtain ⟨AD, cd, rfl, hcd, hD⟩ := Kd.R_reads hv; have HV := am_ (Kd.R_lower hv (show w.heap.size ≤ _ from (show Below w.heap.size w _ from (by repeat (with_reducible first | exact HB.out | apply p3_ | apply p1_ | apply p2_))).size)); have HD := am_ hD; have HCD := am_ hcd; replace BK := am_ (kb_ (show _ from (by (with_reducible repeat (first | exact BK.out | refine k2_ ?_ _ | refine k3_ ?_ | refine k1_ ?_ _)))) hb2); replace BQ := am_ (kb_ (show _ from (by (with_reducible repeat (first | exact BQ.out | refine k2_ ?_ _ | refine k3_ ?_ | refine k1_ ?_ _)))) hb2); replace BX := am_ (kb_ (show _ from (by (with_reducible repeat (first | exact BX.out | refine k2_ ?_ _ | refine k3_ ?_ | refine k1_ ?_ _)))) hb2); replace HB := am_ (bt_ (show Below w.heap.size w _ from (by repeat (with_reducible first | exact HB.out | apply p3_ | apply p1_ | apply p2_))) hb2); clear hb2 hv hD hcd)
  | (go_at_call 29; (with_reducible refine (C8.out _ _ (by repeat (with_reducible first | exact HB.out | apply p3_ | apply p1_ | apply p2_)) (by (with_reducible repeat (first | exact BK.out | refine k2_ ?_ _ | refine k3_ ?_ | refine k1_ ?_ _))) (by (with_reducible repeat (first | exact BQ.out | refine k2_ ?_ _ | refine k3_ ?_ | refine k1_ ?_ _))) (by (with_reducible repeat (first | exact BX.out | refine k2_ ?_ _ | refine k3_ ?_ | refine k1_ ?_ _)))).mono ?_); rintro e w9 ⟨rfl, hb2⟩; replace HD := am_ (c4_ HD.out hb2); replace BK := am_ (kb_ (show _ from (by (with_reducible repeat (first | exact BK.out | refine k2_ ?_ _ | refine k3_ ?_ | refine k1_ ?_ _)))) hb2); replace BQ := am_ (kb_ (show _ from (by (with_reducible repeat (first | exact BQ.out | refine k2_ ?_ _ | refine k3_ ?_ | refine k1_ ?_ _)))) hb2); replace BX := am_ (kb_ (show _ from (by (with_reducible repeat (first | exact BX.out | refine k2_ ?_ _ | refine k3_ ?_ | refine k1_ ?_ _)))) hb2); replace HB := am_ (bt_ (show Below w.heap.size w _ from (by repeat (with_reducible first | exact HB.out | apply p3_ | apply p1_ | apply p2_))) hb2); clear hb2)
  | (go_at_call 27; (with_reducible refine (CT.out _ _ _ HD.out HCD.out).mono ?_); rintro e w10 ⟨v7, rfl, hv7, hb2⟩; have HV7 := am_ (Kd.R_lower hv7 (show w.heap.size ≤ _ from HB.out.size)); replace HB := am_ (bt_ HB.out hb2); clear hb2 hv7))
 ((try simp only [Exit.inBlock, Exit.then]); refine bodyPost_ret (results_tmp4 rfl _ _ _) rfl ?_)
 exact ⟨_, rfl, HV7.out, HB.out⟩

/-! ### pinfoldlaw0_Num: function 10 -/
def pinfoldlaw0_Num.f (a0 : Int) : Option (Int) := some a0
set_option maxHeartbeats 8000000 in
set_option maxRecDepth 100000 in
theorem pinfoldlaw0_Num.calls (a0 : Int) (r : Int) (w : World) (h : pinfoldlaw0_Num.f a0 = some r) :
  Calls Tryd.prog 10 #[.int .i64 a0] w fun e w' => e = .returned (.int .i64 r) ∧ Drawn0 w w' := by
 have H : (some a0) = some r := h
 clear h
 obtain rfl := e5_ H
 go_enter Tryd.func10, Tryd.ntmps10
 go_wp2
 go_ret
 exact ⟨by first | rfl | (simp; done) | (simp [*]; done), by repeat (first | exact Drawn0.refl _ | apply Drawn0.step)⟩

/-! ### pinfoldlaw17_given: function 16 -/
def pinfoldlaw17_given.f  : Option (Int × Int × List Int × (List (S72)) × Int × ByteArray × (List (S74))) := some (10, 13, (([12] : List Int)), (([(⟨(⟨#[118, 105, 112]⟩ : ByteArray), 13⟩ : S72)] : List (S72))), 100, (⟨#[108, 97, 110]⟩ : ByteArray), (([(⟨(⟨#[119, 119, 119, 46, 108, 97, 110]⟩ : ByteArray), 1, 5, 7, (⟨#[]⟩ : ByteArray), (⟨#[]⟩ : ByteArray), 0⟩ : S74)] : List (S74))))
set_option maxHeartbeats 8000000 in
set_option maxRecDepth 100000 in
theorem pinfoldlaw17_given.calls  (r1 : Int) (r2 : Int) (r3 : List Int) (r4 : List (S72)) (r5 : Int) (r6 : ByteArray) (r7 : List (S74)) (w : World) (h : pinfoldlaw17_given.f  = some (r1, r2, r3, r4, r5, r6, r7)) :
  Calls Tryd.prog 16 #[] w fun e w' => ∃ v2_ v3_ v6_ : Value, e = .returned (.agg #[.int .i64 r1, .int .i64 r2, v2_, v3_, .int .i64 r5, .string r6, v6_]) ∧ Kd.R (Kd.int .i64) 3 w' w.heap.size (fun _ => True) v2_ r3 ∧ Kd.R k72 72 w' w.heap.size (fun _ => True) v3_ r4 ∧ Kd.R k74 74 w' w.heap.size (fun _ => True) v6_ r7 ∧ Below w.heap.size w w' := by
 have hu26 := Tryd.underlying26
 have hu72 := Tryd.underlying72
 have hu74 := Tryd.underlying74
 have HB := am_ (Below.refl w.heap.size w)
 have H : (some (10, 13, (([12] : List Int)), (([(⟨(⟨#[118, 105, 112]⟩ : ByteArray), 13⟩ : S72)] : List (S72))), 100, (⟨#[108, 97, 110]⟩ : ByteArray), (([(⟨(⟨#[119, 119, 119, 46, 108, 97, 110]⟩ : ByteArray), 1, 5, 7, (⟨#[]⟩ : ByteArray), (⟨#[]⟩ : ByteArray), 0⟩ : S74)] : List (S74))))) = some (r1, r2, r3, r4, r5, r6, r7) := h
 clear h
 obtain ⟨y129, hy129⟩ : ∃ y_ : List Int, y_ = (([12] : List Int)) := ⟨_, rfl⟩
 replace H : (some (10, 13, y129, (([(⟨(⟨#[118, 105, 112]⟩ : ByteArray), 13⟩ : S72)] : List (S72))), 100, (⟨#[108, 97, 110]⟩ : ByteArray), (([(⟨(⟨#[119, 119, 119, 46, 108, 97, 110]⟩ : ByteArray), 1, 5, 7, (⟨#[]⟩ : ByteArray), (⟨#[]⟩ : ByteArray), 0⟩ : S74)] : List (S74))))) = some (r1, r2, r3, r4, r5, r6, r7) := by first | (rw [hy129]; with_reducible exact H) | (have H2_ := (Option.bind_some _ _).symm.trans H; rw [hy129]; with_reducible exact H2_) | (have H2_ := (Option.bind_some _ _).symm.trans H; with_reducible exact H2_) | with_reducible exact H | (rw [hy129]; exact H) | exact H
 have Ny129 := am_ hy129
 clear hy129
 obtain ⟨y132, hy132⟩ : ∃ y_ : List (S72), y_ = (([(⟨(⟨#[118, 105, 112]⟩ : ByteArray), 13⟩ : S72)] : List (S72))) := ⟨_, rfl⟩
 replace H : (some (10, 13, y129, y132, 100, (⟨#[108, 97, 110]⟩ : ByteArray), (([(⟨(⟨#[119, 119, 119, 46, 108, 97, 110]⟩ : ByteArray), 1, 5, 7, (⟨#[]⟩ : ByteArray), (⟨#[]⟩ : ByteArray), 0⟩ : S74)] : List (S74))))) = some (r1, r2, r3, r4, r5, r6, r7) := by first | (rw [hy132]; with_reducible exact H) | (have H2_ := (Option.bind_some _ _).symm.trans H; rw [hy132]; with_reducible exact H2_) | (have H2_ := (Option.bind_some _ _).symm.trans H; with_reducible exact H2_) | with_reducible exact H | (rw [hy132]; exact H) | exact H
 have Ny132 := am_ hy132
 clear hy132
 obtain ⟨y135, hy135⟩ : ∃ y_ : List (S74), y_ = (([(⟨(⟨#[119, 119, 119, 46, 108, 97, 110]⟩ : ByteArray), 1, 5, 7, (⟨#[]⟩ : ByteArray), (⟨#[]⟩ : ByteArray), 0⟩ : S74)] : List (S74))) := ⟨_, rfl⟩
 replace H : (some (10, 13, y129, y132, 100, (⟨#[108, 97, 110]⟩ : ByteArray), y135)) = some (r1, r2, r3, r4, r5, r6, r7) := by first | (rw [hy135]; with_reducible exact H) | (have H2_ := (Option.bind_some _ _).symm.trans H; rw [hy135]; with_reducible exact H2_) | (have H2_ := (Option.bind_some _ _).symm.trans H; with_reducible exact H2_) | with_reducible exact H | (rw [hy135]; exact H) | exact H
 have Ny135 := am_ hy135
 clear hy135
 simp only [Option.some.injEq, Prod.mk.injEq] at H
 obtain ⟨rfl, rfl, rfl, rfl, rfl, rfl, rfl⟩ := H
 go_enter Tryd.func16, Tryd.ntmps16
 go_wp2_with (first | ((with_reducible refine gate_dst (N := 0) rfl ?_); refine box_event ?hg (N := 0) ?hd (cs := #[.int .i64 0, .int .i64 0, .slice none 0 0, .slice none 0 0, .int .i64 0, .string (⟨#[]⟩ : ByteArray), .slice none 0 0]) (t := 26) ?hr ?_; (case hd => rfl); (case hg => rfl); (case hr => first | (go_simp; done) | (go_simp; rfl)); intro gb128 hg w1 hbox hb; have n0_ := am_ (bt_ (by repeat (with_reducible first | exact HB.out | apply p3_ | apply p1_ | apply p2_)) hb); have n1_ := am_ (hbox); have n2_ := am_ ((by rw [hg]; exact (bz_ (by repeat (with_reducible first | exact HB.out | apply p3_ | apply p1_ | apply p2_))) : w.heap.size ≤ gb128)); have n3_ := am_ ((by rw [hg]; exact (bz_ (by repeat (with_reducible first | exact HB.out | apply p3_ | apply p1_ | apply p2_))) : w.heap.size ≤ gb128)); clear HB; have HB := n0_; have BK128 := n1_; have GW128 := n2_; have GE128 := n3_; clear n0_ n1_ n2_ n3_; clear hb hbox hg) | ((with_reducible refine gate_dst (N := 1) rfl ?_); refine Kd.R_lit (Kd.int .i64) _ 3 ?hg (N := 1) ?hd (xs := ([12] : List Int)) (inner := [.int .i64 12]) (ok := fun _ => True) (okp := fun _ => True) ?hr ?hp (fun _ hk => hk) trivial (Below.refl _ _) (Nat.le_refl _) (by simp) ?_; (case hd => rfl); (case hg => rfl); (case hr => first | (go_simp; done) | (go_simp; rfl)); (case hp => exact (Reps.one (show Kd.M (Kd.int .i64) _ _ _ 12 [.int .i64 12] from rfl) (Reps.none _ _))); intro v130 w2 ho3 hb hg_ hnew_; clear hg_ hnew_; (first | rw [← Ny129.out] at ho3 | (simp only [Int.reduceToNat] at ho3; rw [← Ny129.out] at ho3)); have n0_ := am_ (Kd.R_lower ho3 (bz_ (by repeat (with_reducible first | exact HB.out | apply p3_ | apply p1_ | apply p2_ | refine bs_ ?_ GE128.out)))); have n1_ := am_ (kb_ (g := gb128) (o := .cells #[.int .i64 0, .int .i64 0, .slice none 0 0, .slice none 0 0, .int .i64 0, .string (⟨#[]⟩ : ByteArray), .slice none 0 0] 26 (0, 0)) (by (with_reducible repeat (first | refine k2_ ?_ _ | refine k3_ ?_ | refine k1_ ?_ _)); exact BK128.out) hb); have n2_ := am_ (bt_ (by repeat (with_reducible first | exact HB.out | apply p3_ | apply p1_ | apply p2_ | refine bs_ ?_ GE128.out)) hb); clear BK128; clear HB; have HO131 := n0_; have BK128 := n1_; have HB := n2_; clear n0_ n1_ n2_; clear hb ho3) | ((with_reducible refine gate_dst (N := 3) rfl ?_); refine Kd.R_lit k72 _ 72 ?hg (N := 3) ?hd (xs := ([(⟨(⟨#[118, 105, 112]⟩ : ByteArray), 13⟩ : S72)] : List (S72))) (inner := [.string (⟨#[118, 105, 112]⟩ : ByteArray), .int .i64 13]) (ok := fun _ => True) (okp := fun _ => True) ?hr ?hp (fun _ hk => hk) trivial (Below.refl _ _) (Nat.le_refl _) (by simp) ?_; (case hd => rfl); (case hg => rfl); (case hr => first | (go_simp; done) | (go_simp; rfl)); (case hp => exact (Reps.c2 (show Kd.M k72 _ _ _ (⟨(⟨#[118, 105, 112]⟩ : ByteArray), 13⟩ : S72) [.string (⟨#[118, 105, 112]⟩ : ByteArray), .int .i64 13] from (k72_mkM _ _ _ (⟨(⟨#[118, 105, 112]⟩ : ByteArray), 13⟩ : S72) )) (Reps.none _ _))); intro v133 w4 ho5 hb hg_ hnew_; clear hg_ hnew_; (first | rw [← Ny132.out] at ho5 | (simp only [Int.reduceToNat] at ho5; rw [← Ny132.out] at ho5)); have n0_ := am_ (Kd.R_below (by (with_reducible repeat (first | apply r1_ | apply r2_ | apply r3_)); exact HO131.out) hb); have n1_ := am_ (Kd.R_lower ho5 (bz_ (by repeat (with_reducible first | exact HB.out | apply p3_ | apply p1_ | apply p2_ | refine bs_ ?_ GE128.out)))); have n2_ := am_ (kb_ (g := gb128) (o := .cells #[.int .i64 0, .int .i64 0, .slice none 0 0, .slice none 0 0, .int .i64 0, .string (⟨#[]⟩ : ByteArray), .slice none 0 0] 26 (0, 0)) (by (with_reducible repeat (first | refine k2_ ?_ _ | refine k3_ ?_ | refine k1_ ?_ _)); exact BK128.out) hb); have n3_ := am_ (bt_ (by repeat (with_reducible first | exact HB.out | apply p3_ | apply p1_ | apply p2_ | refine bs_ ?_ GE128.out)) hb); clear HO131; clear BK128; clear HB; have HO131 := n0_; have HO134 := n1_; have BK128 := n2_; have HB := n3_; clear n0_ n1_ n2_ n3_; clear hb ho5) | ((with_reducible refine gate_dst (N := 5) rfl ?_); refine Kd.R_lit k74 _ 74 ?hg (N := 5) ?hd (xs := ([(⟨(⟨#[119, 119, 119, 46, 108, 97, 110]⟩ : ByteArray), 1, 5, 7, (⟨#[]⟩ : ByteArray), (⟨#[]⟩ : ByteArray), 0⟩ : S74)] : List (S74))) (inner := [.string (⟨#[119, 119, 119, 46, 108, 97, 110]⟩ : ByteArray), .int .i64 1, .int .i64 5, .int .i64 7, .string (⟨#[]⟩ : ByteArray), .string (⟨#[]⟩ : ByteArray), .int .i64 0]) (ok := fun _ => True) (okp := fun _ => True) ?hr ?hp (fun _ hk => hk) trivial (Below.refl _ _) (Nat.le_refl _) (by simp) ?_; (case hd => rfl); (case hg => rfl); (case hr => first | (go_simp; done) | (go_simp; rfl)); (case hp => exact (Reps.c7 (show Kd.M k74 _ _ _ (⟨(⟨#[119, 119, 119, 46, 108, 97, 110]⟩ : ByteArray), 1, 5, 7, (⟨#[]⟩ : ByteArray), (⟨#[]⟩ : ByteArray), 0⟩ : S74) [.string (⟨#[119, 119, 119, 46, 108, 97, 110]⟩ : ByteArray), .int .i64 1, .int .i64 5, .int .i64 7, .string (⟨#[]⟩ : ByteArray), .string (⟨#[]⟩ : ByteArray), .int .i64 0] from (k74_mkM _ _ _ (⟨(⟨#[119, 119, 119, 46, 108, 97, 110]⟩ : ByteArray), 1, 5, 7, (⟨#[]⟩ : ByteArray), (⟨#[]⟩ : ByteArray), 0⟩ : S74) )) (Reps.none _ _))); intro v136 w6 ho7 hb hg_ hnew_; clear hg_ hnew_; (first | rw [← Ny135.out] at ho7 | (simp only [Int.reduceToNat] at ho7; rw [← Ny135.out] at ho7)); have n0_ := am_ (Kd.R_below (by (with_reducible repeat (first | apply r1_ | apply r2_ | apply r3_)); exact HO131.out) hb); have n1_ := am_ (Kd.R_below (by (with_reducible repeat (first | apply r1_ | apply r2_ | apply r3_)); exact HO134.out) hb); have n2_ := am_ (Kd.R_lower ho7 (bz_ (by repeat (with_reducible first | exact HB.out | apply p3_ | apply p1_ | apply p2_ | refine bs_ ?_ GE128.out)))); have n3_ := am_ (kb_ (g := gb128) (o := .cells #[.int .i64 0, .int .i64 0, .slice none 0 0, .slice none 0 0, .int .i64 0, .string (⟨#[]⟩ : ByteArray), .slice none 0 0] 26 (0, 0)) (by (with_reducible repeat (first | refine k2_ ?_ _ | refine k3_ ?_ | refine k1_ ?_ _)); exact BK128.out) hb); have n4_ := am_ (bt_ (by repeat (with_reducible first | exact HB.out | apply p3_ | apply p1_ | apply p2_ | refine bs_ ?_ GE128.out)) hb); clear HO131; clear HO134; clear BK128; clear HB; have HO131 := n0_; have HO134 := n1_; have HO137 := n2_; have BK128 := n3_; have HB := n4_; clear n0_ n1_ n2_ n3_ n4_; clear hb ho7; obtain ⟨Ao8, co8, eo8⟩ := Kd.R_slice HO137.out; subst eo8; obtain ⟨Ao9, co9, eo9⟩ := Kd.R_slice HO134.out; subst eo9; obtain ⟨Ao10, co10, eo10⟩ := Kd.R_slice HO131.out; subst eo10; have hcz11_0 : w6.cell? ⟨gb128, 0, none⟩ = some (.int .i64 0) := (bc_ BK128.out 0).trans rfl; have hcz11_1 : w6.cell? ⟨gb128, 1, none⟩ = some (.int .i64 0) := (bc_ BK128.out 1).trans rfl; have hcz11_2 : w6.cell? ⟨gb128, 2, none⟩ = some (.slice none 0 0) := (bc_ BK128.out 2).trans rfl; have hcz11_3 : w6.cell? ⟨gb128, 3, none⟩ = some (.slice none 0 0) := (bc_ BK128.out 3).trans rfl; have hcz11_4 : w6.cell? ⟨gb128, 4, none⟩ = some (.int .i64 0) := (bc_ BK128.out 4).trans rfl; have hcz11_5 : w6.cell? ⟨gb128, 5, none⟩ = some (.string (⟨#[]⟩ : ByteArray)) := (bc_ BK128.out 5).trans rfl; have hcz11_6 : w6.cell? ⟨gb128, 6, none⟩ = some (.slice none 0 0) := (bc_ BK128.out 6).trans rfl; have hfz11_0 := bf_ BK128.out 0; have hfz11_1 := bf_ BK128.out 1; have hfz11_2 := bf_ BK128.out 2; have hfz11_3 := bf_ BK128.out 3; have hfz11_4 := bf_ BK128.out 4; have hfz11_5 := bf_ BK128.out 5; have hfz11_6 := bf_ BK128.out 6))
 refine bodyPost_ret (results_cell_row rfl _ _ gb128 26 #[.int .i64 10, .int .i64 13, .slice Ao10 y129.length co10, .slice Ao9 y132.length co9, .int .i64 100, .string (⟨#[108, 97, 110]⟩ : ByteArray), .slice Ao8 y135.length co8] (0, 0) _ rfl (by (with_reducible repeat (first | refine k2_ ?_ _ | refine k3_ ?_ | refine k1_ ?_ _)); refine blk_put (cs := #[.int .i64 10, .int .i64 13, .slice Ao10 y129.length co10, .slice Ao9 y132.length co9, .int .i64 100, .string (⟨#[108, 97, 110]⟩ : ByteArray), .slice none 0 0]) ?_ 6 _ rfl; (with_reducible repeat (first | refine k2_ ?_ _ | refine k3_ ?_ | refine k1_ ?_ _)); refine blk_put (cs := #[.int .i64 10, .int .i64 13, .slice Ao10 y129.length co10, .slice Ao9 y132.length co9, .int .i64 100, .string (⟨#[]⟩ : ByteArray), .slice none 0 0]) ?_ 5 _ rfl; (with_reducible repeat (first | refine k2_ ?_ _ | refine k3_ ?_ | refine k1_ ?_ _)); refine blk_put (cs := #[.int .i64 10, .int .i64 13, .slice Ao10 y129.length co10, .slice Ao9 y132.length co9, .int .i64 0, .string (⟨#[]⟩ : ByteArray), .slice none 0 0]) ?_ 4 _ rfl; (with_reducible repeat (first | refine k2_ ?_ _ | refine k3_ ?_ | refine k1_ ?_ _)); refine blk_put (cs := #[.int .i64 10, .int .i64 13, .slice Ao10 y129.length co10, .slice none 0 0, .int .i64 0, .string (⟨#[]⟩ : ByteArray), .slice none 0 0]) ?_ 3 _ rfl; (with_reducible repeat (first | refine k2_ ?_ _ | refine k3_ ?_ | refine k1_ ?_ _)); refine blk_put (cs := #[.int .i64 10, .int .i64 13, .slice none 0 0, .slice none 0 0, .int .i64 0, .string (⟨#[]⟩ : ByteArray), .slice none 0 0]) ?_ 2 _ rfl; (with_reducible repeat (first | refine k2_ ?_ _ | refine k3_ ?_ | refine k1_ ?_ _)); refine blk_put (cs := #[.int .i64 10, .int .i64 0, .slice none 0 0, .slice none 0 0, .int .i64 0, .string (⟨#[]⟩ : ByteArray), .slice none 0 0]) ?_ 1 _ rfl; (with_reducible repeat (first | refine k2_ ?_ _ | refine k3_ ?_ | refine k1_ ?_ _)); refine blk_put (cs := #[.int .i64 0, .int .i64 0, .slice none 0 0, .slice none 0 0, .int .i64 0, .string (⟨#[]⟩ : ByteArray), .slice none 0 0]) ?_ 0 _ rfl; (with_reducible repeat (first | refine k2_ ?_ _ | refine k3_ ?_ | refine k1_ ?_ _)); exact BK128.out) Tryd.underlying26 rfl (by kernel_rfl)) rfl ?_
 exact ⟨_, _, _, by first | rfl | (simp [errW_none, errW_some] <;> rfl) | (simp [*, errW_none, errW_some] <;> rfl), by (with_reducible repeat (first | apply r1_ | apply r2_ | apply r3_)); exact Kd.R_mono (Kd.R_far (p := ⟨gb128, 6, none⟩) (Kd.R_far (p := ⟨gb128, 5, none⟩) (Kd.R_far (p := ⟨gb128, 4, none⟩) (Kd.R_far (p := ⟨gb128, 3, none⟩) (Kd.R_far (p := ⟨gb128, 2, none⟩) (Kd.R_far (p := ⟨gb128, 1, none⟩) (Kd.R_far (p := ⟨gb128, 0, none⟩) (Kd.R_types HO131.out BK128.out (by decide)) (fun _ hk => hk.2) (.int .i64 10)) (fun _ hk => hk.2) (.int .i64 13)) (fun _ hk => hk.2) (.slice Ao10 y129.length co10)) (fun _ hk => hk.2) (.slice Ao9 y132.length co9)) (fun _ hk => hk.2) (.int .i64 100)) (fun _ hk => hk.2) (.string (⟨#[108, 97, 110]⟩ : ByteArray))) (fun _ hk => hk.2) (.slice Ao8 y135.length co8)) (fun _ hk => trivial), by (with_reducible repeat (first | apply r1_ | apply r2_ | apply r3_)); exact Kd.R_mono (Kd.R_far (p := ⟨gb128, 6, none⟩) (Kd.R_far (p := ⟨gb128, 5, none⟩) (Kd.R_far (p := ⟨gb128, 4, none⟩) (Kd.R_far (p := ⟨gb128, 3, none⟩) (Kd.R_far (p := ⟨gb128, 2, none⟩) (Kd.R_far (p := ⟨gb128, 1, none⟩) (Kd.R_far (p := ⟨gb128, 0, none⟩) (Kd.R_types HO134.out BK128.out (by decide)) (fun _ hk => hk.2) (.int .i64 10)) (fun _ hk => hk.2) (.int .i64 13)) (fun _ hk => hk.2) (.slice Ao10 y129.length co10)) (fun _ hk => hk.2) (.slice Ao9 y132.length co9)) (fun _ hk => hk.2) (.int .i64 100)) (fun _ hk => hk.2) (.string (⟨#[108, 97, 110]⟩ : ByteArray))) (fun _ hk => hk.2) (.slice Ao8 y135.length co8)) (fun _ hk => trivial), by (with_reducible repeat (first | apply r1_ | apply r2_ | apply r3_)); exact Kd.R_mono (Kd.R_far (p := ⟨gb128, 6, none⟩) (Kd.R_far (p := ⟨gb128, 5, none⟩) (Kd.R_far (p := ⟨gb128, 4, none⟩) (Kd.R_far (p := ⟨gb128, 3, none⟩) (Kd.R_far (p := ⟨gb128, 2, none⟩) (Kd.R_far (p := ⟨gb128, 1, none⟩) (Kd.R_far (p := ⟨gb128, 0, none⟩) (Kd.R_types HO137.out BK128.out (by decide)) (fun _ hk => hk.2) (.int .i64 10)) (fun _ hk => hk.2) (.int .i64 13)) (fun _ hk => hk.2) (.slice Ao10 y129.length co10)) (fun _ hk => hk.2) (.slice Ao9 y132.length co9)) (fun _ hk => hk.2) (.int .i64 100)) (fun _ hk => hk.2) (.string (⟨#[108, 97, 110]⟩ : ByteArray))) (fun _ hk => hk.2) (.slice Ao8 y135.length co8)) (fun _ hk => trivial), by repeat (with_reducible first | exact HB.out | apply p3_ | apply p1_ | apply p2_ | refine bs_ ?_ GE128.out)⟩

/-! ### pinfoldlaw0_SameLeases: function 17 -/
def pinfoldlaw0_SameLeases.l0 : Nat → List (S36) → List (S36) → Int → Option (Bool)
 | 0, _, _, _ => none
 | k + 1, x0, x1, x5 => if x5 < (x0.length : Int) then (if 0 ≤ x5 then (if x5 < (x1.length : Int) then (if (!(((rd_T36 x0 x5).f0) == ((rd_T36 x1 x5).f0)) || (!(((rd_T36 x0 x5).f1) == ((rd_T36 x1 x5).f1)) || (!((((rd_T36 x0 x5).f2).toList) == (((rd_T36 x1 x5).f2).toList)) || (!(((rd_T36 x0 x5).f3) == ((rd_T36 x1 x5).f3)) || (!((((rd_T36 x0 x5).f4).toList) == (((rd_T36 x1 x5).f4).toList)) || (!(((rd_T36 x0 x5).f5) == ((rd_T36 x1 x5).f5)))))))) = true then (some false) else (pinfoldlaw0_SameLeases.l0 k x0 x1 (wrap64 (x5 + 1)))) else (none)) else (none)) else (some true)
def pinfoldlaw0_SameLeases.f (k : Nat) (l0 : List (S36)) (l1 : List (S36)) : Option (Bool) := if (l0.length : Int) = (l1.length : Int) then (pinfoldlaw0_SameLeases.l0 k l0 l1 0) else (some false)
theorem pinfoldlaw0_SameLeases.mono_l : ∀ k, (∀ y0 y1 y2, LeO (pinfoldlaw0_SameLeases.l0 k y0 y1 y2) (pinfoldlaw0_SameLeases.l0 (k + 1) y0 y1 y2))
 | 0 => fun _ _ _ r h => by simp [pinfoldlaw0_SameLeases.l0] at h
 | k + 1 => by
  have ih0 := pinfoldlaw0_SameLeases.mono_l k
  ·intro y0 y1 y2
   unfold pinfoldlaw0_SameLeases.l0
   repeat' first
   | (with_reducible exact ih0 _ _ _)
   | (with_reducible exact LeO.refl _)
   | (with_reducible exact LeO.none _)
   | (with_reducible refine LeO.ite ?_ ?_)
   | (with_reducible refine LeO.bind ?_ (fun _ => ?_))
   | exact ih0 _ _ _
   | exact LeO.none _
   | refine LeO.ite ?_ ?_
   | refine LeO.bind ?_ (fun _ => ?_)
theorem pinfoldlaw0_SameLeases.mono : ∀ a0 a1 k, LeO (pinfoldlaw0_SameLeases.f k a0 a1) (pinfoldlaw0_SameLeases.f (k + 1) a0 a1) := by
 intro a0 a1 k
 have ih0 := pinfoldlaw0_SameLeases.mono_l k
 unfold pinfoldlaw0_SameLeases.f
 repeat' first
   | (with_reducible exact ih0 _ _ _)
   | (with_reducible exact LeO.refl _)
   | (with_reducible exact LeO.none _)
   | (with_reducible refine LeO.ite ?_ ?_)
   | (with_reducible refine LeO.bind ?_ (fun _ => ?_))
   | exact ih0 _ _ _
   | exact LeO.none _
   | refine LeO.ite ?_ ?_
   | refine LeO.bind ?_ (fun _ => ?_)
set_option maxHeartbeats 8000000 in
set_option maxRecDepth 100000 in
theorem pinfoldlaw0_SameLeases.calls (k : Nat) (A0 : Option Addr) (c0 : Nat) (l0 : List (S36)) (A1 : Option Addr) (c1 : Nat) (l1 : List (S36)) (r : Bool) (w : World) (hr0 : Kd.C k36 w A0 l0.length l0) (hc0 : l0.length ≤ c0) (hr1 : Kd.C k36 w A1 l1.length l1) (hc1 : l1.length ≤ c1) (h : pinfoldlaw0_SameLeases.f k l0 l1 = some r) :
  Calls Tryd.prog 17 #[.slice A0 l0.length c0, .slice A1 l1.length c1] w fun e w' => e = .returned (.bool r) ∧ Drawn0 w w' := by
 have hu36 := Tryd.underlying36
 have HR0 := am_ hr0
 have HC0 := am_ hc0
 clear hr0 hc0
 have HR1 := am_ hr1
 have HC1 := am_ hc1
 clear hr1 hc1
 have H : (if (l0.length : Int) = (l1.length : Int) then (pinfoldlaw0_SameLeases.l0 k l0 l1 0) else (some false)) = some r := h
 clear h
 by_cases c3 : (l0.length : Int) = (l1.length : Int)
 ·rw [if_pos c3] at H
  have c3b0 : ((l0.length : Int) == (l1.length : Int)) = true := beq_iff_eq.mpr c3
  have c3b1 : ((l0.length : Int) != (l1.length : Int)) = false := e1_ c3
  have c3b2 : (l0.length == l1.length) = true := by first | simpa using c3 | (simp at c3 ⊢; omega)
  clear c3
  have H' := am_ H
  clear H
  go_enter Tryd.func17, Tryd.ntmps17
  go_wp2
  repeat (go_quiet (fail); try go_wp2)
  go_loopg [5] k (fun kq v5 w' => ∃ (x5_1 : Int), v5 = .int .i64 x5_1 ∧ Aside0 (pinfoldlaw0_SameLeases.l0 kq l0 l1 x5_1 = some r) ∧ Aside0 (kq ≤ k) ∧ Drawn0 w w')
  case atStart => exact ⟨(0), (by first | rfl | (simp; done) | (simp [*]; done)), H', ⟨Nat.le_refl _⟩, by repeat (first | exact Drawn0.refl _ | apply Drawn0.step)⟩
  case round =>
   clear H'
   (try clear c1); (try clear c3); (try clear c3b0); (try clear c3b1); (try clear c3b2)
   obtain ⟨x5_1, rfl, HA, HK1, ⟨m1, rfl⟩⟩ := hrel
   cases gk with
   | zero => exact absurd HA.out (by simp [pinfoldlaw0_SameLeases.l0])
   | succ k1 =>
    have H := HA.out
    clear HA
    simp only [pinfoldlaw0_SameLeases.l0] at H
    by_cases c4 : x5_1 < (l0.length : Int)
    ·rw [if_pos c4] at H
     have c4b0 : decide (x5_1 < (l0.length : Int)) = true := decide_eq_true c4
     clear c4
     by_cases c5 : 0 ≤ x5_1
     rotate_left
     ·rw [if_neg c5] at H
      exact absurd H (by simp)
     rw [if_pos c5] at H
     have c5b0 : decide (0 ≤ x5_1) = true := decide_eq_true c5
     clear c5
     by_cases c6 : x5_1 < (l1.length : Int)
     rotate_left
     ·rw [if_neg c6] at H
      exact absurd H (by simp)
     rw [if_pos c6] at H
     have c6b0 : decide (x5_1 < (l1.length : Int)) = true := decide_eq_true c6
     clear c6
     by_cases c7 : (!(((rd_T36 l0 x5_1).f0) == ((rd_T36 l1 x5_1).f0)) || (!(((rd_T36 l0 x5_1).f1) == ((rd_T36 l1 x5_1).f1)) || (!((((rd_T36 l0 x5_1).f2).toList) == (((rd_T36 l1 x5_1).f2).toList)) || (!(((rd_T36 l0 x5_1).f3) == ((rd_T36 l1 x5_1).f3)) || (!((((rd_T36 l0 x5_1).f4).toList) == (((rd_T36 l1 x5_1).f4).toList)) || (!(((rd_T36 l0 x5_1).f5) == ((rd_T36 l1 x5_1).f5)))))))) = true
     ·rw [if_pos c7] at H
      have c7b0 : (!(((rd_T36 l0 x5_1).f0) == ((rd_T36 l1 x5_1).f0)) || (!(((rd_T36 l0 x5_1).f1) == ((rd_T36 l1 x5_1).f1)) || (!((((rd_T36 l0 x5_1).f2).toList) == (((rd_T36 l1 x5_1).f2).toList)) || (!(((rd_T36 l0 x5_1).f3) == ((rd_T36 l1 x5_1).f3)) || (!((((rd_T36 l0 x5_1).f4).toList) == (((rd_T36 l1 x5_1).f4).toList)) || (!(((rd_T36 l0 x5_1).f5) == ((rd_T36 l1 x5_1).f5)))))))) = true := c7
      clear c7
      obtain rfl := e5_ H
      have p138 : 0 ≤ (x5_1 : Int) := of_decide_eq_true (by first | (with_reducible assumption) | assumption)
      have q138 : x5_1 < (l0.length : Int) := of_decide_eq_true (by first | (with_reducible assumption) | assumption)
      obtain ⟨ad138, e138, hx138_0, hx138_1, hx138_2, hx138_3, hx138_4, hx138_5⟩ := at_T36 HR0.out x5_1 p138 q138
      cases e138
      replace p138 := eq_true p138
      replace q138 := eq_true q138
      have p139 : 0 ≤ (x5_1 : Int) := of_decide_eq_true (by first | (with_reducible assumption) | assumption)
      have q139 : x5_1 < (l1.length : Int) := of_decide_eq_true (by first | (with_reducible assumption) | assumption)
      obtain ⟨ad139, e139, hx139_0, hx139_1, hx139_2, hx139_3, hx139_4, hx139_5⟩ := at_T36 HR1.out x5_1 p139 q139
      cases e139
      replace p139 := eq_true p139
      replace q139 := eq_true q139
      go_wp2
      repeat (go_quiet (fail); try go_wp2)
      go_ret
      exact ⟨by first | rfl | (simp; done) | (simp [*]; done), by repeat (first | exact Drawn0.refl _ | apply Drawn0.step)⟩
     rw [if_neg c7] at H
     have c7b0 : (!(((rd_T36 l0 x5_1).f0) == ((rd_T36 l1 x5_1).f0)) || (!(((rd_T36 l0 x5_1).f1) == ((rd_T36 l1 x5_1).f1)) || (!((((rd_T36 l0 x5_1).f2).toList) == (((rd_T36 l1 x5_1).f2).toList)) || (!(((rd_T36 l0 x5_1).f3) == ((rd_T36 l1 x5_1).f3)) || (!((((rd_T36 l0 x5_1).f4).toList) == (((rd_T36 l1 x5_1).f4).toList)) || (!(((rd_T36 l0 x5_1).f5) == ((rd_T36 l1 x5_1).f5)))))))) = false := by simpa using c7
     clear c7
     have H' := am_ H
     clear H
     have p138 : 0 ≤ (x5_1 : Int) := of_decide_eq_true (by first | (with_reducible assumption) | assumption)
     have q138 : x5_1 < (l0.length : Int) := of_decide_eq_true (by first | (with_reducible assumption) | assumption)
     obtain ⟨ad138, e138, hx138_0, hx138_1, hx138_2, hx138_3, hx138_4, hx138_5⟩ := at_T36 HR0.out x5_1 p138 q138
     cases e138
     replace p138 := eq_true p138
     replace q138 := eq_true q138
     have p139 : 0 ≤ (x5_1 : Int) := of_decide_eq_true (by first | (with_reducible assumption) | assumption)
     have q139 : x5_1 < (l1.length : Int) := of_decide_eq_true (by first | (with_reducible assumption) | assumption)
     obtain ⟨ad139, e139, hx139_0, hx139_1, hx139_2, hx139_3, hx139_4, hx139_5⟩ := at_T36 HR1.out x5_1 p139 q139
     cases e139
     replace p139 := eq_true p139
     replace q139 := eq_true q139
     go_wp2
     repeat (go_quiet (fail); try go_wp2)
     go_roundg k1
     case measure => have := HK1.out; omega
     case rel => exact ⟨(wrap64 (x5_1 + 1)), (by first | rfl | (simp; done) | (simp [*]; done)), H', ⟨by have := HK1.out; omega⟩, by repeat (first | exact Drawn0.refl _ | apply Drawn0.step)⟩
    rw [if_neg c4] at H
    have c4b0 : decide (x5_1 < (l0.length : Int)) = false := decide_eq_false c4
    clear c4
    obtain rfl := e5_ H
    go_wp2
    repeat (go_quiet (fail); try go_wp2)
    go_ret
    exact ⟨by first | rfl | (simp; done) | (simp [*]; done), by repeat (first | exact Drawn0.refl _ | apply Drawn0.step)⟩
 rw [if_neg c3] at H
 have c3b0 : ((l0.length : Int) == (l1.length : Int)) = false := e2_ c3
 have c3b1 : ((l0.length : Int) != (l1.length : Int)) = true := bne_iff_ne.mpr c3
 have c3b2 : (l0.length == l1.length) = false := by first | simpa using c3 | (simp at c3 ⊢; omega)
 obtain rfl := e5_ H
 go_enter Tryd.func17, Tryd.ntmps17
 go_wp2
 repeat (go_quiet (fail); try go_wp2)
 go_ret
 exact ⟨by first | rfl | (simp; done) | (simp [*]; done), by repeat (first | exact Drawn0.refl _ | apply Drawn0.step)⟩

/-! ### pinfoldlaw17_awake: function 8 -/
-- BY HAND
-- 16 9 10 17
abbrev awEx : List Int := [12]
abbrev awRes : List S72 := [⟨(⟨#[118, 105, 112]⟩ : ByteArray), 13⟩]
abbrev awZone : ByteArray := ⟨#[108, 97, 110]⟩
abbrev awRR : List S74 := [⟨(⟨#[119, 119, 119, 46, 108, 97, 110]⟩ : ByteArray), 1, 5, 7, (⟨#[]⟩ : ByteArray), (⟨#[]⟩ : ByteArray), 0⟩]
theorem pinfoldlaw17_awake.lit (W : World) (x : S36) : Kd.C k36 (W.alloc (.cells #[.int .i64 x.f0, .int .i64 x.f1, .string x.f2, .int .i64 x.f3, .string x.f4, .bool x.f5] 36)) (some ⟨W.heap.size, 0, none⟩) 1 [x] := by
 have h := OwnRow.lit (e := 36) (R := Kd.M k36 (W.alloc (.cells #[.int .i64 x.f0, .int .i64 x.f1, .string x.f2, .int .i64 x.f3, .string x.f4, .bool x.f5] 36)) W.heap.size (fun _ => True)) (ps := [x]) W W.heap.size (inner := [.int .i64 x.f0, .int .i64 x.f1, .string x.f2, .int .i64 x.f3, .string x.f4, .bool x.f5]) (Reps.c6 (k36_mkM _ _ _ x) (Reps.none _ _)) (Nat.le_refl _) (by simp)
 obtain ⟨A, c, he, _, hr⟩ := OwnRow.reads h
 injection he with h1 h2 h3
 subst h1
 exact hr.imp_ (Below.refl _ _) (fun _ _ hp => Kd.K_of_M _ hp)
theorem pinfoldlaw17_awake.add0 (a : Addr) : a.add 0 = a := by
 cases a with
 | mk b o p => cases p <;> rfl
theorem pinfoldlaw17_awake.stay {w : World} {p : Addr} {v : Value} (h : w.cell? p = some v) (k : Nat) (o : Obj) (k2 : Nat) : (((w.drewN k).alloc o).drewN k2).cell? p = some v :=
 ((p1_ (p3_ (p1_ (Below.refl w.heap.size w) k) o) k2).cell (wb_ _ _ h)).trans h
theorem pinfoldlaw17_awake.sz (w : World) (o : Obj) (k : Nat) : ((w.alloc o).drewN k).heap.size = w.heap.size + 1 := by
 show (w.alloc o).heap.size = _
 simp
theorem pinfoldlaw17_awake.lit2 (W : World) (x : S36) (g : Nat) (hg : W.heap.size = g) : Kd.C k36 (W.alloc (.cells #[.int .i64 x.f0, .int .i64 x.f1, .string x.f2, .int .i64 x.f3, .string x.f4, .bool x.f5] 36)) (some ⟨g, 0, none⟩) 1 [x] := by
 subst hg
 exact pinfoldlaw17_awake.lit W x
theorem pinfoldlaw17_awake.f1 : claim_Claim.f 10 13 awEx awRes 100 awZone awRR [(⟨10, 1, (⟨#[109, 101]⟩ : ByteArray), 9, (⟨#[]⟩ : ByteArray), false⟩ : S36)] 0 (⟨#[109, 101]⟩ : ByteArray) true 167772161 10 0 (⟨#[112, 99]⟩ : ByteArray) = some ([(⟨10, 2, (⟨#[109, 101]⟩ : ByteArray), 100, (⟨#[112, 99]⟩ : ByteArray), true⟩ : S36)], 1, 10, 0) := by kernel_rfl
theorem pinfoldlaw17_awake.f2 : claim_Claim.f 10 13 awEx awRes 100 awZone awRR [(⟨10, 1, (⟨#[109, 101]⟩ : ByteArray), 9, (⟨#[]⟩ : ByteArray), false⟩ : S36)] 0 (⟨#[121, 111, 117]⟩ : ByteArray) true 167772161 10 0 (⟨#[]⟩ : ByteArray) = some ([(⟨10, 1, (⟨#[109, 101]⟩ : ByteArray), 9, (⟨#[]⟩ : ByteArray), false⟩ : S36)], 2, 0, 0) := by kernel_rfl
theorem pinfoldlaw17_awake.f3 : claim_Claim.f 10 13 awEx awRes 100 awZone awRR [(⟨10, 1, (⟨#[109, 101]⟩ : ByteArray), 9, (⟨#[]⟩ : ByteArray), false⟩ : S36)] 0 (⟨#[109, 101]⟩ : ByteArray) true 5 10 0 (⟨#[]⟩ : ByteArray) = some ([(⟨10, 0, (⟨#[109, 101]⟩ : ByteArray), 9, (⟨#[]⟩ : ByteArray), false⟩ : S36)], 0, 0, 0) := by kernel_rfl
theorem pinfoldlaw17_awake.f4 : claim_Claim.f 10 13 awEx awRes 100 awZone awRR [(⟨10, 2, (⟨#[109, 101]⟩ : ByteArray), 100, (⟨#[112, 99]⟩ : ByteArray), true⟩ : S36)] 50 (⟨#[109, 101]⟩ : ByteArray) false 0 0 10 (⟨#[]⟩ : ByteArray) = some ([(⟨10, 2, (⟨#[109, 101]⟩ : ByteArray), 150, (⟨#[112, 99]⟩ : ByteArray), true⟩ : S36)], 1, 10, 0) := by kernel_rfl
theorem pinfoldlaw17_awake.f5 : claim_Claim.f 10 13 awEx awRes 100 awZone awRR [] 0 (⟨#[109, 101]⟩ : ByteArray) false 0 10 0 (⟨#[]⟩ : ByteArray) = some ([], 0, 0, 0) := by kernel_rfl
theorem pinfoldlaw17_awake.f6 : claim_Claim.f 10 13 awEx awRes 100 awZone awRR [] 0 (⟨#[]⟩ : ByteArray) false 0 0 0 (⟨#[]⟩ : ByteArray) = some ([], 0, 0, 1700) := by kernel_rfl
theorem pinfoldlaw17_awake.s1 : pinfoldlaw0_SameLeases.f 5 [(⟨10, 2, (⟨#[109, 101]⟩ : ByteArray), 100, (⟨#[112, 99]⟩ : ByteArray), true⟩ : S36)] [(⟨10, 2, (⟨#[109, 101]⟩ : ByteArray), 100, (⟨#[112, 99]⟩ : ByteArray), true⟩ : S36)] = some true := by kernel_rfl
theorem pinfoldlaw17_awake.s2 : pinfoldlaw0_SameLeases.f 5 [(⟨10, 0, (⟨#[109, 101]⟩ : ByteArray), 9, (⟨#[]⟩ : ByteArray), false⟩ : S36)] [(⟨10, 0, (⟨#[109, 101]⟩ : ByteArray), 9, (⟨#[]⟩ : ByteArray), false⟩ : S36)] = some true := by kernel_rfl
def pinfoldlaw17_awake.f : Option Bool := some true
set_option maxHeartbeats 8000000 in
set_option maxRecDepth 100000 in
theorem pinfoldlaw17_awake.calls (r : Bool) (w : World) (h : pinfoldlaw17_awake.f = some r) :
  Calls Tryd.prog 8 #[] w fun e w' => e = .returned (.bool r) ∧ Below w.heap.size w w' := by
 obtain rfl := e5_ h
 clear h
 obtain ⟨EX, hEX⟩ : ∃ l, awEx = l := ⟨_, rfl⟩
 obtain ⟨RE, hRE⟩ : ∃ l, awRes = l := ⟨_, rfl⟩
 obtain ⟨ZO, hZO⟩ : ∃ l, awZone = l := ⟨_, rfl⟩
 obtain ⟨SR, hSR⟩ : ∃ l, awRR = l := ⟨_, rfl⟩
 obtain ⟨LA, hLA⟩ : ∃ l, [(⟨10, 2, (⟨#[109, 101]⟩ : ByteArray), 100, (⟨#[112, 99]⟩ : ByteArray), true⟩ : S36)] = l := ⟨_, rfl⟩
 obtain ⟨LB, hLB⟩ : ∃ l, [(⟨10, 0, (⟨#[109, 101]⟩ : ByteArray), 9, (⟨#[]⟩ : ByteArray), false⟩ : S36)] = l := ⟨_, rfl⟩
 obtain ⟨LD, hLD⟩ : ∃ l, [(⟨10, 2, (⟨#[109, 101]⟩ : ByteArray), 150, (⟨#[112, 99]⟩ : ByteArray), true⟩ : S36)] = l := ⟨_, rfl⟩
 have F1 := pinfoldlaw17_awake.f1; have F2 := pinfoldlaw17_awake.f2; have F3 := pinfoldlaw17_awake.f3; have F4 := pinfoldlaw17_awake.f4; have F5 := pinfoldlaw17_awake.f5; have F6 := pinfoldlaw17_awake.f6; have S1 := pinfoldlaw17_awake.s1; have S2 := pinfoldlaw17_awake.s2
 rw [hEX, hRE, hZO, hSR] at F1 F2 F3 F4 F5 F6
 rw [hLA] at F1 F4
 rw [hLB] at F3
 rw [hLD] at F4
 rw (occs := [1]) [hLA] at S1
 rw (occs := [1]) [hLB] at S2
 have hlD : LD.length = 1 := by rw [← hLD]; rfl
 have hD0 : rd_T36 LD 0 = (⟨10, 2, (⟨#[109, 101]⟩ : ByteArray), 150, (⟨#[112, 99]⟩ : ByteArray), true⟩ : S36) := by rw [← hLD]; rfl
 have CG := am_ (fun W => pinfoldlaw17_given.calls 10 13 EX RE 100 ZO SR W (by rw [← hEX, ← hRE, ← hZO, ← hSR]; rfl))
 have C1 := am_ (fun W (AE : Option Addr) (cE : Nat) (AR : Option Addr) (cR : Nat) (AS : Option Addr) (cS : Nat) (hE : Kd.C (Kd.int .i64) W AE EX.length EX) (hcE : EX.length ≤ cE) (hR : Kd.C k72 W AR RE.length RE) (hcR : RE.length ≤ cR) (hS : Kd.C k74 W AS SR.length SR) (hcS : SR.length ≤ cS) (A : Option Addr) (hL : Kd.C k36 W A 1 [(⟨10, 1, (⟨#[109, 101]⟩ : ByteArray), 9, (⟨#[]⟩ : ByteArray), false⟩ : S36)]) => (show Calls Tryd.prog 9 #[.agg #[.int .i64 10, .int .i64 13, .slice AE EX.length cE, .slice AR RE.length cR, .int .i64 100, .string ZO, .slice AS SR.length cS], .slice A 1 1, .int .i64 0, .string (⟨#[109, 101]⟩ : ByteArray), .agg #[.bool true, .int .i64 167772161, .int .i64 10, .int .i64 0, .string (⟨#[112, 99]⟩ : ByteArray)]] W fun e w' => ∃ v0_ : Value, e = .returned (.tuple #[v0_, .int .i64 1, .int .i64 10, .int .i64 0]) ∧ Kd.R k36 36 w' W.heap.size (fun _ => True) v0_ LA ∧ Below W.heap.size W w' from claim_Claim.calls 10 13 AE cE EX AR cR RE 100 ZO AS cS SR A 1 [(⟨10, 1, (⟨#[109, 101]⟩ : ByteArray), 9, (⟨#[]⟩ : ByteArray), false⟩ : S36)] 0 (⟨#[109, 101]⟩ : ByteArray) true 167772161 10 0 (⟨#[112, 99]⟩ : ByteArray) LA 1 10 0 W hE hcE hR hcR hS hcS hL (Nat.le_refl 1) F1))
 have C2 := am_ (fun W (AE : Option Addr) (cE : Nat) (AR : Option Addr) (cR : Nat) (AS : Option Addr) (cS : Nat) (hE : Kd.C (Kd.int .i64) W AE EX.length EX) (hcE : EX.length ≤ cE) (hR : Kd.C k72 W AR RE.length RE) (hcR : RE.length ≤ cR) (hS : Kd.C k74 W AS SR.length SR) (hcS : SR.length ≤ cS) (A : Option Addr) (hL : Kd.C k36 W A 1 [(⟨10, 1, (⟨#[109, 101]⟩ : ByteArray), 9, (⟨#[]⟩ : ByteArray), false⟩ : S36)]) => (show Calls Tryd.prog 9 #[.agg #[.int .i64 10, .int .i64 13, .slice AE EX.length cE, .slice AR RE.length cR, .int .i64 100, .string ZO, .slice AS SR.length cS], .slice A 1 1, .int .i64 0, .string (⟨#[121, 111, 117]⟩ : ByteArray), .agg #[.bool true, .int .i64 167772161, .int .i64 10, .int .i64 0, .string (⟨#[]⟩ : ByteArray)]] W fun e w' => ∃ v0_ : Value, e = .returned (.tuple #[v0_, .int .i64 2, .int .i64 0, .int .i64 0]) ∧ Kd.R k36 36 w' W.heap.size (fun _ => True) v0_ [(⟨10, 1, (⟨#[109, 101]⟩ : ByteArray), 9, (⟨#[]⟩ : ByteArray), false⟩ : S36)] ∧ Below W.heap.size W w' from claim_Claim.calls 10 13 AE cE EX AR cR RE 100 ZO AS cS SR A 1 [(⟨10, 1, (⟨#[109, 101]⟩ : ByteArray), 9, (⟨#[]⟩ : ByteArray), false⟩ : S36)] 0 (⟨#[121, 111, 117]⟩ : ByteArray) true 167772161 10 0 (⟨#[]⟩ : ByteArray) [(⟨10, 1, (⟨#[109, 101]⟩ : ByteArray), 9, (⟨#[]⟩ : ByteArray), false⟩ : S36)] 2 0 0 W hE hcE hR hcR hS hcS hL (Nat.le_refl 1) F2))
 have C3 := am_ (fun W (AE : Option Addr) (cE : Nat) (AR : Option Addr) (cR : Nat) (AS : Option Addr) (cS : Nat) (hE : Kd.C (Kd.int .i64) W AE EX.length EX) (hcE : EX.length ≤ cE) (hR : Kd.C k72 W AR RE.length RE) (hcR : RE.length ≤ cR) (hS : Kd.C k74 W AS SR.length SR) (hcS : SR.length ≤ cS) (A : Option Addr) (hL : Kd.C k36 W A 1 [(⟨10, 1, (⟨#[109, 101]⟩ : ByteArray), 9, (⟨#[]⟩ : ByteArray), false⟩ : S36)]) => (show Calls Tryd.prog 9 #[.agg #[.int .i64 10, .int .i64 13, .slice AE EX.length cE, .slice AR RE.length cR, .int .i64 100, .string ZO, .slice AS SR.length cS], .slice A 1 1, .int .i64 0, .string (⟨#[109, 101]⟩ : ByteArray), .agg #[.bool true, .int .i64 5, .int .i64 10, .int .i64 0, .string (⟨#[]⟩ : ByteArray)]] W fun e w' => ∃ v0_ : Value, e = .returned (.tuple #[v0_, .int .i64 0, .int .i64 0, .int .i64 0]) ∧ Kd.R k36 36 w' W.heap.size (fun _ => True) v0_ LB ∧ Below W.heap.size W w' from claim_Claim.calls 10 13 AE cE EX AR cR RE 100 ZO AS cS SR A 1 [(⟨10, 1, (⟨#[109, 101]⟩ : ByteArray), 9, (⟨#[]⟩ : ByteArray), false⟩ : S36)] 0 (⟨#[109, 101]⟩ : ByteArray) true 5 10 0 (⟨#[]⟩ : ByteArray) LB 0 0 0 W hE hcE hR hcR hS hcS hL (Nat.le_refl 1) F3))
 have C4 := am_ (fun W (AE : Option Addr) (cE : Nat) (AR : Option Addr) (cR : Nat) (AS : Option Addr) (cS : Nat) (hE : Kd.C (Kd.int .i64) W AE EX.length EX) (hcE : EX.length ≤ cE) (hR : Kd.C k72 W AR RE.length RE) (hcR : RE.length ≤ cR) (hS : Kd.C k74 W AS SR.length SR) (hcS : SR.length ≤ cS) (A : Option Addr) (c : Nat) (hL : Kd.C k36 W A LA.length LA) (hc : LA.length ≤ c) => (show Calls Tryd.prog 9 #[.agg #[.int .i64 10, .int .i64 13, .slice AE EX.length cE, .slice AR RE.length cR, .int .i64 100, .string ZO, .slice AS SR.length cS], .slice A LA.length c, .int .i64 50, .string (⟨#[109, 101]⟩ : ByteArray), .agg #[.bool false, .int .i64 0, .int .i64 0, .int .i64 10, .string (⟨#[]⟩ : ByteArray)]] W fun e w' => ∃ v0_ : Value, e = .returned (.tuple #[v0_, .int .i64 1, .int .i64 10, .int .i64 0]) ∧ Kd.R k36 36 w' W.heap.size (fun _ => True) v0_ LD ∧ Below W.heap.size W w' from claim_Claim.calls 10 13 AE cE EX AR cR RE 100 ZO AS cS SR A c LA 50 (⟨#[109, 101]⟩ : ByteArray) false 0 0 10 (⟨#[]⟩ : ByteArray) LD 1 10 0 W hE hcE hR hcR hS hcS hL hc F4))
 have C5 := am_ (fun W (AE : Option Addr) (cE : Nat) (AR : Option Addr) (cR : Nat) (AS : Option Addr) (cS : Nat) (hE : Kd.C (Kd.int .i64) W AE EX.length EX) (hcE : EX.length ≤ cE) (hR : Kd.C k72 W AR RE.length RE) (hcR : RE.length ≤ cR) (hS : Kd.C k74 W AS SR.length SR) (hcS : SR.length ≤ cS)  => (show Calls Tryd.prog 9 #[.agg #[.int .i64 10, .int .i64 13, .slice AE EX.length cE, .slice AR RE.length cR, .int .i64 100, .string ZO, .slice AS SR.length cS], .slice none 0 0, .int .i64 0, .string (⟨#[109, 101]⟩ : ByteArray), .agg #[.bool false, .int .i64 0, .int .i64 10, .int .i64 0, .string (⟨#[]⟩ : ByteArray)]] W fun e w' => ∃ v0_ : Value, e = .returned (.tuple #[v0_, .int .i64 0, .int .i64 0, .int .i64 0]) ∧ Kd.R k36 36 w' W.heap.size (fun _ => True) v0_ [] ∧ Below W.heap.size W w' from claim_Claim.calls 10 13 AE cE EX AR cR RE 100 ZO AS cS SR none 0 [] 0 (⟨#[109, 101]⟩ : ByteArray) false 0 10 0 (⟨#[]⟩ : ByteArray) [] 0 0 0 W hE hcE hR hcR hS hcS (Kd.R_reads' (show Kd.R k36 36 W 0 (fun _ => True) (.slice none 0 0) [] from Kd.R_nil _ _ _ _ _)).2.2 (Nat.le_refl 0) F5))
 have C6 := am_ (fun W (AE : Option Addr) (cE : Nat) (AR : Option Addr) (cR : Nat) (AS : Option Addr) (cS : Nat) (hE : Kd.C (Kd.int .i64) W AE EX.length EX) (hcE : EX.length ≤ cE) (hR : Kd.C k72 W AR RE.length RE) (hcR : RE.length ≤ cR) (hS : Kd.C k74 W AS SR.length SR) (hcS : SR.length ≤ cS)  => (show Calls Tryd.prog 9 #[.agg #[.int .i64 10, .int .i64 13, .slice AE EX.length cE, .slice AR RE.length cR, .int .i64 100, .string ZO, .slice AS SR.length cS], .slice none 0 0, .int .i64 0, .string (⟨#[]⟩ : ByteArray), .agg #[.bool false, .int .i64 0, .int .i64 0, .int .i64 0, .string (⟨#[]⟩ : ByteArray)]] W fun e w' => ∃ v0_ : Value, e = .returned (.tuple #[v0_, .int .i64 0, .int .i64 0, .int .i64 1700]) ∧ Kd.R k36 36 w' W.heap.size (fun _ => True) v0_ [] ∧ Below W.heap.size W w' from claim_Claim.calls 10 13 AE cE EX AR cR RE 100 ZO AS cS SR none 0 [] 0 (⟨#[]⟩ : ByteArray) false 0 0 0 (⟨#[]⟩ : ByteArray) [] 0 0 1700 W hE hcE hR hcR hS hcS (Kd.R_reads' (show Kd.R k36 36 W 0 (fun _ => True) (.slice none 0 0) [] from Kd.R_nil _ _ _ _ _)).2.2 (Nat.le_refl 0) F6))
 have CN := am_ (fun (x : Int) W => pinfoldlaw0_Num.calls x x W rfl)
 have CS1 := am_ (fun W A c (hA : Kd.C k36 W A LA.length LA) (hc : LA.length ≤ c) => (show Calls Tryd.prog 17 #[.slice A LA.length c, .slice (some ⟨W.heap.size, 0, none⟩) 1 1] (W.alloc (.cells #[.int .i64 10, .int .i64 2, .string (⟨#[109, 101]⟩ : ByteArray), .int .i64 100, .string (⟨#[112, 99]⟩ : ByteArray), .bool true] 36)) fun e w' => e = .returned (.bool true) ∧ Drawn0 (W.alloc (.cells #[.int .i64 10, .int .i64 2, .string (⟨#[109, 101]⟩ : ByteArray), .int .i64 100, .string (⟨#[112, 99]⟩ : ByteArray), .bool true] 36)) w' from pinfoldlaw0_SameLeases.calls 5 A c LA (some ⟨W.heap.size, 0, none⟩) 1 [(⟨10, 2, (⟨#[109, 101]⟩ : ByteArray), 100, (⟨#[112, 99]⟩ : ByteArray), true⟩ : S36)] true (W.alloc (.cells #[.int .i64 10, .int .i64 2, .string (⟨#[109, 101]⟩ : ByteArray), .int .i64 100, .string (⟨#[112, 99]⟩ : ByteArray), .bool true] 36)) (c1_ hA _) hc (pinfoldlaw17_awake.lit W (⟨10, 2, (⟨#[109, 101]⟩ : ByteArray), 100, (⟨#[112, 99]⟩ : ByteArray), true⟩ : S36)) (Nat.le_refl 1) S1))
 have CS2 := am_ (fun W g (hg : W.heap.size = g) A c (hA : Kd.C k36 W A LB.length LB) (hc : LB.length ≤ c) => (show Calls Tryd.prog 17 #[.slice A LB.length c, .slice (some ⟨g, 0, none⟩) 1 1] (W.alloc (.cells #[.int .i64 10, .int .i64 0, .string (⟨#[109, 101]⟩ : ByteArray), .int .i64 9, .string (⟨#[]⟩ : ByteArray), .bool false] 36)) fun e w' => e = .returned (.bool true) ∧ Drawn0 (W.alloc (.cells #[.int .i64 10, .int .i64 0, .string (⟨#[109, 101]⟩ : ByteArray), .int .i64 9, .string (⟨#[]⟩ : ByteArray), .bool false] 36)) w' from pinfoldlaw0_SameLeases.calls 5 A c LB (some ⟨g, 0, none⟩) 1 [(⟨10, 0, (⟨#[109, 101]⟩ : ByteArray), 9, (⟨#[]⟩ : ByteArray), false⟩ : S36)] true (W.alloc (.cells #[.int .i64 10, .int .i64 0, .string (⟨#[109, 101]⟩ : ByteArray), .int .i64 9, .string (⟨#[]⟩ : ByteArray), .bool false] 36)) (c1_ hA _) hc (pinfoldlaw17_awake.lit2 W (⟨10, 0, (⟨#[109, 101]⟩ : ByteArray), 9, (⟨#[]⟩ : ByteArray), false⟩ : S36) g hg) (Nat.le_refl 1) S2))
 have HD0 := am_ hD0
 clear F1 F2 F3 F4 F5 F6 S1 S2 hEX hRE hZO hSR hLA hLB hLD hD0
 go_enter Tryd.func8, Tryd.ntmps8
 go_wp2_with (first | (go_at_call 16; (with_reducible refine (CG.out _).mono ?_); rintro e w1 ⟨v1, v2, v3, rfl, ho1, ho2, ho3, hb2⟩; obtain ⟨AE, cE, rfl, hcE, hE⟩ := Kd.R_reads ho1; obtain ⟨AR, cR, rfl, hcR, hR⟩ := Kd.R_reads ho2; obtain ⟨AS, cS, rfl, hcS, hS⟩ := Kd.R_reads ho3; have HCE := am_ hcE; have HCR := am_ hcR; have HCS := am_ hcS; have HE := am_ (c1_ hE (.cells #[.int .i64 10, .int .i64 13, .slice AE EX.length cE, .slice AR RE.length cR, .int .i64 100, .string ZO, .slice AS SR.length cS] 26)); have HR := am_ (c1_ hR (.cells #[.int .i64 10, .int .i64 13, .slice AE EX.length cE, .slice AR RE.length cR, .int .i64 100, .string ZO, .slice AS SR.length cS] 26)); have HS := am_ (c1_ hS (.cells #[.int .i64 10, .int .i64 13, .slice AE EX.length cE, .slice AR RE.length cR, .int .i64 100, .string ZO, .slice AS SR.length cS] 26)); have BK := am_ (blk_new w1 (.cells #[.int .i64 10, .int .i64 13, .slice AE EX.length cE, .slice AR RE.length cR, .int .i64 100, .string ZO, .slice AS SR.length cS] 26)); have HB := am_ (p3_ hb2 (.cells #[.int .i64 10, .int .i64 13, .slice AE EX.length cE, .slice AR RE.length cR, .int .i64 100, .string ZO, .slice AS SR.length cS] 26)); clear ho1 ho2 ho3 hE hR hS hcE hcR hcS hb2; have u := fun k => bc_ BK.out k) | (go_at_call 9; replace HE := am_ (c1_ HE.out (.cells #[.int .i64 10, .int .i64 1, .string (⟨#[109, 101]⟩ : ByteArray), .int .i64 9, .string (⟨#[]⟩ : ByteArray), .bool false] 36)); replace HR := am_ (c1_ HR.out (.cells #[.int .i64 10, .int .i64 1, .string (⟨#[109, 101]⟩ : ByteArray), .int .i64 9, .string (⟨#[]⟩ : ByteArray), .bool false] 36)); replace HS := am_ (c1_ HS.out (.cells #[.int .i64 10, .int .i64 1, .string (⟨#[109, 101]⟩ : ByteArray), .int .i64 9, .string (⟨#[]⟩ : ByteArray), .bool false] 36)); replace BK := am_ (k1_ BK.out (.cells #[.int .i64 10, .int .i64 1, .string (⟨#[109, 101]⟩ : ByteArray), .int .i64 9, .string (⟨#[]⟩ : ByteArray), .bool false] 36)); replace HB := am_ (p3_ HB.out (.cells #[.int .i64 10, .int .i64 1, .string (⟨#[109, 101]⟩ : ByteArray), .int .i64 9, .string (⟨#[]⟩ : ByteArray), .bool false] 36)); have HL := am_ (pinfoldlaw17_awake.lit2 (w1.alloc (.cells #[.int .i64 10, .int .i64 13, .slice AE EX.length cE, .slice AR RE.length cR, .int .i64 100, .string ZO, .slice AS SR.length cS] 26)) (⟨10, 1, (⟨#[109, 101]⟩ : ByteArray), 9, (⟨#[]⟩ : ByteArray), false⟩ : S36) (w1.heap.size + 1) (by simp)); (with_reducible refine (C1.out _ _ _ _ _ _ _ HE.out HCE.out HR.out HCR.out HS.out HCS.out _ HL.out).mono ?_); rintro e w2 ⟨v, rfl, hv, hb2⟩; obtain ⟨AA, cA, rfl, hc9, h9⟩ := Kd.R_reads hv; replace HE := am_ (c4_ HE.out hb2); replace HR := am_ (c4_ HR.out hb2); replace HS := am_ (c4_ HS.out hb2); replace HL := am_ (c4_ HL.out hb2); replace BK := am_ (kb_ BK.out hb2); replace HB := am_ (bt_ HB.out hb2); have HA := am_ h9; have HCA := am_ hc9; clear hv hb2 hc9 h9; (try clear u); have u := fun k => bc_ BK.out k) | (go_at_call 9; (with_reducible refine (C2.out _ _ _ _ _ _ _ HE.out HCE.out HR.out HCR.out HS.out HCS.out _ HL.out).mono ?_); rintro e w3 ⟨v, rfl, hv, hb2⟩; obtain ⟨A2, c2, rfl, hc9, h9⟩ := Kd.R_reads hv; replace HE := am_ (c4_ HE.out hb2); replace HR := am_ (c4_ HR.out hb2); replace HS := am_ (c4_ HS.out hb2); replace HL := am_ (c4_ HL.out hb2); replace HA := am_ (c4_ HA.out hb2); replace BK := am_ (kb_ BK.out hb2); replace HB := am_ (bt_ HB.out hb2); clear hv hb2 hc9 h9; (try clear u); have u := fun k => bc_ BK.out k) | (go_at_call 9; (with_reducible refine (C3.out _ _ _ _ _ _ _ HE.out HCE.out HR.out HCR.out HS.out HCS.out _ HL.out).mono ?_); rintro e w4 ⟨v, rfl, hv, hb2⟩; obtain ⟨AB, cB, rfl, hc9, h9⟩ := Kd.R_reads hv; replace HE := am_ (c4_ HE.out hb2); replace HR := am_ (c4_ HR.out hb2); replace HS := am_ (c4_ HS.out hb2); replace HL := am_ (c4_ HL.out hb2); replace HA := am_ (c4_ HA.out hb2); replace BK := am_ (kb_ BK.out hb2); replace HB := am_ (bt_ HB.out hb2); have HBr := am_ h9; have HCB := am_ hc9; clear hv hb2 hc9 h9; (try clear u); have u := fun k => bc_ BK.out k) | (go_at_call 9; (with_reducible refine (C4.out _ _ _ _ _ _ _ HE.out HCE.out HR.out HCR.out HS.out HCS.out _ _ HA.out HCA.out).mono ?_); rintro e w5 ⟨v, rfl, hv, hb2⟩; obtain ⟨AD, cD, rfl, hc9, h9⟩ := Kd.R_reads hv; replace HE := am_ (c4_ HE.out hb2); replace HR := am_ (c4_ HR.out hb2); replace HS := am_ (c4_ HS.out hb2); replace HA := am_ (c4_ HA.out hb2); replace HBr := am_ (c4_ HBr.out hb2); replace BK := am_ (kb_ BK.out hb2); replace HB := am_ (bt_ HB.out hb2); have HD := am_ h9; have HCD := am_ hc9; clear hv hb2 hc9 h9; (try clear u); have u := fun k => bc_ BK.out k) | (go_at_call 9; (with_reducible refine (C5.out _ _ _ _ _ _ _ HE.out HCE.out HR.out HCR.out HS.out HCS.out ).mono ?_); rintro e w6 ⟨v, rfl, hv, hb2⟩; obtain ⟨A5, c5, rfl, hc9, h9⟩ := Kd.R_reads hv; replace HE := am_ (c4_ HE.out hb2); replace HR := am_ (c4_ HR.out hb2); replace HS := am_ (c4_ HS.out hb2); replace HA := am_ (c4_ HA.out hb2); replace HBr := am_ (c4_ HBr.out hb2); replace HD := am_ (c4_ HD.out hb2); replace BK := am_ (kb_ BK.out hb2); replace HB := am_ (bt_ HB.out hb2); clear hv hb2 hc9 h9; (try clear u); have u := fun k => bc_ BK.out k) | (go_at_call 9; (with_reducible refine (C6.out _ _ _ _ _ _ _ HE.out HCE.out HR.out HCR.out HS.out HCS.out ).mono ?_); rintro e w7 ⟨v, rfl, hv, hb2⟩; obtain ⟨A6, c6, rfl, hc9, h9⟩ := Kd.R_reads hv; replace HE := am_ (c4_ HE.out hb2); replace HR := am_ (c4_ HR.out hb2); replace HS := am_ (c4_ HS.out hb2); replace HA := am_ (c4_ HA.out hb2); replace HBr := am_ (c4_ HBr.out hb2); replace HD := am_ (c4_ HD.out hb2); replace BK := am_ (kb_ BK.out hb2); replace HB := am_ (bt_ HB.out hb2); clear hv hb2 hc9 h9; (try clear u); have u := fun k => bc_ BK.out k) | (go_at_call 17; (with_reducible refine (CS1.out w7 _ _ HA.out HCA.out).mono ?_); rintro e w8 ⟨rfl, ⟨nd, rfl⟩⟩; replace HBr := am_ (c1_ HBr.out (.cells #[.int .i64 10, .int .i64 2, .string (⟨#[109, 101]⟩ : ByteArray), .int .i64 100, .string (⟨#[112, 99]⟩ : ByteArray), .bool true] 36)); replace HD := am_ (c1_ HD.out (.cells #[.int .i64 10, .int .i64 2, .string (⟨#[109, 101]⟩ : ByteArray), .int .i64 100, .string (⟨#[112, 99]⟩ : ByteArray), .bool true] 36)); replace HB := am_ (p3_ HB.out (.cells #[.int .i64 10, .int .i64 2, .string (⟨#[109, 101]⟩ : ByteArray), .int .i64 100, .string (⟨#[112, 99]⟩ : ByteArray), .bool true] 36)); obtain ⟨ad, e1, y0, y1, y2, y3, y4, y5⟩ := at_T36 HD.out 0 (by omega) (by rw [hlD]; decide); subst e1; rw [HD0.out] at y3 y4; dsimp only at y3 y4; rw [show ((0 : Int)).toNat = 0 from rfl, show 0 * 6 = 0 from rfl, (pinfoldlaw17_awake.add0 _)] at y3 y4; have Z3 := am_ (pinfoldlaw17_awake.stay y3); have Z4 := am_ (pinfoldlaw17_awake.stay y4); clear y0 y1 y2 y3 y4 y5; clear HA HE HR HS BK u) | (go_at_call 17; (with_reducible refine (CS2.out _ _ (pinfoldlaw17_awake.sz _ _ _) _ _ (by (with_reducible repeat (first | exact HBr.out | refine c2_ ?_ _ | refine c1_ ?_ _))) HCB.out).mono ?_); rintro e w8 ⟨rfl, ⟨nd2, rfl⟩⟩; have z3 := Z3.out; have z4 := Z4.out) | (go_at_call 10; (with_reducible refine (CN.out _ _).mono ?_); rintro e wn ⟨rfl, ⟨nd, rfl⟩⟩))
 go_ret
 exact ⟨rfl, by repeat (with_reducible first | exact HB.out | apply p3_ | apply p1_)⟩

end Go.Proofs.YtibalpbkmgegnaaDoor.PJ
