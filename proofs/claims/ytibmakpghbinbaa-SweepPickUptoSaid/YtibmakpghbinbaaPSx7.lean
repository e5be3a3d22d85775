-- Made by wip/pr.py out of the translation (a turned copy of the kit's print; contracts by hand where said).
import Derived.Test.YtibmakpghbinbaaPSx0
import Derived.Test.YtibmakpghbinbaaPSx2
import Derived.Test.YtibmakpghbinbaaPSx5
import Derived.Test.YtibmakpghbinbaaPSx6
namespace Go.Proofs.Ytibmakpghbinbaa.PS
open Go.RowKit Go.Proofs.YtibmakpghbinbaaW.PrintWords Go.Proofs.YtibmakpghbinbaaW.PrintLast Go.Proofs.YtibmakpghbinbaaW.PrintMore
-- shrunk
attribute [local go_sem] max2_int min2_int max_two min_two max_three min_three max_four min_four   -- for this text's walks alone
set_option linter.unusedVariables false
set_option linter.unusedSimpArgs false

/-! ### pinfoldref1_Labels: function 89 -/
def pinfoldref1_Labels.f (k : Nat) (a0 : ByteArray) : Option (List ByteArray) := if a0.toList = ([] : List UInt8) then (some ([] : List ByteArray)) else ((pinfoldref1_NameMay_c.f a0).bind fun t164 => (if t164 = true then ((pinfoldref1_parts.f k a0).bind fun t165 => (some t165)) else (some ([] : List ByteArray))))
theorem pinfoldref1_Labels.mono : ∀ a0 k, LeO (pinfoldref1_Labels.f k a0) (pinfoldref1_Labels.f (k + 1) a0) := by
 intro a0 k
 unfold pinfoldref1_Labels.f
 repeat' first
   | (with_reducible exact pinfoldref1_parts.mono _ _)
   | (with_reducible exact LeO.refl _)
   | (with_reducible exact LeO.none _)
   | (with_reducible refine LeO.ite ?_ ?_)
   | (with_reducible refine LeO.bind ?_ (fun _ => ?_))
   | exact pinfoldref1_parts.mono _ _
   | exact LeO.none _
   | refine LeO.ite ?_ ?_
   | refine LeO.bind ?_ (fun _ => ?_)
set_option maxHeartbeats 8000000 in
set_option maxRecDepth 100000 in
theorem pinfoldref1_Labels.calls (k : Nat) (a0 : ByteArray) (r : List ByteArray) (w : World) (h : pinfoldref1_Labels.f k a0 = some r) :
  Calls Try.prog 89 #[.string a0] w fun e w' => ∃ v0_ : Value, e = .returned (v0_) ∧ Kd.R Kd.string 9 w' w.heap.size (fun _ => True) v0_ r ∧ Below w.heap.size w w' := by
 have HB := am_ (Below.refl w.heap.size w)
 have H : (if a0.toList = ([] : List UInt8) then (some ([] : List ByteArray)) else ((pinfoldref1_NameMay_c.f a0).bind fun t164 => (if t164 = true then ((pinfoldref1_parts.f k a0).bind fun t165 => (some t165)) else (some ([] : List ByteArray))))) = some r := h
 clear h
 by_cases c2 : a0.toList = ([] : List UInt8)
 ·rw [if_pos c2] at H
  have c2b0 : (a0.toList == ([] : List UInt8)) = true := beq_iff_eq.mpr c2
  have c2b1 : (a0.toList != ([] : List UInt8)) = false := e1_ c2
  clear c2
  obtain rfl := e5_ H
  go_enter Try.func89, Try.ntmps89
  go_wp2
  go_ret
  exact ⟨_, by first | rfl | (simp [errW_none, errW_some] <;> rfl) | (simp [*, errW_none, errW_some] <;> rfl) | (simp only [str_ne_]; rfl) | (simp only [str_eq_]; rfl), by first | exact Kd.R_nil _ _ _ _ _ | exact Kd.N_nil _ _ _ _ _ | exact Kd.V_nil _ _ _ _ _ | exact Kd.Q_nil _ _ _ _ _ | exact Kd.S_nil _ _ _ _ _, by repeat (with_reducible first | exact HB.out | apply p3_ | apply p1_ | apply p2_)⟩
 rw [if_neg c2] at H
 have c2b0 : (a0.toList == ([] : List UInt8)) = false := e2_ c2
 have c2b1 : (a0.toList != ([] : List UInt8)) = true := bne_iff_ne.mpr c2
 replace H := e4_ H
 obtain ⟨t164, A30, H⟩ := H
 replace H : (if t164 = true then ((pinfoldref1_parts.f k a0).bind fun t165 => (some t165)) else (some ([] : List ByteArray))) = some r := H
 have A3 := am_ A30
 clear A30
 by_cases c4 : t164 = true
 ·subst c4
  have H1 : ((pinfoldref1_parts.f k a0).bind fun t165 => (some t165)) = some r := by rw [if_pos rfl] at H; exact H
  clear H
  have H := H1
  clear H1
  replace H := e4_ H
  obtain ⟨t165, A50, H⟩ := H
  replace H : (some t165) = some r := H
  have A5 := am_ A50
  clear A50
  obtain rfl := e5_ H
  go_enter Try.func89, Try.ntmps89
  go_wp2_with (first | (go_at_call 82; (with_reducible refine (pinfoldref1_NameMay_c.calls a0 true _ A3.out).mono ?_); rintro e w6 ⟨rfl, hb⟩; have n0_ := am_ (bt_ (by repeat (with_reducible first | exact HB.out | apply p3_ | apply p1_ | apply p2_)) hb); clear HB; have HB := n0_; clear n0_; (try clear hb)) | ((with_reducible refine gate_callee (f := 97) rfl ?_); refine goesL_ (some 11) rfl rfl Try.func97 (by kernel_rfl) rfl #[.string a0] rfl (by (try simp only [List.map_toArray, List.map_cons, List.map_nil]); first | done | rfl | (simp only [List.length_drop, List.length_take]; rfl)) ?_; (with_reducible refine (pinfoldref1_parts.calls k a0 t165 _ A5.out).mono ?_); rintro e w7 ⟨v166, rfl, ho0, hb⟩; refine ⟨_, rfl, ?_⟩; have n0_ := am_ (Kd.R_lower ho0 (bz_ (by repeat (with_reducible first | exact HB.out | apply p3_ | apply p1_ | apply p2_)))); have n1_ := am_ (bt_ (by repeat (with_reducible first | exact HB.out | apply p3_ | apply p1_ | apply p2_)) hb); clear HB; have HO167 := n0_; have HB := n1_; clear n0_ n1_; (try clear hb); (try clear ho0)))
  go_ret
  exact ⟨_, by first | rfl | (simp [errW_none, errW_some] <;> rfl) | (simp [*, errW_none, errW_some] <;> rfl) | (simp only [str_ne_]; rfl) | (simp only [str_eq_]; rfl), by (with_reducible repeat (first | apply r1_ | apply r2_ | apply r3_)); exact HO167.out, by repeat (with_reducible first | exact HB.out | apply p3_ | apply p1_ | apply p2_)⟩
 replace c4 := e3_ c4
 subst c4
 have H1 : (some ([] : List ByteArray)) = some r := by rw [if_neg (show ¬ (false = true) by decide)] at H; exact H
 clear H
 have H := H1
 clear H1
 obtain rfl := e5_ H
 go_enter Try.func89, Try.ntmps89
 go_wp2_with (first | (go_at_call 82; (with_reducible refine (pinfoldref1_NameMay_c.calls a0 false _ A3.out).mono ?_); rintro e w8 ⟨rfl, hb⟩; have n0_ := am_ (bt_ (by repeat (with_reducible first | exact HB.out | apply p3_ | apply p1_ | apply p2_)) hb); clear HB; have HB := n0_; clear n0_; (try clear hb)))
 go_ret
 exact ⟨_, by first | rfl | (simp [errW_none, errW_some] <;> rfl) | (simp [*, errW_none, errW_some] <;> rfl) | (simp only [str_ne_]; rfl) | (simp only [str_eq_]; rfl), by first | exact Kd.R_nil _ _ _ _ _ | exact Kd.N_nil _ _ _ _ _ | exact Kd.V_nil _ _ _ _ _ | exact Kd.Q_nil _ _ _ _ _ | exact Kd.S_nil _ _ _ _ _, by repeat (with_reducible first | exact HB.out | apply p3_ | apply p1_ | apply p2_)⟩

/-! ### pinfoldref1_Labels_c: function 89 -/
theorem reflabels_eq_ (s : ByteArray) (hs : s.size ≤ 8796093022000) : pinfoldref1_Labels.f (s.size + 2) s = some (labelsS s) := by
 unfold pinfoldref1_Labels.f pinfoldref1_NameMay_c.f labelsS
 rw [if_pos hs, Option.bind_some]
 by_cases q : s.toList = ([] : List UInt8)
 ·have hz := (toList_nil s).1 q
  rw [if_pos q, if_neg (by simp [hz])]
 ·have hz : s.size ≠ 0 := fun e => q ((toList_nil s).2 e)
  rw [if_neg q]
  cases h : nameB (bytesOf s) with
  | false => simp
  | true =>
   obtain ⟨r, h1, h2, _⟩ := parts_eq (s.size + 2) s hs (Nat.le_refl _)
   rw [if_pos rfl, h1, if_pos (by simp [hz]), of_map_bytes _ _ h2]
   rfl
def pinfoldref1_Labels_c.f (a0 : ByteArray) : Option (List ByteArray) := if a0.size ≤ 8796093022000 then some (labelsS a0) else none
theorem pinfoldref1_Labels_c.calls (a0 : ByteArray) (r : List ByteArray) (w : World) (h : pinfoldref1_Labels_c.f a0 = some r) :
  Calls Try.prog 89 #[.string a0] w fun e w' => ∃ v0_ : Value, e = .returned (v0_) ∧ Kd.R Kd.string 9 w' w.heap.size (fun _ => True) v0_ r ∧ Below w.heap.size w w' := by
 unfold pinfoldref1_Labels_c.f at h
 by_cases hs : a0.size ≤ 8796093022000
 ·rw [if_pos hs] at h
  exact pinfoldref1_Labels.calls _ a0 r w (by rw [reflabels_eq_ a0 hs]; exact h)
 ·rw [if_neg hs] at h
  cases h

/-! ### pinfoldref1_within: function 112 -/
def pinfoldref1_within.f (a0 : Int) (a1 : Int) : Option (Bool) := if a0 ≥ 0 then (if 0 ≤ a1 then (some (decide (a0 < (shl .i64 1 a1)))) else (none)) else (some false)
set_option maxHeartbeats 8000000 in
set_option maxRecDepth 100000 in
theorem pinfoldref1_within.calls (a0 : Int) (a1 : Int) (r : Bool) (w : World) (h : pinfoldref1_within.f a0 a1 = some r) :
  Calls Try.prog 112 #[.int .i64 a0, .int .i64 a1] w fun e w' => e = .returned (.bool r) ∧ Drawn0 w w' := by
 have H : (if a0 ≥ 0 then (if 0 ≤ a1 then (some (decide (a0 < (shl .i64 1 a1)))) else (none)) else (some false)) = some r := h
 clear h
 by_cases c3 : a0 ≥ 0
 ·rw [if_pos c3] at H
  have c3b0 : decide (0 ≤ a0) = true := decide_eq_true c3
  clear c3
  by_cases c4 : 0 ≤ a1
  rotate_left
  ·rw [if_neg c4] at H
   exact absurd H (by simp)
  rw [if_pos c4] at H
  have c4b0 := eq_true c4
  have c4b1 : decide (0 ≤ a1) = true := decide_eq_true c4
  clear c4
  obtain ⟨ji5, hji5⟩ : ∃ j_ : Int, (shl .i64 1 a1) = j_ := ⟨_, rfl⟩
  replace H : (some (decide (a0 < (ji5)))) = some r := by first | (rw [hji5] at H; exact H) | (simp only [hji5] at H ⊢; exact H)
  have hji5_ : (IntKind.i64.wrap (1 * 2 ^ min a1.toNat 64)) = ji5 := hji5
  have hji5z : a1 ≤ 64 → (IntKind.i64.wrap (1 * 2 ^ a1.toNat)) = ji5 := shl_small hji5
  have hji5u : (IntKind.i64.wrap (2 ^ min a1.toNat 64)) = ji5 := by have h_ := hji5_; rw [Int.one_mul] at h_; exact h_
  have hji5v : a1 ≤ 64 → (IntKind.i64.wrap (2 ^ a1.toNat)) = ji5 := fun hle_ => by have h_ := hji5z hle_; rw [Int.one_mul] at h_; exact h_
  have hji5y : (wrap64 (1 * 2 ^ min a1.toNat 64)) = ji5 := (i64_w _).symm.trans hji5_
  have hji5x : a1 ≤ 64 → (wrap64 (1 * 2 ^ a1.toNat)) = ji5 := fun h_ => (i64_w _).symm.trans (hji5z h_)
  obtain rfl := e5_ H
  go_enter Try.func112, Try.ntmps112
  go_wp2
  go_ret
  exact ⟨by first | rfl | (simp; done) | (simp only [← hji5] <;> (first | rfl | simp)) | (simp [*]; done), by repeat (first | exact Drawn0.refl _ | apply Drawn0.step)⟩
 rw [if_neg c3] at H
 have c3b0 : decide (0 ≤ a0) = false := decide_eq_false c3
 clear c3
 obtain rfl := e5_ H
 go_enter Try.func112, Try.ntmps112
 go_wp2
 go_ret
 exact ⟨by first | rfl | (simp; done) | (simp [*]; done), by repeat (first | exact Drawn0.refl _ | apply Drawn0.step)⟩

/-! ### pinfoldref1_within_c: function 112 -/
def pinfoldref1_within_c.f (a0 : Int) (a1 : Int) : Option Bool := if a1 = 32 then some (wordB a0) else none
theorem pinfoldref1_within_c.calls (a0 : Int) (a1 : Int) (r : Bool) (w : World) (h : pinfoldref1_within_c.f a0 a1 = some r) :
  Calls Try.prog 112 #[.int .i64 a0, .int .i64 a1] w fun e w' => e = .returned (.bool r) ∧ Drawn0 w w' := by
 unfold pinfoldref1_within_c.f at h
 by_cases hs : a1 = 32
 ·subst hs
  rw [if_pos rfl] at h
  refine pinfoldref1_within.calls a0 32 r w ?_
  rw [← h]
  unfold pinfoldref1_within.f wordB
  have e : shl .i64 1 32 = 4294967296 := by kernel_rfl
  rw [e]
  by_cases q : a0 ≥ 0
  ·rw [if_pos q, if_pos (by decide)]
   congr 1
   rw [Bool.eq_iff_iff, decide_eq_true_eq, decide_eq_true_eq]
   omega
  ·rw [if_neg q]
   congr 1
   symm
   rw [decide_eq_false_iff_not]
   omega
 ·rw [if_neg hs] at h
  cases h

/-! ### pinfoldref1_RrMay: function 103 -/
-- BY HAND
def pinfoldref1_RrMay.f (a0_0 : ByteArray) (a0_1 : Int) (a0_2 : Int) (a0_3 : Int) (a0_4 : ByteArray) (a0_5 : ByteArray) (a0_6 : Int) : Option Bool := if a0_0.size ≤ 8796093022000 ∧ a0_4.size ≤ 8796093022000 then some (rrB a0_0 a0_1 a0_2 a0_3 a0_4 a0_5 a0_6) else none
set_option maxHeartbeats 8000000 in
set_option maxRecDepth 100000 in
theorem pinfoldref1_RrMay.calls (a0_0 : ByteArray) (a0_1 : Int) (a0_2 : Int) (a0_3 : Int) (a0_4 : ByteArray) (a0_5 : ByteArray) (a0_6 : Int) (r : Bool) (w : World) (h : pinfoldref1_RrMay.f a0_0 a0_1 a0_2 a0_3 a0_4 a0_5 a0_6 = some r) :
  Calls Try.prog 103 #[.agg #[.string a0_0, .int .i64 a0_1, .int .i64 a0_2, .int .i64 a0_3, .string a0_4, .string a0_5, .int .i64 a0_6]] w fun e w' => e = .returned (.bool r) ∧ Below w.heap.size w w' := by
 unfold pinfoldref1_RrMay.f at h
 by_cases hs : a0_0.size ≤ 8796093022000 ∧ a0_4.size ≤ 8796093022000
 rotate_left
 ·rw [if_neg hs] at h
  cases h
 rw [if_pos hs] at h
 have HR := am_ (e5_ h)
 obtain ⟨n0, h0⟩ : ∃ b, nameB (bytesOf a0_0) = b := ⟨_, rfl⟩
 obtain ⟨n4, h4⟩ : ∃ b, nameB (bytesOf a0_4) = b := ⟨_, rfl⟩
 have C0 := am_ (fun W => pinfoldref1_NameMay_c.calls a0_0 n0 W (by unfold pinfoldref1_NameMay_c.f; rw [if_pos hs.1, h0]))
 have C4 := am_ (fun W => pinfoldref1_NameMay_c.calls a0_4 n4 W (by unfold pinfoldref1_NameMay_c.f; rw [if_pos hs.2, h4]))
 have Cw := am_ (fun x W => pinfoldref1_within_c.calls x 32 (wordB x) W rfl)
 have H0 := am_ h0
 have H4 := am_ h4
 clear h hs h0 h4
 have T4 := am_ (show a0_4.toList = [] → n4 = true from fun e => by rw [← H4.out, show bytesOf a0_4 = [] from List.length_eq_zero_iff.1 (by rw [bytesOf_length]; exact (toList_nil _).1 e)]; rfl)
 have T5 := am_ (show a0_5.toList = [] → a0_5.size = 0 from fun e => (toList_nil _).1 e)
 have HB := am_ (Below.refl w.heap.size w)
 go_enter Try.func103, Try.ntmps103
 go_wp2_with (first
  | (go_at_call 82; first | ((with_reducible refine (C0.out _).mono ?_); rintro e w1 ⟨rfl, hb1⟩; have hy1 : w.heap.size < w1.heap.size := (by have := hb1.size; simp at this; omega); have hk1 := kept_ hb1 w.heap.size (by first | (simp; done) | (simp; omega)); replace HB := am_ (bt_ (show Below w.heap.size w _ by repeat (with_reducible first | exact HB.out | apply p3_ | apply p1_ | apply p2_ | refine Below.setCell ?_ (by simp) _)) hb1); clear hb1) | ((with_reducible refine (C4.out _).mono ?_); rintro e w2 ⟨rfl, hb2⟩; have hy2 : w.heap.size < w2.heap.size := (by have := hb2.size; simp at this; omega); have hk2 := kept_ hb2 w.heap.size (by first | (simp; done) | (simp; omega)); replace HB := am_ (bt_ (show Below w.heap.size w _ by repeat (with_reducible first | exact HB.out | apply p3_ | apply p1_ | apply p2_ | refine Below.setCell ?_ (by simp) _)) hb2); clear hb2))
  | (go_at_call 112; (with_reducible refine (Cw.out _ _).mono ?_); rintro e w3 ⟨rfl, ⟨nd, rfl⟩⟩))
 all_goals go_ret
 all_goals refine ⟨ret_bool ?_, ?_⟩
 all_goals first
  | ((repeat (with_reducible first | exact HB.out | apply p3_ | apply p1_ | apply p2_ | refine Below.setCell ?_ (by simp) _)); done)
  | (have e0 := H0.out; have e4 := H4.out; have t4 := T4.out; have t5 := T5.out; have w0 : wordB 0 = true := rfl; rw [← HR.out]; simp only [rrB, e0, e4]; clear HR C0 C4 Cw H0 H4; simp_all <;> omega)

/-! ### pinfoldref1_Under: function 104 -/
def pinfoldref1_Under.f (a0 : ByteArray) (a1 : ByteArray) : Option (Bool) := (pinfoldref1_NameMay_c.f a0).bind fun t168 => (if t168 = true then ((pinfoldref1_NameMay_c.f a1).bind fun t169 => (if t169 = true then (if a1.toList = ([] : List UInt8) then (some true) else (if a0.toList = a1.toList then (some true) else (if (wrap64 ((a0.size : Int) - (a1.size : Int))) > 1 then (if 0 ≤ (wrap64 ((a0.size : Int) - (a1.size : Int))) then (if (wrap64 ((a0.size : Int) - (a1.size : Int))) ≤ (a0.size : Int) then (if (a0.extract ((wrap64 ((a0.size : Int) - (a1.size : Int))) : Int).toNat a0.size).toList = a1.toList then (if 0 ≤ (wrap64 ((wrap64 ((a0.size : Int) - (a1.size : Int))) - 1)) then (if (wrap64 ((wrap64 ((a0.size : Int) - (a1.size : Int))) - 1)) < (a0.size : Int) then (some ((bt a0 (wrap64 ((wrap64 ((a0.size : Int) - (a1.size : Int))) - 1))) == 46)) else (none)) else (none)) else (some false)) else (none)) else (none)) else (some false)))) else (some false))) else (some false))
set_option maxHeartbeats 8000000 in
set_option maxRecDepth 100000 in
theorem pinfoldref1_Under.calls (a0 : ByteArray) (a1 : ByteArray) (r : Bool) (w : World) (h : pinfoldref1_Under.f a0 a1 = some r) :
  Calls Try.prog 104 #[.string a0, .string a1] w fun e w' => e = .returned (.bool r) ∧ Below w.heap.size w w' := by
 have HB := am_ (Below.refl w.heap.size w)
 have H : ((pinfoldref1_NameMay_c.f a0).bind fun t168 => (if t168 = true then ((pinfoldref1_NameMay_c.f a1).bind fun t169 => (if t169 = true then (if a1.toList = ([] : List UInt8) then (some true) else (if a0.toList = a1.toList then (some true) else (if (wrap64 ((a0.size : Int) - (a1.size : Int))) > 1 then (if 0 ≤ (wrap64 ((a0.size : Int) - (a1.size : Int))) then (if (wrap64 ((a0.size : Int) - (a1.size : Int))) ≤ (a0.size : Int) then (if (a0.extract ((wrap64 ((a0.size : Int) - (a1.size : Int))) : Int).toNat a0.size).toList = a1.toList then (if 0 ≤ (wrap64 ((wrap64 ((a0.size : Int) - (a1.size : Int))) - 1)) then (if (wrap64 ((wrap64 ((a0.size : Int) - (a1.size : Int))) - 1)) < (a0.size : Int) then (some ((bt a0 (wrap64 ((wrap64 ((a0.size : Int) - (a1.size : Int))) - 1))) == 46)) else (none)) else (none)) else (some false)) else (none)) else (none)) else (some false)))) else (some false))) else (some false))) = some r := h
 clear h
 replace H := e4_ H
 obtain ⟨t168, A30, H⟩ := H
 replace H : (if t168 = true then ((pinfoldref1_NameMay_c.f a1).bind fun t169 => (if t169 = true then (if a1.toList = ([] : List UInt8) then (some true) else (if a0.toList = a1.toList then (some true) else (if (wrap64 ((a0.size : Int) - (a1.size : Int))) > 1 then (if 0 ≤ (wrap64 ((a0.size : Int) - (a1.size : Int))) then (if (wrap64 ((a0.size : Int) - (a1.size : Int))) ≤ (a0.size : Int) then (if (a0.extract ((wrap64 ((a0.size : Int) - (a1.size : Int))) : Int).toNat a0.size).toList = a1.toList then (if 0 ≤ (wrap64 ((wrap64 ((a0.size : Int) - (a1.size : Int))) - 1)) then (if (wrap64 ((wrap64 ((a0.size : Int) - (a1.size : Int))) - 1)) < (a0.size : Int) then (some ((bt a0 (wrap64 ((wrap64 ((a0.size : Int) - (a1.size : Int))) - 1))) == 46)) else (none)) else (none)) else (some false)) else (none)) else (none)) else (some false)))) else (some false))) else (some false)) = some r := H
 have A3 := am_ A30
 clear A30
 by_cases c4 : t168 = true
 ·subst c4
  have H1 : ((pinfoldref1_NameMay_c.f a1).bind fun t169 => (if t169 = true then (if a1.toList = ([] : List UInt8) then (some true) else (if a0.toList = a1.toList then (some true) else (if (wrap64 ((a0.size : Int) - (a1.size : Int))) > 1 then (if 0 ≤ (wrap64 ((a0.size : Int) - (a1.size : Int))) then (if (wrap64 ((a0.size : Int) - (a1.size : Int))) ≤ (a0.size : Int) then (if (a0.extract ((wrap64 ((a0.size : Int) - (a1.size : Int))) : Int).toNat a0.size).toList = a1.toList then (if 0 ≤ (wrap64 ((wrap64 ((a0.size : Int) - (a1.size : Int))) - 1)) then (if (wrap64 ((wrap64 ((a0.size : Int) - (a1.size : Int))) - 1)) < (a0.size : Int) then (some ((bt a0 (wrap64 ((wrap64 ((a0.size : Int) - (a1.size : Int))) - 1))) == 46)) else (none)) else (none)) else (some false)) else (none)) else (none)) else (some false)))) else (some false))) = some r := by rw [if_pos rfl] at H; exact H
  clear H
  have H := H1
  clear H1
  replace H := e4_ H
  obtain ⟨t169, A50, H⟩ := H
  replace H : (if t169 = true then (if a1.toList = ([] : List UInt8) then (some true) else (if a0.toList = a1.toList then (some true) else (if (wrap64 ((a0.size : Int) - (a1.size : Int))) > 1 then (if 0 ≤ (wrap64 ((a0.size : Int) - (a1.size : Int))) then (if (wrap64 ((a0.size : Int) - (a1.size : Int))) ≤ (a0.size : Int) then (if (a0.extract ((wrap64 ((a0.size : Int) - (a1.size : Int))) : Int).toNat a0.size).toList = a1.toList then (if 0 ≤ (wrap64 ((wrap64 ((a0.size : Int) - (a1.size : Int))) - 1)) then (if (wrap64 ((wrap64 ((a0.size : Int) - (a1.size : Int))) - 1)) < (a0.size : Int) then (some ((bt a0 (wrap64 ((wrap64 ((a0.size : Int) - (a1.size : Int))) - 1))) == 46)) else (none)) else (none)) else (some false)) else (none)) else (none)) else (some false)))) else (some false)) = some r := H
  have A5 := am_ A50
  clear A50
  by_cases c6 : t169 = true
  ·subst c6
   have H1 : (if a1.toList = ([] : List UInt8) then (some true) else (if a0.toList = a1.toList then (some true) else (if (wrap64 ((a0.size : Int) - (a1.size : Int))) > 1 then (if 0 ≤ (wrap64 ((a0.size : Int) - (a1.size : Int))) then (if (wrap64 ((a0.size : Int) - (a1.size : Int))) ≤ (a0.size : Int) then (if (a0.extract ((wrap64 ((a0.size : Int) - (a1.size : Int))) : Int).toNat a0.size).toList = a1.toList then (if 0 ≤ (wrap64 ((wrap64 ((a0.size : Int) - (a1.size : Int))) - 1)) then (if (wrap64 ((wrap64 ((a0.size : Int) - (a1.size : Int))) - 1)) < (a0.size : Int) then (some ((bt a0 (wrap64 ((wrap64 ((a0.size : Int) - (a1.size : Int))) - 1))) == 46)) else (none)) else (none)) else (some false)) else (none)) else (none)) else (some false)))) = some r := by rw [if_pos rfl] at H; exact H
   clear H
   have H := H1
   clear H1
   by_cases c7 : a1.toList = ([] : List UInt8)
   ·rw [if_pos c7] at H
    have c7b0 : (a1.toList == ([] : List UInt8)) = true := beq_iff_eq.mpr c7
    have c7b1 : (a1.toList != ([] : List UInt8)) = false := e1_ c7
    clear c7
    obtain rfl := e5_ H
    go_enter Try.func104, Try.ntmps104
    go_wp2_with (first | ((with_reducible refine gate_callee (f := 82) rfl ?_); refine goesL_ (some 7) rfl rfl Try.func82 (by kernel_rfl) rfl #[.string a0] rfl (by (try simp only [List.map_toArray, List.map_cons, List.map_nil]); first | done | rfl | (simp only [List.length_drop, List.length_take]; rfl)) ?_; (with_reducible refine (pinfoldref1_NameMay_c.calls a0 true _ A3.out).mono ?_); rintro e w8 ⟨rfl, hb⟩; refine ⟨_, rfl, ?_⟩; have n0_ := am_ (bt_ (by repeat (with_reducible first | exact HB.out | apply p3_ | apply p1_ | apply p2_)) hb); clear HB; have HB := n0_; clear n0_; (try clear hb)) | (go_at_call 82; (with_reducible refine (pinfoldref1_NameMay_c.calls a1 true _ A5.out).mono ?_); rintro e w9 ⟨rfl, hb⟩; have n0_ := am_ (bt_ (by repeat (with_reducible first | exact HB.out | apply p3_ | apply p1_ | apply p2_)) hb); clear HB; have HB := n0_; clear n0_; (try clear hb)))
    go_ret
    exact ⟨by first | rfl | (simp [errW_none, errW_some] <;> rfl) | (simp [*, errW_none, errW_some] <;> rfl) | (simp only [str_ne_]; rfl) | (simp only [str_eq_]; rfl), by repeat (with_reducible first | exact HB.out | apply p3_ | apply p1_ | apply p2_)⟩
   rw [if_neg c7] at H
   have c7b0 : (a1.toList == ([] : List UInt8)) = false := e2_ c7
   have c7b1 : (a1.toList != ([] : List UInt8)) = true := bne_iff_ne.mpr c7
   by_cases c10 : a0.toList = a1.toList
   ·rw [if_pos c10] at H
    have c10b0 : (a0.toList == a1.toList) = true := beq_iff_eq.mpr c10
    have c10b1 : (a0.toList != a1.toList) = false := e1_ c10
    clear c10
    obtain rfl := e5_ H
    go_enter Try.func104, Try.ntmps104
    go_wp2_with (first | ((with_reducible refine gate_callee (f := 82) rfl ?_); refine goesL_ (some 7) rfl rfl Try.func82 (by kernel_rfl) rfl #[.string a0] rfl (by (try simp only [List.map_toArray, List.map_cons, List.map_nil]); first | done | rfl | (simp only [List.length_drop, List.length_take]; rfl)) ?_; (with_reducible refine (pinfoldref1_NameMay_c.calls a0 true _ A3.out).mono ?_); rintro e w11 ⟨rfl, hb⟩; refine ⟨_, rfl, ?_⟩; have n0_ := am_ (bt_ (by repeat (with_reducible first | exact HB.out | apply p3_ | apply p1_ | apply p2_)) hb); clear HB; have HB := n0_; clear n0_; (try clear hb)) | (go_at_call 82; (with_reducible refine (pinfoldref1_NameMay_c.calls a1 true _ A5.out).mono ?_); rintro e w12 ⟨rfl, hb⟩; have n0_ := am_ (bt_ (by repeat (with_reducible first | exact HB.out | apply p3_ | apply p1_ | apply p2_)) hb); clear HB; have HB := n0_; clear n0_; (try clear hb)))
    go_ret
    exact ⟨by first | rfl | (simp [errW_none, errW_some] <;> rfl) | (simp [*, errW_none, errW_some] <;> rfl) | (simp only [str_ne_]; rfl) | (simp only [str_eq_]; rfl), by repeat (with_reducible first | exact HB.out | apply p3_ | apply p1_ | apply p2_)⟩
   rw [if_neg c10] at H
   have c10b0 : (a0.toList == a1.toList) = false := e2_ c10
   have c10b1 : (a0.toList != a1.toList) = true := bne_iff_ne.mpr c10
   by_cases c13 : (wrap64 ((a0.size : Int) - (a1.size : Int))) > 1
   ·rw [if_pos c13] at H
    have c13b0 : decide (1 < (wrap64 ((a0.size : Int) - (a1.size : Int)))) = true := decide_eq_true c13
    clear c13
    obtain ⟨ji14, hji14⟩ : ∃ j_ : Int, (wrap64 ((a0.size : Int) - (a1.size : Int))) = j_ := ⟨_, rfl⟩
    replace H : (if 0 ≤ (ji14) then (if (ji14) ≤ (a0.size : Int) then (if (a0.extract ((ji14) : Int).toNat a0.size).toList = a1.toList then (if 0 ≤ (wrap64 ((ji14) - 1)) then (if (wrap64 ((ji14) - 1)) < (a0.size : Int) then (some ((bt a0 (wrap64 ((ji14) - 1))) == 46)) else (none)) else (none)) else (some false)) else (none)) else (none)) = some r := by first | (rw [hji14] at H; exact H) | (simp only [hji14] at H ⊢; exact H)
    (try rw [hji14] at c13b0)
    (try rw [hji14] at A3)
    (try rw [hji14] at A5)
    have hji14w : (IntKind.i64.wrap ((a0.size : Int) - (a1.size : Int))) = ji14 := (i64_w _).trans hji14
    by_cases c15 : 0 ≤ (ji14)
    rotate_left
    ·rw [if_neg c15] at H
     exact absurd H (by simp)
    rw [if_pos c15] at H
    have c15b0 := eq_true c15
    have c15b1 : decide (0 ≤ (ji14)) = true := decide_eq_true c15
    clear c15
    by_cases c16 : (ji14) ≤ (a0.size : Int)
    rotate_left
    ·rw [if_neg c16] at H
     exact absurd H (by simp)
    rw [if_pos c16] at H
    have c16b0 := eq_true c16
    have c16b1 : decide ((ji14) ≤ (a0.size : Int)) = true := decide_eq_true c16
    clear c16
    by_cases c17 : (a0.extract ((ji14) : Int).toNat a0.size).toList = a1.toList
    ·rw [if_pos c17] at H
     have c17b0 : ((a0.extract ((ji14) : Int).toNat a0.size).toList == a1.toList) = true := beq_iff_eq.mpr c17
     have c17b1 : ((a0.extract ((ji14) : Int).toNat a0.size).toList != a1.toList) = false := e1_ c17
     clear c17
     obtain ⟨ji18, hji18⟩ : ∃ j_ : Int, (wrap64 ((ji14) - 1)) = j_ := ⟨_, rfl⟩
     replace H : (if 0 ≤ (ji18) then (if (ji18) < (a0.size : Int) then (some ((bt a0 (ji18)) == 46)) else (none)) else (none)) = some r := by first | (rw [hji18] at H; exact H) | (simp only [hji18] at H ⊢; exact H)
     (try rw [hji18] at A3)
     (try rw [hji18] at A5)
     have hji18w : (IntKind.i64.wrap ((ji14) - 1)) = ji18 := (i64_w _).trans hji18
     by_cases c19 : 0 ≤ (ji18)
     rotate_left
     ·rw [if_neg c19] at H
      exact absurd H (by simp)
     rw [if_pos c19] at H
     have c19b0 : decide (0 ≤ (ji18)) = true := decide_eq_true c19
     clear c19
     by_cases c20 : (ji18) < (a0.size : Int)
     rotate_left
     ·rw [if_neg c20] at H
      exact absurd H (by simp)
     rw [if_pos c20] at H
     have c20b0 : decide ((ji18) < (a0.size : Int)) = true := decide_eq_true c20
     clear c20
     obtain rfl := e5_ H
     go_enter Try.func104, Try.ntmps104
     go_wp2_with (first | ((with_reducible refine gate_callee (f := 82) rfl ?_); refine goesL_ (some 7) rfl rfl Try.func82 (by kernel_rfl) rfl #[.string a0] rfl (by (try simp only [List.map_toArray, List.map_cons, List.map_nil]); first | done | rfl | (simp only [List.length_drop, List.length_take]; rfl)) ?_; (with_reducible refine (pinfoldref1_NameMay_c.calls a0 true _ A3.out).mono ?_); rintro e w22 ⟨rfl, hb⟩; refine ⟨_, rfl, ?_⟩; have n0_ := am_ (bt_ (by repeat (with_reducible first | exact HB.out | apply p3_ | apply p1_ | apply p2_)) hb); clear HB; have HB := n0_; clear n0_; (try clear hb)) | (go_at_call 82; (with_reducible refine (pinfoldref1_NameMay_c.calls a1 true _ A5.out).mono ?_); rintro e w23 ⟨rfl, hb⟩; have n0_ := am_ (bt_ (by repeat (with_reducible first | exact HB.out | apply p3_ | apply p1_ | apply p2_)) hb); clear HB; have HB := n0_; clear n0_; (try clear hb); have p21 : 0 ≤ ((ji18) : Int) := of_decide_eq_true (by first | (with_reducible assumption) | assumption); have q21 : (ji18) < (a0.size : Int) := of_decide_eq_true (by first | (with_reducible assumption) | assumption); have hx21 := bt_at a0 (ji18); replace p21 := eq_true p21; replace q21 := eq_true q21))
     go_ret
     exact ⟨by first | rfl | (simp [errW_none, errW_some] <;> rfl) | (simp only [← hji14, ← hji18]; first | rfl | (simp [errW_none, errW_some] <;> rfl)) | (simp [*, errW_none, errW_some] <;> rfl) | (simp only [str_ne_]; rfl) | (simp only [str_eq_]; rfl), by repeat (with_reducible first | exact HB.out | apply p3_ | apply p1_ | apply p2_)⟩
    rw [if_neg c17] at H
    have c17b0 : ((a0.extract ((ji14) : Int).toNat a0.size).toList == a1.toList) = false := e2_ c17
    have c17b1 : ((a0.extract ((ji14) : Int).toNat a0.size).toList != a1.toList) = true := bne_iff_ne.mpr c17
    obtain rfl := e5_ H
    go_enter Try.func104, Try.ntmps104
    go_wp2_with (first | ((with_reducible refine gate_callee (f := 82) rfl ?_); refine goesL_ (some 7) rfl rfl Try.func82 (by kernel_rfl) rfl #[.string a0] rfl (by (try simp only [List.map_toArray, List.map_cons, List.map_nil]); first | done | rfl | (simp only [List.length_drop, List.length_take]; rfl)) ?_; (with_reducible refine (pinfoldref1_NameMay_c.calls a0 true _ A3.out).mono ?_); rintro e w24 ⟨rfl, hb⟩; refine ⟨_, rfl, ?_⟩; have n0_ := am_ (bt_ (by repeat (with_reducible first | exact HB.out | apply p3_ | apply p1_ | apply p2_)) hb); clear HB; have HB := n0_; clear n0_; (try clear hb)) | (go_at_call 82; (with_reducible refine (pinfoldref1_NameMay_c.calls a1 true _ A5.out).mono ?_); rintro e w25 ⟨rfl, hb⟩; have n0_ := am_ (bt_ (by repeat (with_reducible first | exact HB.out | apply p3_ | apply p1_ | apply p2_)) hb); clear HB; have HB := n0_; clear n0_; (try clear hb)))
    go_ret
    exact ⟨by first | rfl | (simp [errW_none, errW_some] <;> rfl) | (simp only [← hji14]; first | rfl | (simp [errW_none, errW_some] <;> rfl)) | (simp [*, errW_none, errW_some] <;> rfl) | (simp only [str_ne_]; rfl) | (simp only [str_eq_]; rfl), by repeat (with_reducible first | exact HB.out | apply p3_ | apply p1_ | apply p2_)⟩
   rw [if_neg c13] at H
   have c13b0 : decide (1 < (wrap64 ((a0.size : Int) - (a1.size : Int)))) = false := decide_eq_false c13
   clear c13
   obtain rfl := e5_ H
   go_enter Try.func104, Try.ntmps104
   go_wp2_with (first | ((with_reducible refine gate_callee (f := 82) rfl ?_); refine goesL_ (some 7) rfl rfl Try.func82 (by kernel_rfl) rfl #[.string a0] rfl (by (try simp only [List.map_toArray, List.map_cons, List.map_nil]); first | done | rfl | (simp only [List.length_drop, List.length_take]; rfl)) ?_; (with_reducible refine (pinfoldref1_NameMay_c.calls a0 true _ A3.out).mono ?_); rintro e w26 ⟨rfl, hb⟩; refine ⟨_, rfl, ?_⟩; have n0_ := am_ (bt_ (by repeat (with_reducible first | exact HB.out | apply p3_ | apply p1_ | apply p2_)) hb); clear HB; have HB := n0_; clear n0_; (try clear hb)) | (go_at_call 82; (with_reducible refine (pinfoldref1_NameMay_c.calls a1 true _ A5.out).mono ?_); rintro e w27 ⟨rfl, hb⟩; have n0_ := am_ (bt_ (by repeat (with_reducible first | exact HB.out | apply p3_ | apply p1_ | apply p2_)) hb); clear HB; have HB := n0_; clear n0_; (try clear hb)))
   go_ret
   exact ⟨by first | rfl | (simp [errW_none, errW_some] <;> rfl) | (simp [*, errW_none, errW_some] <;> rfl) | (simp only [str_ne_]; rfl) | (simp only [str_eq_]; rfl), by repeat (with_reducible first | exact HB.out | apply p3_ | apply p1_ | apply p2_)⟩
  replace c6 := e3_ c6
  subst c6
  have H1 : (some false) = some r := by rw [if_neg (show ¬ (false = true) by decide)] at H; exact H
  clear H
  have H := H1
  clear H1
  obtain rfl := e5_ H
  go_enter Try.func104, Try.ntmps104
  go_wp2_with (first | ((with_reducible refine gate_callee (f := 82) rfl ?_); refine goesL_ (some 7) rfl rfl Try.func82 (by kernel_rfl) rfl #[.string a0] rfl (by (try simp only [List.map_toArray, List.map_cons, List.map_nil]); first | done | rfl | (simp only [List.length_drop, List.length_take]; rfl)) ?_; (with_reducible refine (pinfoldref1_NameMay_c.calls a0 true _ A3.out).mono ?_); rintro e w28 ⟨rfl, hb⟩; refine ⟨_, rfl, ?_⟩; have n0_ := am_ (bt_ (by repeat (with_reducible first | exact HB.out | apply p3_ | apply p1_ | apply p2_)) hb); clear HB; have HB := n0_; clear n0_; (try clear hb)) | (go_at_call 82; (with_reducible refine (pinfoldref1_NameMay_c.calls a1 false _ A5.out).mono ?_); rintro e w29 ⟨rfl, hb⟩; have n0_ := am_ (bt_ (by repeat (with_reducible first | exact HB.out | apply p3_ | apply p1_ | apply p2_)) hb); clear HB; have HB := n0_; clear n0_; (try clear hb)))
  go_ret
  exact ⟨by first | rfl | (simp [errW_none, errW_some] <;> rfl) | (simp [*, errW_none, errW_some] <;> rfl) | (simp only [str_ne_]; rfl) | (simp only [str_eq_]; rfl), by repeat (with_reducible first | exact HB.out | apply p3_ | apply p1_ | apply p2_)⟩
 replace c4 := e3_ c4
 subst c4
 have H1 : (some false) = some r := by rw [if_neg (show ¬ (false = true) by decide)] at H; exact H
 clear H
 have H := H1
 clear H1
 obtain rfl := e5_ H
 go_enter Try.func104, Try.ntmps104
 go_wp2_with (first | ((with_reducible refine gate_callee (f := 82) rfl ?_); refine goesL_ (some 7) rfl rfl Try.func82 (by kernel_rfl) rfl #[.string a0] rfl (by (try simp only [List.map_toArray, List.map_cons, List.map_nil]); first | done | rfl | (simp only [List.length_drop, List.length_take]; rfl)) ?_; (with_reducible refine (pinfoldref1_NameMay_c.calls a0 false _ A3.out).mono ?_); rintro e w30 ⟨rfl, hb⟩; refine ⟨_, rfl, ?_⟩; have n0_ := am_ (bt_ (by repeat (with_reducible first | exact HB.out | apply p3_ | apply p1_ | apply p2_)) hb); clear HB; have HB := n0_; clear n0_; (try clear hb)))
 go_ret
 exact ⟨by first | rfl | (simp [errW_none, errW_some] <;> rfl) | (simp [*, errW_none, errW_some] <;> rfl) | (simp only [str_ne_]; rfl) | (simp only [str_eq_]; rfl), by repeat (with_reducible first | exact HB.out | apply p3_ | apply p1_ | apply p2_)⟩

/-! ### pinfoldref1_Under_c: function 104 -/
theorem name_point (z : List Int) : nameB (46 :: z) = false := by
 unfold nameB
 rw [cutL_point, List.all_cons, decide_eq_false (by simp)]
 rfl
/-- what the document says of a name under a zone. -/
theorem refunder_eq_ (s z : ByteArray) (hs : s.size ≤ 8796093022000) (hz : z.size ≤ 8796093022000) : pinfoldref1_Under.f s z = some (underB (bytesOf s) (bytesOf z)) := by
 unfold pinfoldref1_Under.f underB
 unfold pinfoldref1_NameMay_c.f
 rw [if_pos hs, if_pos hz]
 simp only [Option.bind_some]
 cases hns : nameB (bytesOf s) with
 | false => rfl
 | true =>
  cases nameB (bytesOf z) with
  | false => rfl
  | true =>
   simp only [if_true, Bool.and_self, Bool.true_and]
   by_cases q1 : z.size = 0
   ·have hn : bytesOf z = [] := List.length_eq_zero_iff.1 (by rw [bytesOf_length]; omega)
    rw [if_pos ((toList_nil z).2 q1), decide_eq_true (show isU (bytesOf s) (bytesOf z) from .inl hn)]
   ·have hn : bytesOf z ≠ [] := fun e => q1 (by rw [← bytesOf_length, e]; rfl)
    rw [if_neg (fun e => q1 ((toList_nil z).1 e))]
    by_cases q2 : bytesOf s = bytesOf z
    ·rw [if_pos ((toList_iff s z).2 q2), decide_eq_true (show isU (bytesOf s) (bytesOf z) from .inr (.inl q2))]
    ·rw [if_neg (fun e => q2 ((toList_iff s z).1 e)), w64 (show -9223372036854775808 ≤ (s.size : Int) - (z.size : Int) ∧ (s.size : Int) - (z.size : Int) ≤ 9223372036854775807 by omega)]
     have hu : isU (bytesOf s) (bytesOf z) ↔ (46 :: bytesOf z) <:+ bytesOf s := by
      unfold isU
      constructor
      ·rintro (h | h | h)
       ·exact absurd h hn
       ·exact absurd h q2
       ·exact h
      ·exact fun h => .inr (.inr h)
     by_cases hd : (s.size : Int) - (z.size : Int) > 1
     ·obtain ⟨d, hd2⟩ : ∃ d : Nat, s.size = z.size + (d + 1) := ⟨s.size - z.size - 1, by omega⟩
      have e1 : (s.size : Int) - (z.size : Int) = ((d + 1 : Nat) : Int) := by omega
      rw [if_pos hd, e1, if_pos (by omega), if_pos (by omega), Int.toNat_natCast, w64 (by omega), show ((d + 1 : Nat) : Int) - 1 = (d : Int) by omega]
      have e2 : (bytesOf s).drop d = bt s d :: (bytesOf s).drop (d + 1) := drop_cons s d (by omega)
      have e3 : bytesOf (s.extract (d + 1) s.size) = (bytesOf s).drop (d + 1) := by
       rw [bytesOf_extract, List.take_of_length_le (by rw [List.length_drop, bytesOf_length]; omega)]
      have hiff : isU (bytesOf s) (bytesOf z) ↔ bt s d = 46 ∧ (bytesOf s).drop (d + 1) = bytesOf z := by
       rw [hu, List.suffix_iff_eq_drop, List.length_cons, bytesOf_length, bytesOf_length, show s.size - (z.size + 1) = d by omega, e2, List.cons.injEq]
       constructor
       ·exact fun h => ⟨h.1.symm, h.2.symm⟩
       ·exact fun h => ⟨h.1.symm, h.2.symm⟩
      by_cases q3 : (bytesOf s).drop (d + 1) = bytesOf z
      ·rw [if_pos ((toList_iff _ _).2 (by rw [e3, q3])), if_pos (by omega), if_pos (by omega)]
       congr 1
       rw [Bool.eq_iff_iff, beq_iff_eq, decide_eq_true_eq, hiff]
       exact ⟨fun h => ⟨h, q3⟩, fun h => h.1⟩
      ·rw [if_neg (fun e => q3 (by rw [← e3]; exact (toList_iff _ _).1 e)), decide_eq_false (fun h => q3 (hiff.1 h).2)]
     ·rw [if_neg hd, decide_eq_false ?_]
      rw [hu]
      intro h
      have hl := h.length_le
      rw [List.length_cons, bytesOf_length, bytesOf_length] at hl
      have e := h.eq_of_length (by rw [List.length_cons, bytesOf_length, bytesOf_length]; omega)
      rw [← e, name_point] at hns
      cases hns
def pinfoldref1_Under_c.f (a0 a1 : ByteArray) : Option Bool := if a0.size ≤ 8796093022000 ∧ a1.size ≤ 8796093022000 then some (underB (bytesOf a0) (bytesOf a1)) else none
theorem pinfoldref1_Under_c.calls (a0 a1 : ByteArray) (r : Bool) (w : World) (h : pinfoldref1_Under_c.f a0 a1 = some r) :
  Calls Try.prog 104 #[.string a0, .string a1] w fun e w' => e = .returned (.bool r) ∧ Below w.heap.size w w' := by
 unfold pinfoldref1_Under_c.f at h
 by_cases hs : a0.size ≤ 8796093022000 ∧ a1.size ≤ 8796093022000
 ·rw [if_pos hs] at h
  exact pinfoldref1_Under.calls a0 a1 r w (by rw [refunder_eq_ a0 a1 hs.1 hs.2]; exact h)
 ·rw [if_neg hs] at h
  cases h

/-! ### pinfoldref11_staticMay: function 90 -/
-- BY HAND
def pinfoldref11_staticMay.f (a0_0 : ByteArray) (a0_1 : Int) (a0_2 : Int) (a0_3 : Int) (a0_4 : ByteArray) (a0_5 : ByteArray) (a0_6 : Int) (a1 : ByteArray) : Option Bool := if a0_0.size ≤ 8796093022000 ∧ a0_4.size ≤ 8796093022000 ∧ a1.size ≤ 8796093022000 then some (staticB a1 ⟨a0_0, a0_1, a0_2, a0_3, a0_4, a0_5, a0_6⟩) else none
set_option maxHeartbeats 8000000 in
set_option maxRecDepth 100000 in
theorem pinfoldref11_staticMay.calls (a0_0 : ByteArray) (a0_1 : Int) (a0_2 : Int) (a0_3 : Int) (a0_4 : ByteArray) (a0_5 : ByteArray) (a0_6 : Int) (a1 : ByteArray) (r : Bool) (w : World) (h : pinfoldref11_staticMay.f a0_0 a0_1 a0_2 a0_3 a0_4 a0_5 a0_6 a1 = some r) :
  Calls Try.prog 90 #[.agg #[.string a0_0, .int .i64 a0_1, .int .i64 a0_2, .int .i64 a0_3, .string a0_4, .string a0_5, .int .i64 a0_6], .string a1] w fun e w' => e = .returned (.bool r) ∧ Below w.heap.size w w' := by
 unfold pinfoldref11_staticMay.f at h
 by_cases hs : a0_0.size ≤ 8796093022000 ∧ a0_4.size ≤ 8796093022000 ∧ a1.size ≤ 8796093022000
 rotate_left
 ·rw [if_neg hs] at h
  cases h
 rw [if_pos hs] at h
 have HR := e5_ h
 unfold staticB at HR
 obtain ⟨b1, h1⟩ : ∃ b, rrB a0_0 a0_1 a0_2 a0_3 a0_4 a0_5 a0_6 = b := ⟨_, rfl⟩
 obtain ⟨b2, h2⟩ : ∃ b, underB (bytesOf a0_0) (bytesOf a1) = b := ⟨_, rfl⟩
 simp only [h1, h2] at HR
 have C1 := am_ (fun W => pinfoldref1_RrMay.calls a0_0 a0_1 a0_2 a0_3 a0_4 a0_5 a0_6 b1 W (by unfold pinfoldref1_RrMay.f; rw [if_pos ⟨hs.1, hs.2.1⟩, h1]))
 have C2 := am_ (fun W => pinfoldref1_Under_c.calls a0_0 a1 b2 W (by unfold pinfoldref1_Under_c.f; rw [if_pos ⟨hs.1, hs.2.2⟩, h2]))
 replace HR := am_ HR
 have HB := am_ (Below.refl w.heap.size w)
 clear h hs h1 h2
 go_enter Try.func90, Try.ntmps90
 go_wp2_with (first
  | (go_at_call 103; (with_reducible refine (C1.out _).mono ?_); rintro e w1 ⟨rfl, hb1⟩; have hy1 : w.heap.size < w1.heap.size := (by have := hb1.size; simp at this; omega); have hk1 := kept_ hb1 w.heap.size (by first | (simp; done) | (simp; omega)); replace HB := am_ (bt_ (show Below w.heap.size w _ by repeat (with_reducible first | exact HB.out | apply p3_ | apply p1_ | apply p2_)) hb1); clear hb1)
  | (go_at_call 104; (with_reducible refine (C2.out _).mono ?_); rintro e w2 ⟨rfl, hb1⟩; replace HB := am_ (bt_ (show Below w.heap.size w _ by repeat (with_reducible first | exact HB.out | apply p3_ | apply p1_ | apply p2_)) hb1); clear hb1))
 all_goals go_ret
 all_goals refine ⟨ret_bool ?_, ?_⟩
 all_goals first
  | ((repeat (with_reducible first | exact HB.out | apply p3_ | apply p1_ | apply p2_)); done)
  | (rw [← HR.out]; clear HR C1 C2 HB; simp_all <;> omega)

end Go.Proofs.Ytibmakpghbinbaa.PS
