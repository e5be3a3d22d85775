-- Made by wip/pr.py out of the translation (a turned copy of the kit's print; contracts by hand where said).
import Derived.Test.YtmoobaehoccihaaDoorPFx0
import Derived.Test.YtmoobaehoccihaaDoorPFx1
import Derived.Test.YtmoobaehoccihaaDoorPFx4
import Derived.Test.YtmoobaehoccihaaDoorPFx11
namespace Go.Proofs.YtmoobaehoccihaaDoor.PF
open Go.RowKit Go.Proofs.YtmoobaehoccihaaDoorW.PrintWords Go.Proofs.YtmoobaehoccihaaDoorW.PrintLast Go.Proofs.YtmoobaehoccihaaDoorW.PrintMore
-- shrunk
attribute [local go_sem] max2_int min2_int max_two min_two max_three min_three max_four min_four   -- for this text's walks alone
set_option linter.unusedVariables false
set_option linter.unusedSimpArgs false

attribute [local go_sem high] eqA42
/-! ### pinfoldref11_his_c: function 38 -/
def pinfoldref11_his_c.f (a0_0 : Int) (a0_1 : Int) (a0_2 : ByteArray) (a0_3 : Int) (a0_4 : ByteArray) (a0_5 : Bool) (a1 : ByteArray) (a2 : Int) : Option Bool := if a0_4.size ≤ 8796093022000 then some (holdsB a0_0 a0_1 a0_2 a0_3 a0_4 a0_5 a1 a2) else none
theorem refhis_c (a0_0 : Int) (a0_1 : Int) (a0_2 : ByteArray) (a0_3 : Int) (a0_4 : ByteArray) (a0_5 : Bool) (a1 : ByteArray) (a2 : Int) (hs : a0_4.size ≤ 8796093022000) : pinfoldref11_his.f a0_0 a0_1 a0_2 a0_3 a0_4 a0_5 a1 a2 = some (holdsB a0_0 a0_1 a0_2 a0_3 a0_4 a0_5 a1 a2) := by
 unfold pinfoldref11_his.f pinfoldref11_Live_c.f holdsB
 rw [if_pos hs, Option.bind_some]
 have hc : (a0_2.toList == a1.toList) = decide (a0_2.toList = a1.toList) := by rw [Bool.eq_iff_iff, beq_iff_eq, decide_eq_true_eq]
 cases hl : liveB a0_0 a0_1 a0_2 a0_3 a0_4 a0_5 a2 with
 | false => rfl
 | true =>
  rw [if_pos rfl, Bool.true_and, hc]
  have hst : 0 ≤ a0_1 ∧ a0_1 ≤ 3 ∧ a0_1 ≠ 0 := by
   unfold liveB leaseB stateB at hl
   simp only [Bool.and_eq_true, decide_eq_true_eq] at hl
   obtain ⟨⟨⟨⟨⟨⟨_, h1⟩, _⟩, _⟩, _⟩, h2⟩, _⟩ := hl
   split at h1
   ·omega
   ·split at h1
    ·omega
    ·split at h1
     ·omega
     ·cases h1
  by_cases h1 : a0_1 = 1
  ·rw [if_pos h1, decide_eq_true (show a0_1 ≠ 3 by omega), Bool.true_and]
  ·rw [if_neg h1]
   by_cases h2 : a0_1 = 2
   ·rw [if_pos h2, decide_eq_true (show a0_1 ≠ 3 by omega), Bool.true_and]
   ·rw [if_neg h2, decide_eq_false (show ¬ a0_1 ≠ 3 by omega), Bool.false_and]
theorem pinfoldref11_his_c.calls (a0_0 : Int) (a0_1 : Int) (a0_2 : ByteArray) (a0_3 : Int) (a0_4 : ByteArray) (a0_5 : Bool) (a1 : ByteArray) (a2 : Int) (r : Bool) (w : World) (h : pinfoldref11_his_c.f a0_0 a0_1 a0_2 a0_3 a0_4 a0_5 a1 a2 = some r) :
  Calls Tryd.prog 38 #[.agg #[.int .i64 a0_0, .int .i64 a0_1, .string a0_2, .int .i64 a0_3, .string a0_4, .bool a0_5], .string a1, .int .i64 a2] w fun e w' => e = .returned (.bool r) ∧ Below w.heap.size w w' := by
 unfold pinfoldref11_his_c.f at h
 by_cases hs : a0_4.size ≤ 8796093022000
 ·rw [if_pos hs] at h
  exact pinfoldref11_his.calls a0_0 a0_1 a0_2 a0_3 a0_4 a0_5 a1 a2 r w ((refhis_c a0_0 a0_1 a0_2 a0_3 a0_4 a0_5 a1 a2 hs).trans h)
 ·rw [if_neg hs] at h
  cases h

/-! ### pinfoldlaw0_SameLeases: function 19 -/
def pinfoldlaw0_SameLeases.l0 : Nat → List (S42) → List (S42) → Int → Option (Bool)
 | 0, _, _, _ => none
 | k + 1, x0, x1, x5 => if x5 < (x0.length : Int) then (if 0 ≤ x5 then (if x5 < (x1.length : Int) then (if (!(((rd_T42 x0 x5).f0) == ((rd_T42 x1 x5).f0)) || (!(((rd_T42 x0 x5).f1) == ((rd_T42 x1 x5).f1)) || (!((((rd_T42 x0 x5).f2).toList) == (((rd_T42 x1 x5).f2).toList)) || (!(((rd_T42 x0 x5).f3) == ((rd_T42 x1 x5).f3)) || (!((((rd_T42 x0 x5).f4).toList) == (((rd_T42 x1 x5).f4).toList)) || (!(((rd_T42 x0 x5).f5) == ((rd_T42 x1 x5).f5)))))))) = true then (some false) else (pinfoldlaw0_SameLeases.l0 k x0 x1 (wrap64 (x5 + 1)))) else (none)) else (none)) else (some true)
def pinfoldlaw0_SameLeases.f (k : Nat) (l0 : List (S42)) (l1 : List (S42)) : Option (Bool) := if (l0.length : Int) = (l1.length : Int) then (pinfoldlaw0_SameLeases.l0 k l0 l1 0) else (some false)
theorem pinfoldlaw0_SameLeases.mono_l : ∀ k, (∀ y0 y1 y2, LeO (pinfoldlaw0_SameLeases.l0 k y0 y1 y2) (pinfoldlaw0_SameLeases.l0 (k + 1) y0 y1 y2))
 | 0 => fun _ _ _ r h => by simp [pinfoldlaw0_SameLeases.l0] at h
 | k + 1 => by
  have ih0 := pinfoldlaw0_SameLeases.mono_l k
  ·intro y0 y1 y2
   unfold pinfoldlaw0_SameLeases.l0
   repeat' first
   | (with_reducible exact ih0 _ _ _)
   | (with_reducible exact LeO.refl _)
   | (with_reducible exact LeO.none _)
   | (with_reducible refine LeO.ite ?_ ?_)
   | (with_reducible refine LeO.bind ?_ (fun _ => ?_))
   | exact ih0 _ _ _
   | exact LeO.none _
   | refine LeO.ite ?_ ?_
   | refine LeO.bind ?_ (fun _ => ?_)
theorem pinfoldlaw0_SameLeases.mono : ∀ a0 a1 k, LeO (pinfoldlaw0_SameLeases.f k a0 a1) (pinfoldlaw0_SameLeases.f (k + 1) a0 a1) := by
 intro a0 a1 k
 have ih0 := pinfoldlaw0_SameLeases.mono_l k
 unfold pinfoldlaw0_SameLeases.f
 repeat' first
   | (with_reducible exact ih0 _ _ _)
   | (with_reducible exact LeO.refl _)
   | (with_reducible exact LeO.none _)
   | (with_reducible refine LeO.ite ?_ ?_)
   | (with_reducible refine LeO.bind ?_ (fun _ => ?_))
   | exact ih0 _ _ _
   | exact LeO.none _
   | refine LeO.ite ?_ ?_
   | refine LeO.bind ?_ (fun _ => ?_)
set_option maxHeartbeats 8000000 in
set_option maxRecDepth 100000 in
theorem pinfoldlaw0_SameLeases.calls (k : Nat) (A0 : Option Addr) (c0 : Nat) (l0 : List (S42)) (A1 : Option Addr) (c1 : Nat) (l1 : List (S42)) (r : Bool) (w : World) (hr0 : Kd.C k42 w A0 l0.length l0) (hc0 : l0.length ≤ c0) (hr1 : Kd.C k42 w A1 l1.length l1) (hc1 : l1.length ≤ c1) (h : pinfoldlaw0_SameLeases.f k l0 l1 = some r) :
  Calls Tryd.prog 19 #[.slice A0 l0.length c0, .slice A1 l1.length c1] w fun e w' => e = .returned (.bool r) ∧ Drawn0 w w' := by
 have hu42 := Tryd.underlying42
 have HR0 := am_ hr0
 have HC0 := am_ hc0
 clear hr0 hc0
 have HR1 := am_ hr1
 have HC1 := am_ hc1
 clear hr1 hc1
 have H : (if (l0.length : Int) = (l1.length : Int) then (pinfoldlaw0_SameLeases.l0 k l0 l1 0) else (some false)) = some r := h
 clear h
 by_cases c3 : (l0.length : Int) = (l1.length : Int)
 ·rw [if_pos c3] at H
  have c3b0 : ((l0.length : Int) == (l1.length : Int)) = true := beq_iff_eq.mpr c3
  have c3b1 : ((l0.length : Int) != (l1.length : Int)) = false := e1_ c3
  have c3b2 : (l0.length == l1.length) = true := by first | simpa using c3 | (simp at c3 ⊢; omega)
  clear c3
  have H' := am_ H
  clear H
  go_enter Tryd.func19, Tryd.ntmps19
  go_wp2
  repeat (go_quiet (fail); try go_wp2)
  go_loopg [5] k (fun kq v5 w' => ∃ (x5_1 : Int), v5 = .int .i64 x5_1 ∧ Aside0 (pinfoldlaw0_SameLeases.l0 kq l0 l1 x5_1 = some r) ∧ Aside0 (kq ≤ k) ∧ Drawn0 w w')
  case atStart => exact ⟨(0), (by first | rfl | (simp; done) | (simp [*]; done)), H', ⟨Nat.le_refl _⟩, by repeat (first | exact Drawn0.refl _ | apply Drawn0.step)⟩
  case round =>
   clear H'
   (try clear c1); (try clear c3); (try clear c3b0); (try clear c3b1); (try clear c3b2)
   obtain ⟨x5_1, rfl, HA, HK1, ⟨m1, rfl⟩⟩ := hrel
   cases gk with
   | zero => exact absurd HA.out (by simp [pinfoldlaw0_SameLeases.l0])
   | succ k1 =>
    have H := HA.out
    clear HA
    simp only [pinfoldlaw0_SameLeases.l0] at H
    by_cases c4 : x5_1 < (l0.length : Int)
    ·rw [if_pos c4] at H
     have c4b0 : decide (x5_1 < (l0.length : Int)) = true := decide_eq_true c4
     clear c4
     by_cases c5 : 0 ≤ x5_1
     rotate_left
     ·rw [if_neg c5] at H
      exact absurd H (by simp)
     rw [if_pos c5] at H
     have c5b0 : decide (0 ≤ x5_1) = true := decide_eq_true c5
     clear c5
     by_cases c6 : x5_1 < (l1.length : Int)
     rotate_left
     ·rw [if_neg c6] at H
      exact absurd H (by simp)
     rw [if_pos c6] at H
     have c6b0 : decide (x5_1 < (l1.length : Int)) = true := decide_eq_true c6
     clear c6
     by_cases c7 : (!(((rd_T42 l0 x5_1).f0) == ((rd_T42 l1 x5_1).f0)) || (!(((rd_T42 l0 x5_1).f1) == ((rd_T42 l1 x5_1).f1)) || (!((((rd_T42 l0 x5_1).f2).toList) == (((rd_T42 l1 x5_1).f2).toList)) || (!(((rd_T42 l0 x5_1).f3) == ((rd_T42 l1 x5_1).f3)) || (!((((rd_T42 l0 x5_1).f4).toList) == (((rd_T42 l1 x5_1).f4).toList)) || (!(((rd_T42 l0 x5_1).f5) == ((rd_T42 l1 x5_1).f5)))))))) = true
     ·rw [if_pos c7] at H
      have c7b0 : (!(((rd_T42 l0 x5_1).f0) == ((rd_T42 l1 x5_1).f0)) || (!(((rd_T42 l0 x5_1).f1) == ((rd_T42 l1 x5_1).f1)) || (!((((rd_T42 l0 x5_1).f2).toList) == (((rd_T42 l1 x5_1).f2).toList)) || (!(((rd_T42 l0 x5_1).f3) == ((rd_T42 l1 x5_1).f3)) || (!((((rd_T42 l0 x5_1).f4).toList) == (((rd_T42 l1 x5_1).f4).toList)) || (!(((rd_T42 l0 x5_1).f5) == ((rd_T42 l1 x5_1).f5)))))))) = true := c7
      clear c7
      obtain rfl := e5_ H
      have p251 : 0 ≤ (x5_1 : Int) := of_decide_eq_true (by first | (with_reducible assumption) | assumption)
      have q251 : x5_1 < (l0.length : Int) := of_decide_eq_true (by first | (with_reducible assumption) | assumption)
      obtain ⟨ad251, e251, hx251_0, hx251_1, hx251_2, hx251_3, hx251_4, hx251_5⟩ := at_T42 HR0.out x5_1 p251 q251
      cases e251
      replace p251 := eq_true p251
      replace q251 := eq_true q251
      have p252 : 0 ≤ (x5_1 : Int) := of_decide_eq_true (by first | (with_reducible assumption) | assumption)
      have q252 : x5_1 < (l1.length : Int) := of_decide_eq_true (by first | (with_reducible assumption) | assumption)
      obtain ⟨ad252, e252, hx252_0, hx252_1, hx252_2, hx252_3, hx252_4, hx252_5⟩ := at_T42 HR1.out x5_1 p252 q252
      cases e252
      replace p252 := eq_true p252
      replace q252 := eq_true q252
      go_wp2
      repeat (go_quiet (fail); try go_wp2)
      go_ret
      exact ⟨by first | rfl | (simp; done) | (simp [*]; done), by repeat (first | exact Drawn0.refl _ | apply Drawn0.step)⟩
     rw [if_neg c7] at H
     have c7b0 : (!(((rd_T42 l0 x5_1).f0) == ((rd_T42 l1 x5_1).f0)) || (!(((rd_T42 l0 x5_1).f1) == ((rd_T42 l1 x5_1).f1)) || (!((((rd_T42 l0 x5_1).f2).toList) == (((rd_T42 l1 x5_1).f2).toList)) || (!(((rd_T42 l0 x5_1).f3) == ((rd_T42 l1 x5_1).f3)) || (!((((rd_T42 l0 x5_1).f4).toList) == (((rd_T42 l1 x5_1).f4).toList)) || (!(((rd_T42 l0 x5_1).f5) == ((rd_T42 l1 x5_1).f5)))))))) = false := by simpa using c7
     clear c7
     have H' := am_ H
     clear H
     have p251 : 0 ≤ (x5_1 : Int) := of_decide_eq_true (by first | (with_reducible assumption) | assumption)
     have q251 : x5_1 < (l0.length : Int) := of_decide_eq_true (by first | (with_reducible assumption) | assumption)
     obtain ⟨ad251, e251, hx251_0, hx251_1, hx251_2, hx251_3, hx251_4, hx251_5⟩ := at_T42 HR0.out x5_1 p251 q251
     cases e251
     replace p251 := eq_true p251
     replace q251 := eq_true q251
     have p252 : 0 ≤ (x5_1 : Int) := of_decide_eq_true (by first | (with_reducible assumption) | assumption)
     have q252 : x5_1 < (l1.length : Int) := of_decide_eq_true (by first | (with_reducible assumption) | assumption)
     obtain ⟨ad252, e252, hx252_0, hx252_1, hx252_2, hx252_3, hx252_4, hx252_5⟩ := at_T42 HR1.out x5_1 p252 q252
     cases e252
     replace p252 := eq_true p252
     replace q252 := eq_true q252
     go_wp2
     repeat (go_quiet (fail); try go_wp2)
     go_roundg k1
     case measure => have := HK1.out; omega
     case rel => exact ⟨(wrap64 (x5_1 + 1)), (by first | rfl | (simp; done) | (simp [*]; done)), H', ⟨by have := HK1.out; omega⟩, by repeat (first | exact Drawn0.refl _ | apply Drawn0.step)⟩
    rw [if_neg c4] at H
    have c4b0 : decide (x5_1 < (l0.length : Int)) = false := decide_eq_false c4
    clear c4
    obtain rfl := e5_ H
    go_wp2
    repeat (go_quiet (fail); try go_wp2)
    go_ret
    exact ⟨by first | rfl | (simp; done) | (simp [*]; done), by repeat (first | exact Drawn0.refl _ | apply Drawn0.step)⟩
 rw [if_neg c3] at H
 have c3b0 : ((l0.length : Int) == (l1.length : Int)) = false := e2_ c3
 have c3b1 : ((l0.length : Int) != (l1.length : Int)) = true := bne_iff_ne.mpr c3
 have c3b2 : (l0.length == l1.length) = false := by first | simpa using c3 | (simp at c3 ⊢; omega)
 obtain rfl := e5_ H
 go_enter Tryd.func19, Tryd.ntmps19
 go_wp2
 repeat (go_quiet (fail); try go_wp2)
 go_ret
 exact ⟨by first | rfl | (simp; done) | (simp [*]; done), by repeat (first | exact Drawn0.refl _ | apply Drawn0.step)⟩

/-! ### pinfoldlaw0_Num: function 20 -/
def pinfoldlaw0_Num.f (a0 : Int) : Option (Int) := some a0
set_option maxHeartbeats 8000000 in
set_option maxRecDepth 100000 in
theorem pinfoldlaw0_Num.calls (a0 : Int) (r : Int) (w : World) (h : pinfoldlaw0_Num.f a0 = some r) :
  Calls Tryd.prog 20 #[.int .i64 a0] w fun e w' => e = .returned (.int .i64 r) ∧ Drawn0 w w' := by
 have H : (some a0) = some r := h
 clear h
 obtain rfl := e5_ H
 go_enter Tryd.func20, Tryd.ntmps20
 go_wp2
 go_ret
 exact ⟨by first | rfl | (simp; done) | (simp [*]; done), by repeat (first | exact Drawn0.refl _ | apply Drawn0.step)⟩

end Go.Proofs.YtmoobaehoccihaaDoor.PF
