-- Made by wip/pr.py out of the translation (a turned copy of the kit's print; contracts by hand where said).
import Derived.Test.YtibalpbkmgegnaaDoorPMx0
import Derived.Test.YtibalpbkmgegnaaDoorPMx1
import Derived.Test.YtibalpbkmgegnaaDoorPMx2
import Derived.Test.YtibalpbkmgegnaaDoorPMx10
namespace Go.Proofs.YtibalpbkmgegnaaDoor.PM
open Go.RowKit Go.Proofs.YtibalpbkmgegnaaDoorW.PrintWords Go.Proofs.YtibalpbkmgegnaaDoorW.PrintLast Go.Proofs.YtibalpbkmgegnaaDoorW.PrintMore
-- shrunk
attribute [local go_sem] max2_int min2_int max_two min_two max_three min_three max_four min_four   -- for this text's walks alone
set_option linter.unusedVariables false
set_option linter.unusedSimpArgs false

attribute [local go_sem high] eqA36
/-! ### pinfoldlaw0_SameLeases: function 17 -/
def pinfoldlaw0_SameLeases.l0 : Nat → List (S36) → List (S36) → Int → Option (Bool)
 | 0, _, _, _ => none
 | k + 1, x0, x1, x5 => if x5 < (x0.length : Int) then (if 0 ≤ x5 then (if x5 < (x1.length : Int) then (if (!(((rd_T36 x0 x5).f0) == ((rd_T36 x1 x5).f0)) || (!(((rd_T36 x0 x5).f1) == ((rd_T36 x1 x5).f1)) || (!((((rd_T36 x0 x5).f2).toList) == (((rd_T36 x1 x5).f2).toList)) || (!(((rd_T36 x0 x5).f3) == ((rd_T36 x1 x5).f3)) || (!((((rd_T36 x0 x5).f4).toList) == (((rd_T36 x1 x5).f4).toList)) || (!(((rd_T36 x0 x5).f5) == ((rd_T36 x1 x5).f5)))))))) = true then (some false) else (pinfoldlaw0_SameLeases.l0 k x0 x1 (wrap64 (x5 + 1)))) else (none)) else (none)) else (some true)
def pinfoldlaw0_SameLeases.f (k : Nat) (l0 : List (S36)) (l1 : List (S36)) : Option (Bool) := if (l0.length : Int) = (l1.length : Int) then (pinfoldlaw0_SameLeases.l0 k l0 l1 0) else (some false)
theorem pinfoldlaw0_SameLeases.mono_l : ∀ k, (∀ y0 y1 y2, LeO (pinfoldlaw0_SameLeases.l0 k y0 y1 y2) (pinfoldlaw0_SameLeases.l0 (k + 1) y0 y1 y2))
 | 0 => fun _ _ _ r h => by simp [pinfoldlaw0_SameLeases.l0] at h
 | k + 1 => by
  have ih0 := pinfoldlaw0_SameLeases.mono_l k
  ·intro y0 y1 y2
   unfold pinfoldlaw0_SameLeases.l0
   repeat' first
   | (with_reducible exact ih0 _ _ _)
   | (with_reducible exact LeO.refl _)
   | (with_reducible exact LeO.none _)
   | (with_reducible refine LeO.ite ?_ ?_)
   | (with_reducible refine LeO.bind ?_ (fun _ => ?_))
   | exact ih0 _ _ _
   | exact LeO.none _
   | refine LeO.ite ?_ ?_
   | refine LeO.bind ?_ (fun _ => ?_)
theorem pinfoldlaw0_SameLeases.mono : ∀ a0 a1 k, LeO (pinfoldlaw0_SameLeases.f k a0 a1) (pinfoldlaw0_SameLeases.f (k + 1) a0 a1) := by
 intro a0 a1 k
 have ih0 := pinfoldlaw0_SameLeases.mono_l k
 unfold pinfoldlaw0_SameLeases.f
 repeat' first
   | (with_reducible exact ih0 _ _ _)
   | (with_reducible exact LeO.refl _)
   | (with_reducible exact LeO.none _)
   | (with_reducible refine LeO.ite ?_ ?_)
   | (with_reducible refine LeO.bind ?_ (fun _ => ?_))
   | exact ih0 _ _ _
   | exact LeO.none _
   | refine LeO.ite ?_ ?_
   | refine LeO.bind ?_ (fun _ => ?_)
set_option maxHeartbeats 8000000 in
set_option maxRecDepth 100000 in
theorem pinfoldlaw0_SameLeases.calls (k : Nat) (A0 : Option Addr) (c0 : Nat) (l0 : List (S36)) (A1 : Option Addr) (c1 : Nat) (l1 : List (S36)) (r : Bool) (w : World) (hr0 : Kd.C k36 w A0 l0.length l0) (hc0 : l0.length ≤ c0) (hr1 : Kd.C k36 w A1 l1.length l1) (hc1 : l1.length ≤ c1) (h : pinfoldlaw0_SameLeases.f k l0 l1 = some r) :
  Calls Tryd.prog 17 #[.slice A0 l0.length c0, .slice A1 l1.length c1] w fun e w' => e = .returned (.bool r) ∧ Drawn0 w w' := by
 have hu36 := Tryd.underlying36
 have HR0 := am_ hr0
 have HC0 := am_ hc0
 clear hr0 hc0
 have HR1 := am_ hr1
 have HC1 := am_ hc1
 clear hr1 hc1
 have H : (if (l0.length : Int) = (l1.length : Int) then (pinfoldlaw0_SameLeases.l0 k l0 l1 0) else (some false)) = some r := h
 clear h
 by_cases c3 : (l0.length : Int) = (l1.length : Int)
 ·rw [if_pos c3] at H
  have c3b0 : ((l0.length : Int) == (l1.length : Int)) = true := beq_iff_eq.mpr c3
  have c3b1 : ((l0.length : Int) != (l1.length : Int)) = false := e1_ c3
  have c3b2 : (l0.length == l1.length) = true := by first | simpa using c3 | (simp at c3 ⊢; omega)
  clear c3
  have H' := am_ H
  clear H
  go_enter Tryd.func17, Tryd.ntmps17
  go_wp2
  repeat (go_quiet (fail); try go_wp2)
  go_loopg [5] k (fun kq v5 w' => ∃ (x5_1 : Int), v5 = .int .i64 x5_1 ∧ Aside0 (pinfoldlaw0_SameLeases.l0 kq l0 l1 x5_1 = some r) ∧ Aside0 (kq ≤ k) ∧ Drawn0 w w')
  case atStart => exact ⟨(0), (by first | rfl | (simp; done) | (simp [*]; done)), H', ⟨Nat.le_refl _⟩, by repeat (first | exact Drawn0.refl _ | apply Drawn0.step)⟩
  case round =>
   clear H'
   (try clear c1); (try clear c3); (try clear c3b0); (try clear c3b1); (try clear c3b2)
   obtain ⟨x5_1, rfl, HA, HK1, ⟨m1, rfl⟩⟩ := hrel
   cases gk with
   | zero => exact absurd HA.out (by simp [pinfoldlaw0_SameLeases.l0])
   | succ k1 =>
    have H := HA.out
    clear HA
    simp only [pinfoldlaw0_SameLeases.l0] at H
    by_cases c4 : x5_1 < (l0.length : Int)
    ·rw [if_pos c4] at H
     have c4b0 : decide (x5_1 < (l0.length : Int)) = true := decide_eq_true c4
     clear c4
     by_cases c5 : 0 ≤ x5_1
     rotate_left
     ·rw [if_neg c5] at H
      exact absurd H (by simp)
     rw [if_pos c5] at H
     have c5b0 : decide (0 ≤ x5_1) = true := decide_eq_true c5
     clear c5
     by_cases c6 : x5_1 < (l1.length : Int)
     rotate_left
     ·rw [if_neg c6] at H
      exact absurd H (by simp)
     rw [if_pos c6] at H
     have c6b0 : decide (x5_1 < (l1.length : Int)) = true := decide_eq_true c6
     clear c6
     by_cases c7 : (!(((rd_T36 l0 x5_1).f0) == ((rd_T36 l1 x5_1).f0)) || (!(((rd_T36 l0 x5_1).f1) == ((rd_T36 l1 x5_1).f1)) || (!((((rd_T36 l0 x5_1).f2).toList) == (((rd_T36 l1 x5_1).f2).toList)) || (!(((rd_T36 l0 x5_1).f3) == ((rd_T36 l1 x5_1).f3)) || (!((((rd_T36 l0 x5_1).f4).toList) == (((rd_T36 l1 x5_1).f4).toList)) || (!(((rd_T36 l0 x5_1).f5) == ((rd_T36 l1 x5_1).f5)))))))) = true
     ·rw [if_pos c7] at H
      have c7b0 : (!(((rd_T36 l0 x5_1).f0) == ((rd_T36 l1 x5_1).f0)) || (!(((rd_T36 l0 x5_1).f1) == ((rd_T36 l1 x5_1).f1)) || (!((((rd_T36 l0 x5_1).f2).toList) == (((rd_T36 l1 x5_1).f2).toList)) || (!(((rd_T36 l0 x5_1).f3) == ((rd_T36 l1 x5_1).f3)) || (!((((rd_T36 l0 x5_1).f4).toList) == (((rd_T36 l1 x5_1).f4).toList)) || (!(((rd_T36 l0 x5_1).f5) == ((rd_T36 l1 x5_1).f5)))))))) = true := c7
      clear c7
      obtain rfl := e5_ H
      have p138 : 0 ≤ (x5_1 : Int) := of_decide_eq_true (by first | (with_reducible assumption) | assumption)
      have q138 : x5_1 < (l0.length : Int) := of_decide_eq_true (by first | (with_reducible assumption) | assumption)
      obtain ⟨ad138, e138, hx138_0, hx138_1, hx138_2, hx138_3, hx138_4, hx138_5⟩ := at_T36 HR0.out x5_1 p138 q138
      cases e138
      replace p138 := eq_true p138
      replace q138 := eq_true q138
      have p139 : 0 ≤ (x5_1 : Int) := of_decide_eq_true (by first | (with_reducible assumption) | assumption)
      have q139 : x5_1 < (l1.length : Int) := of_decide_eq_true (by first | (with_reducible assumption) | assumption)
      obtain ⟨ad139, e139, hx139_0, hx139_1, hx139_2, hx139_3, hx139_4, hx139_5⟩ := at_T36 HR1.out x5_1 p139 q139
      cases e139
      replace p139 := eq_true p139
      replace q139 := eq_true q139
      go_wp2
      repeat (go_quiet (fail); try go_wp2)
      go_ret
      exact ⟨by first | rfl | (simp; done) | (simp [*]; done), by repeat (first | exact Drawn0.refl _ | apply Drawn0.step)⟩
     rw [if_neg c7] at H
     have c7b0 : (!(((rd_T36 l0 x5_1).f0) == ((rd_T36 l1 x5_1).f0)) || (!(((rd_T36 l0 x5_1).f1) == ((rd_T36 l1 x5_1).f1)) || (!((((rd_T36 l0 x5_1).f2).toList) == (((rd_T36 l1 x5_1).f2).toList)) || (!(((rd_T36 l0 x5_1).f3) == ((rd_T36 l1 x5_1).f3)) || (!((((rd_T36 l0 x5_1).f4).toList) == (((rd_T36 l1 x5_1).f4).toList)) || (!(((rd_T36 l0 x5_1).f5) == ((rd_T36 l1 x5_1).f5)))))))) = false := by simpa using c7
     clear c7
     have H' := am_ H
     clear H
     have p138 : 0 ≤ (x5_1 : Int) := of_decide_eq_true (by first | (with_reducible assumption) | assumption)
     have q138 : x5_1 < (l0.length : Int) := of_decide_eq_true (by first | (with_reducible assumption) | assumption)
     obtain ⟨ad138, e138, hx138_0, hx138_1, hx138_2, hx138_3, hx138_4, hx138_5⟩ := at_T36 HR0.out x5_1 p138 q138
     cases e138
     replace p138 := eq_true p138
     replace q138 := eq_true q138
     have p139 : 0 ≤ (x5_1 : Int) := of_decide_eq_true (by first | (with_reducible assumption) | assumption)
     have q139 : x5_1 < (l1.length : Int) := of_decide_eq_true (by first | (with_reducible assumption) | assumption)
     obtain ⟨ad139, e139, hx139_0, hx139_1, hx139_2, hx139_3, hx139_4, hx139_5⟩ := at_T36 HR1.out x5_1 p139 q139
     cases e139
     replace p139 := eq_true p139
     replace q139 := eq_true q139
     go_wp2
     repeat (go_quiet (fail); try go_wp2)
     go_roundg k1
     case measure => have := HK1.out; omega
     case rel => exact ⟨(wrap64 (x5_1 + 1)), (by first | rfl | (simp; done) | (simp [*]; done)), H', ⟨by have := HK1.out; omega⟩, by repeat (first | exact Drawn0.refl _ | apply Drawn0.step)⟩
    rw [if_neg c4] at H
    have c4b0 : decide (x5_1 < (l0.length : Int)) = false := decide_eq_false c4
    clear c4
    obtain rfl := e5_ H
    go_wp2
    repeat (go_quiet (fail); try go_wp2)
    go_ret
    exact ⟨by first | rfl | (simp; done) | (simp [*]; done), by repeat (first | exact Drawn0.refl _ | apply Drawn0.step)⟩
 rw [if_neg c3] at H
 have c3b0 : ((l0.length : Int) == (l1.length : Int)) = false := e2_ c3
 have c3b1 : ((l0.length : Int) != (l1.length : Int)) = true := bne_iff_ne.mpr c3
 have c3b2 : (l0.length == l1.length) = false := by first | simpa using c3 | (simp at c3 ⊢; omega)
 obtain rfl := e5_ H
 go_enter Tryd.func17, Tryd.ntmps17
 go_wp2
 repeat (go_quiet (fail); try go_wp2)
 go_ret
 exact ⟨by first | rfl | (simp; done) | (simp [*]; done), by repeat (first | exact Drawn0.refl _ | apply Drawn0.step)⟩

/-! ### pinfoldlaw17_awake: function 8 -/
-- BY HAND
-- 16 9 10 17
abbrev awEx : List Int := [12]
abbrev awRes : List S72 := [⟨(⟨#[118, 105, 112]⟩ : ByteArray), 13⟩]
abbrev awZone : ByteArray := ⟨#[108, 97, 110]⟩
abbrev awRR : List S74 := [⟨(⟨#[119, 119, 119, 46, 108, 97, 110]⟩ : ByteArray), 1, 5, 7, (⟨#[]⟩ : ByteArray), (⟨#[]⟩ : ByteArray), 0⟩]
theorem pinfoldlaw17_awake.lit (W : World) (x : S36) : Kd.C k36 (W.alloc (.cells #[.int .i64 x.f0, .int .i64 x.f1, .string x.f2, .int .i64 x.f3, .string x.f4, .bool x.f5] 36)) (some ⟨W.heap.size, 0, none⟩) 1 [x] := by
 have h := OwnRow.lit (e := 36) (R := Kd.M k36 (W.alloc (.cells #[.int .i64 x.f0, .int .i64 x.f1, .string x.f2, .int .i64 x.f3, .string x.f4, .bool x.f5] 36)) W.heap.size (fun _ => True)) (ps := [x]) W W.heap.size (inner := [.int .i64 x.f0, .int .i64 x.f1, .string x.f2, .int .i64 x.f3, .string x.f4, .bool x.f5]) (Reps.c6 (k36_mkM _ _ _ x) (Reps.none _ _)) (Nat.le_refl _) (by simp)
 obtain ⟨A, c, he, _, hr⟩ := OwnRow.reads h
 injection he with h1 h2 h3
 subst h1
 exact hr.imp_ (Below.refl _ _) (fun _ _ hp => Kd.K_of_M _ hp)
theorem pinfoldlaw17_awake.add0 (a : Addr) : a.add 0 = a := by
 cases a with
 | mk b o p => cases p <;> rfl
theorem pinfoldlaw17_awake.stay {w : World} {p : Addr} {v : Value} (h : w.cell? p = some v) (k : Nat) (o : Obj) (k2 : Nat) : (((w.drewN k).alloc o).drewN k2).cell? p = some v :=
 ((p1_ (p3_ (p1_ (Below.refl w.heap.size w) k) o) k2).cell (wb_ _ _ h)).trans h
theorem pinfoldlaw17_awake.sz (w : World) (o : Obj) (k : Nat) : ((w.alloc o).drewN k).heap.size = w.heap.size + 1 := by
 show (w.alloc o).heap.size = _
 simp
theorem pinfoldlaw17_awake.lit2 (W : World) (x : S36) (g : Nat) (hg : W.heap.size = g) : Kd.C k36 (W.alloc (.cells #[.int .i64 x.f0, .int .i64 x.f1, .string x.f2, .int .i64 x.f3, .string x.f4, .bool x.f5] 36)) (some ⟨g, 0, none⟩) 1 [x] := by
 subst hg
 exact pinfoldlaw17_awake.lit W x
theorem pinfoldlaw17_awake.f1 : claim_Claim.f 10 13 awEx awRes 100 awZone awRR [(⟨10, 1, (⟨#[109, 101]⟩ : ByteArray), 9, (⟨#[]⟩ : ByteArray), false⟩ : S36)] 0 (⟨#[109, 101]⟩ : ByteArray) true 167772161 10 0 (⟨#[112, 99]⟩ : ByteArray) = some ([(⟨10, 2, (⟨#[109, 101]⟩ : ByteArray), 100, (⟨#[112, 99]⟩ : ByteArray), true⟩ : S36)], 1, 10, 0) := by kernel_rfl
theorem pinfoldlaw17_awake.f2 : claim_Claim.f 10 13 awEx awRes 100 awZone awRR [(⟨10, 1, (⟨#[109, 101]⟩ : ByteArray), 9, (⟨#[]⟩ : ByteArray), false⟩ : S36)] 0 (⟨#[121, 111, 117]⟩ : ByteArray) true 167772161 10 0 (⟨#[]⟩ : ByteArray) = some ([(⟨10, 1, (⟨#[109, 101]⟩ : ByteArray), 9, (⟨#[]⟩ : ByteArray), false⟩ : S36)], 2, 0, 0) := by kernel_rfl
theorem pinfoldlaw17_awake.f3 : claim_Claim.f 10 13 awEx awRes 100 awZone awRR [(⟨10, 1, (⟨#[109, 101]⟩ : ByteArray), 9, (⟨#[]⟩ : ByteArray), false⟩ : S36)] 0 (⟨#[109, 101]⟩ : ByteArray) true 5 10 0 (⟨#[]⟩ : ByteArray) = some ([(⟨10, 0, (⟨#[109, 101]⟩ : ByteArray), 9, (⟨#[]⟩ : ByteArray), false⟩ : S36)], 0, 0, 0) := by kernel_rfl
theorem pinfoldlaw17_awake.f4 : claim_Claim.f 10 13 awEx awRes 100 awZone awRR [(⟨10, 2, (⟨#[109, 101]⟩ : ByteArray), 100, (⟨#[112, 99]⟩ : ByteArray), true⟩ : S36)] 50 (⟨#[109, 101]⟩ : ByteArray) false 0 0 10 (⟨#[]⟩ : ByteArray) = some ([(⟨10, 2, (⟨#[109, 101]⟩ : ByteArray), 150, (⟨#[112, 99]⟩ : ByteArray), true⟩ : S36)], 1, 10, 0) := by kernel_rfl
theorem pinfoldlaw17_awake.f5 : claim_Claim.f 10 13 awEx awRes 100 awZone awRR [] 0 (⟨#[109, 101]⟩ : ByteArray) false 0 10 0 (⟨#[]⟩ : ByteArray) = some ([], 0, 0, 0) := by kernel_rfl
theorem pinfoldlaw17_awake.f6 : claim_Claim.f 10 13 awEx awRes 100 awZone awRR [] 0 (⟨#[]⟩ : ByteArray) false 0 0 0 (⟨#[]⟩ : ByteArray) = some ([], 0, 0, 1700) := by kernel_rfl
theorem pinfoldlaw17_awake.s1 : pinfoldlaw0_SameLeases.f 5 [(⟨10, 2, (⟨#[109, 101]⟩ : ByteArray), 100, (⟨#[112, 99]⟩ : ByteArray), true⟩ : S36)] [(⟨10, 2, (⟨#[109, 101]⟩ : ByteArray), 100, (⟨#[112, 99]⟩ : ByteArray), true⟩ : S36)] = some true := by kernel_rfl
theorem pinfoldlaw17_awake.s2 : pinfoldlaw0_SameLeases.f 5 [(⟨10, 0, (⟨#[109, 101]⟩ : ByteArray), 9, (⟨#[]⟩ : ByteArray), false⟩ : S36)] [(⟨10, 0, (⟨#[109, 101]⟩ : ByteArray), 9, (⟨#[]⟩ : ByteArray), false⟩ : S36)] = some true := by kernel_rfl
def pinfoldlaw17_awake.f : Option Bool := some true
set_option maxHeartbeats 8000000 in
set_option maxRecDepth 100000 in
theorem pinfoldlaw17_awake.calls (r : Bool) (w : World) (h : pinfoldlaw17_awake.f = some r) :
  Calls Tryd.prog 8 #[] w fun e w' => e = .returned (.bool r) ∧ Below w.heap.size w w' := by
 obtain rfl := e5_ h
 clear h
 obtain ⟨EX, hEX⟩ : ∃ l, awEx = l := ⟨_, rfl⟩
 obtain ⟨RE, hRE⟩ : ∃ l, awRes = l := ⟨_, rfl⟩
 obtain ⟨ZO, hZO⟩ : ∃ l, awZone = l := ⟨_, rfl⟩
 obtain ⟨SR, hSR⟩ : ∃ l, awRR = l := ⟨_, rfl⟩
 obtain ⟨LA, hLA⟩ : ∃ l, [(⟨10, 2, (⟨#[109, 101]⟩ : ByteArray), 100, (⟨#[112, 99]⟩ : ByteArray), true⟩ : S36)] = l := ⟨_, rfl⟩
 obtain ⟨LB, hLB⟩ : ∃ l, [(⟨10, 0, (⟨#[109, 101]⟩ : ByteArray), 9, (⟨#[]⟩ : ByteArray), false⟩ : S36)] = l := ⟨_, rfl⟩
 obtain ⟨LD, hLD⟩ : ∃ l, [(⟨10, 2, (⟨#[109, 101]⟩ : ByteArray), 150, (⟨#[112, 99]⟩ : ByteArray), true⟩ : S36)] = l := ⟨_, rfl⟩
 have F1 := pinfoldlaw17_awake.f1; have F2 := pinfoldlaw17_awake.f2; have F3 := pinfoldlaw17_awake.f3; have F4 := pinfoldlaw17_awake.f4; have F5 := pinfoldlaw17_awake.f5; have F6 := pinfoldlaw17_awake.f6; have S1 := pinfoldlaw17_awake.s1; have S2 := pinfoldlaw17_awake.s2
 rw [hEX, hRE, hZO, hSR] at F1 F2 F3 F4 F5 F6
 rw [hLA] at F1 F4
 rw [hLB] at F3
 rw [hLD] at F4
 rw (occs := [1]) [hLA] at S1
 rw (occs := [1]) [hLB] at S2
 have hlD : LD.length = 1 := by rw [← hLD]; rfl
 have hD0 : rd_T36 LD 0 = (⟨10, 2, (⟨#[109, 101]⟩ : ByteArray), 150, (⟨#[112, 99]⟩ : ByteArray), true⟩ : S36) := by rw [← hLD]; rfl
 have CG := am_ (fun W => pinfoldlaw17_given.calls 10 13 EX RE 100 ZO SR W (by rw [← hEX, ← hRE, ← hZO, ← hSR]; rfl))
 have C1 := am_ (fun W (AE : Option Addr) (cE : Nat) (AR : Option Addr) (cR : Nat) (AS : Option Addr) (cS : Nat) (hE : Kd.C (Kd.int .i64) W AE EX.length EX) (hcE : EX.length ≤ cE) (hR : Kd.C k72 W AR RE.length RE) (hcR : RE.length ≤ cR) (hS : Kd.C k74 W AS SR.length SR) (hcS : SR.length ≤ cS) (A : Option Addr) (hL : Kd.C k36 W A 1 [(⟨10, 1, (⟨#[109, 101]⟩ : ByteArray), 9, (⟨#[]⟩ : ByteArray), false⟩ : S36)]) => (show Calls Tryd.prog 9 #[.agg #[.int .i64 10, .int .i64 13, .slice AE EX.length cE, .slice AR RE.length cR, .int .i64 100, .string ZO, .slice AS SR.length cS], .slice A 1 1, .int .i64 0, .string (⟨#[109, 101]⟩ : ByteArray), .agg #[.bool true, .int .i64 167772161, .int .i64 10, .int .i64 0, .string (⟨#[112, 99]⟩ : ByteArray)]] W fun e w' => ∃ v0_ : Value, e = .returned (.tuple #[v0_, .int .i64 1, .int .i64 10, .int .i64 0]) ∧ Kd.R k36 36 w' W.heap.size (fun _ => True) v0_ LA ∧ Below W.heap.size W w' from claim_Claim.calls 10 13 AE cE EX AR cR RE 100 ZO AS cS SR A 1 [(⟨10, 1, (⟨#[109, 101]⟩ : ByteArray), 9, (⟨#[]⟩ : ByteArray), false⟩ : S36)] 0 (⟨#[109, 101]⟩ : ByteArray) true 167772161 10 0 (⟨#[112, 99]⟩ : ByteArray) LA 1 10 0 W hE hcE hR hcR hS hcS hL (Nat.le_refl 1) F1))
 have C2 := am_ (fun W (AE : Option Addr) (cE : Nat) (AR : Option Addr) (cR : Nat) (AS : Option Addr) (cS : Nat) (hE : Kd.C (Kd.int .i64) W AE EX.length EX) (hcE : EX.length ≤ cE) (hR : Kd.C k72 W AR RE.length RE) (hcR : RE.length ≤ cR) (hS : Kd.C k74 W AS SR.length SR) (hcS : SR.length ≤ cS) (A : Option Addr) (hL : Kd.C k36 W A 1 [(⟨10, 1, (⟨#[109, 101]⟩ : ByteArray), 9, (⟨#[]⟩ : ByteArray), false⟩ : S36)]) => (show Calls Tryd.prog 9 #[.agg #[.int .i64 10, .int .i64 13, .slice AE EX.length cE, .slice AR RE.length cR, .int .i64 100, .string ZO, .slice AS SR.length cS], .slice A 1 1, .int .i64 0, .string (⟨#[121, 111, 117]⟩ : ByteArray), .agg #[.bool true, .int .i64 167772161, .int .i64 10, .int .i64 0, .string (⟨#[]⟩ : ByteArray)]] W fun e w' => ∃ v0_ : Value, e = .returned (.tuple #[v0_, .int .i64 2, .int .i64 0, .int .i64 0]) ∧ Kd.R k36 36 w' W.heap.size (fun _ => True) v0_ [(⟨10, 1, (⟨#[109, 101]⟩ : ByteArray), 9, (⟨#[]⟩ : ByteArray), false⟩ : S36)] ∧ Below W.heap.size W w' from claim_Claim.calls 10 13 AE cE EX AR cR RE 100 ZO AS cS SR A 1 [(⟨10, 1, (⟨#[109, 101]⟩ : ByteArray), 9, (⟨#[]⟩ : ByteArray), false⟩ : S36)] 0 (⟨#[121, 111, 117]⟩ : ByteArray) true 167772161 10 0 (⟨#[]⟩ : ByteArray) [(⟨10, 1, (⟨#[109, 101]⟩ : ByteArray), 9, (⟨#[]⟩ : ByteArray), false⟩ : S36)] 2 0 0 W hE hcE hR hcR hS hcS hL (Nat.le_refl 1) F2))
 have C3 := am_ (fun W (AE : Option Addr) (cE : Nat) (AR : Option Addr) (cR : Nat) (AS : Option Addr) (cS : Nat) (hE : Kd.C (Kd.int .i64) W AE EX.length EX) (hcE : EX.length ≤ cE) (hR : Kd.C k72 W AR RE.length RE) (hcR : RE.length ≤ cR) (hS : Kd.C k74 W AS SR.length SR) (hcS : SR.length ≤ cS) (A : Option Addr) (hL : Kd.C k36 W A 1 [(⟨10, 1, (⟨#[109, 101]⟩ : ByteArray), 9, (⟨#[]⟩ : ByteArray), false⟩ : S36)]) => (show Calls Tryd.prog 9 #[.agg #[.int .i64 10, .int .i64 13, .slice AE EX.length cE, .slice AR RE.length cR, .int .i64 100, .string ZO, .slice AS SR.length cS], .slice A 1 1, .int .i64 0, .string (⟨#[109, 101]⟩ : ByteArray), .agg #[.bool true, .int .i64 5, .int .i64 10, .int .i64 0, .string (⟨#[]⟩ : ByteArray)]] W fun e w' => ∃ v0_ : Value, e = .returned (.tuple #[v0_, .int .i64 0, .int .i64 0, .int .i64 0]) ∧ Kd.R k36 36 w' W.heap.size (fun _ => True) v0_ LB ∧ Below W.heap.size W w' from claim_Claim.calls 10 13 AE cE EX AR cR RE 100 ZO AS cS SR A 1 [(⟨10, 1, (⟨#[109, 101]⟩ : ByteArray), 9, (⟨#[]⟩ : ByteArray), false⟩ : S36)] 0 (⟨#[109, 101]⟩ : ByteArray) true 5 10 0 (⟨#[]⟩ : ByteArray) LB 0 0 0 W hE hcE hR hcR hS hcS hL (Nat.le_refl 1) F3))
 have C4 := am_ (fun W (AE : Option Addr) (cE : Nat) (AR : Option Addr) (cR : Nat) (AS : Option Addr) (cS : Nat) (hE : Kd.C (Kd.int .i64) W AE EX.length EX) (hcE : EX.length ≤ cE) (hR : Kd.C k72 W AR RE.length RE) (hcR : RE.length ≤ cR) (hS : Kd.C k74 W AS SR.length SR) (hcS : SR.length ≤ cS) (A : Option Addr) (c : Nat) (hL : Kd.C k36 W A LA.length LA) (hc : LA.length ≤ c) => (show Calls Tryd.prog 9 #[.agg #[.int .i64 10, .int .i64 13, .slice AE EX.length cE, .slice AR RE.length cR, .int .i64 100, .string ZO, .slice AS SR.length cS], .slice A LA.length c, .int .i64 50, .string (⟨#[109, 101]⟩ : ByteArray), .agg #[.bool false, .int .i64 0, .int .i64 0, .int .i64 10, .string (⟨#[]⟩ : ByteArray)]] W fun e w' => ∃ v0_ : Value, e = .returned (.tuple #[v0_, .int .i64 1, .int .i64 10, .int .i64 0]) ∧ Kd.R k36 36 w' W.heap.size (fun _ => True) v0_ LD ∧ Below W.heap.size W w' from claim_Claim.calls 10 13 AE cE EX AR cR RE 100 ZO AS cS SR A c LA 50 (⟨#[109, 101]⟩ : ByteArray) false 0 0 10 (⟨#[]⟩ : ByteArray) LD 1 10 0 W hE hcE hR hcR hS hcS hL hc F4))
 have C5 := am_ (fun W (AE : Option Addr) (cE : Nat) (AR : Option Addr) (cR : Nat) (AS : Option Addr) (cS : Nat) (hE : Kd.C (Kd.int .i64) W AE EX.length EX) (hcE : EX.length ≤ cE) (hR : Kd.C k72 W AR RE.length RE) (hcR : RE.length ≤ cR) (hS : Kd.C k74 W AS SR.length SR) (hcS : SR.length ≤ cS)  => (show Calls Tryd.prog 9 #[.agg #[.int .i64 10, .int .i64 13, .slice AE EX.length cE, .slice AR RE.length cR, .int .i64 100, .string ZO, .slice AS SR.length cS], .slice none 0 0, .int .i64 0, .string (⟨#[109, 101]⟩ : ByteArray), .agg #[.bool false, .int .i64 0, .int .i64 10, .int .i64 0, .string (⟨#[]⟩ : ByteArray)]] W fun e w' => ∃ v0_ : Value, e = .returned (.tuple #[v0_, .int .i64 0, .int .i64 0, .int .i64 0]) ∧ Kd.R k36 36 w' W.heap.size (fun _ => True) v0_ [] ∧ Below W.heap.size W w' from claim_Claim.calls 10 13 AE cE EX AR cR RE 100 ZO AS cS SR none 0 [] 0 (⟨#[109, 101]⟩ : ByteArray) false 0 10 0 (⟨#[]⟩ : ByteArray) [] 0 0 0 W hE hcE hR hcR hS hcS (Kd.R_reads' (show Kd.R k36 36 W 0 (fun _ => True) (.slice none 0 0) [] from Kd.R_nil _ _ _ _ _)).2.2 (Nat.le_refl 0) F5))
 have C6 := am_ (fun W (AE : Option Addr) (cE : Nat) (AR : Option Addr) (cR : Nat) (AS : Option Addr) (cS : Nat) (hE : Kd.C (Kd.int .i64) W AE EX.length EX) (hcE : EX.length ≤ cE) (hR : Kd.C k72 W AR RE.length RE) (hcR : RE.length ≤ cR) (hS : Kd.C k74 W AS SR.length SR) (hcS : SR.length ≤ cS)  => (show Calls Tryd.prog 9 #[.agg #[.int .i64 10, .int .i64 13, .slice AE EX.length cE, .slice AR RE.length cR, .int .i64 100, .string ZO, .slice AS SR.length cS], .slice none 0 0, .int .i64 0, .string (⟨#[]⟩ : ByteArray), .agg #[.bool false, .int .i64 0, .int .i64 0, .int .i64 0, .string (⟨#[]⟩ : ByteArray)]] W fun e w' => ∃ v0_ : Value, e = .returned (.tuple #[v0_, .int .i64 0, .int .i64 0, .int .i64 1700]) ∧ Kd.R k36 36 w' W.heap.size (fun _ => True) v0_ [] ∧ Below W.heap.size W w' from claim_Claim.calls 10 13 AE cE EX AR cR RE 100 ZO AS cS SR none 0 [] 0 (⟨#[]⟩ : ByteArray) false 0 0 0 (⟨#[]⟩ : ByteArray) [] 0 0 1700 W hE hcE hR hcR hS hcS (Kd.R_reads' (show Kd.R k36 36 W 0 (fun _ => True) (.slice none 0 0) [] from Kd.R_nil _ _ _ _ _)).2.2 (Nat.le_refl 0) F6))
 have CN := am_ (fun (x : Int) W => pinfoldlaw0_Num.calls x x W rfl)
 have CS1 := am_ (fun W A c (hA : Kd.C k36 W A LA.length LA) (hc : LA.length ≤ c) => (show Calls Tryd.prog 17 #[.slice A LA.length c, .slice (some ⟨W.heap.size, 0, none⟩) 1 1] (W.alloc (.cells #[.int .i64 10, .int .i64 2, .string (⟨#[109, 101]⟩ : ByteArray), .int .i64 100, .string (⟨#[112, 99]⟩ : ByteArray), .bool true] 36)) fun e w' => e = .returned (.bool true) ∧ Drawn0 (W.alloc (.cells #[.int .i64 10, .int .i64 2, .string (⟨#[109, 101]⟩ : ByteArray), .int .i64 100, .string (⟨#[112, 99]⟩ : ByteArray), .bool true] 36)) w' from pinfoldlaw0_SameLeases.calls 5 A c LA (some ⟨W.heap.size, 0, none⟩) 1 [(⟨10, 2, (⟨#[109, 101]⟩ : ByteArray), 100, (⟨#[112, 99]⟩ : ByteArray), true⟩ : S36)] true (W.alloc (.cells #[.int .i64 10, .int .i64 2, .string (⟨#[109, 101]⟩ : ByteArray), .int .i64 100, .string (⟨#[112, 99]⟩ : ByteArray), .bool true] 36)) (c1_ hA _) hc (pinfoldlaw17_awake.lit W (⟨10, 2, (⟨#[109, 101]⟩ : ByteArray), 100, (⟨#[112, 99]⟩ : ByteArray), true⟩ : S36)) (Nat.le_refl 1) S1))
 have CS2 := am_ (fun W g (hg : W.heap.size = g) A c (hA : Kd.C k36 W A LB.length LB) (hc : LB.length ≤ c) => (show Calls Tryd.prog 17 #[.slice A LB.length c, .slice (some ⟨g, 0, none⟩) 1 1] (W.alloc (.cells #[.int .i64 10, .int .i64 0, .string (⟨#[109, 101]⟩ : ByteArray), .int .i64 9, .string (⟨#[]⟩ : ByteArray), .bool false] 36)) fun e w' => e = .returned (.bool true) ∧ Drawn0 (W.alloc (.cells #[.int .i64 10, .int .i64 0, .string (⟨#[109, 101]⟩ : ByteArray), .int .i64 9, .string (⟨#[]⟩ : ByteArray), .bool false] 36)) w' from pinfoldlaw0_SameLeases.calls 5 A c LB (some ⟨g, 0, none⟩) 1 [(⟨10, 0, (⟨#[109, 101]⟩ : ByteArray), 9, (⟨#[]⟩ : ByteArray), false⟩ : S36)] true (W.alloc (.cells #[.int .i64 10, .int .i64 0, .string (⟨#[109, 101]⟩ : ByteArray), .int .i64 9, .string (⟨#[]⟩ : ByteArray), .bool false] 36)) (c1_ hA _) hc (pinfoldlaw17_awake.lit2 W (⟨10, 0, (⟨#[109, 101]⟩ : ByteArray), 9, (⟨#[]⟩ : ByteArray), false⟩ : S36) g hg) (Nat.le_refl 1) S2))
 have HD0 := am_ hD0
 clear F1 F2 F3 F4 F5 F6 S1 S2 hEX hRE hZO hSR hLA hLB hLD hD0
 go_enter Tryd.func8, Tryd.ntmps8
 go_wp2_with (first | (go_at_call 16; (with_reducible refine (CG.out _).mono ?_); rintro e w1 ⟨v1, v2, v3, rfl, ho1, ho2, ho3, hb2⟩; obtain ⟨AE, cE, rfl, hcE, hE⟩ := Kd.R_reads ho1; obtain ⟨AR, cR, rfl, hcR, hR⟩ := Kd.R_reads ho2; obtain ⟨AS, cS, rfl, hcS, hS⟩ := Kd.R_reads ho3; have HCE := am_ hcE; have HCR := am_ hcR; have HCS := am_ hcS; have HE := am_ (c1_ hE (.cells #[.int .i64 10, .int .i64 13, .slice AE EX.length cE, .slice AR RE.length cR, .int .i64 100, .string ZO, .slice AS SR.length cS] 26)); have HR := am_ (c1_ hR (.cells #[.int .i64 10, .int .i64 13, .slice AE EX.length cE, .slice AR RE.length cR, .int .i64 100, .string ZO, .slice AS SR.length cS] 26)); have HS := am_ (c1_ hS (.cells #[.int .i64 10, .int .i64 13, .slice AE EX.length cE, .slice AR RE.length cR, .int .i64 100, .string ZO, .slice AS SR.length cS] 26)); have BK := am_ (blk_new w1 (.cells #[.int .i64 10, .int .i64 13, .slice AE EX.length cE, .slice AR RE.length cR, .int .i64 100, .string ZO, .slice AS SR.length cS] 26)); have HB := am_ (p3_ hb2 (.cells #[.int .i64 10, .int .i64 13, .slice AE EX.length cE, .slice AR RE.length cR, .int .i64 100, .string ZO, .slice AS SR.length cS] 26)); clear ho1 ho2 ho3 hE hR hS hcE hcR hcS hb2; have u := fun k => bc_ BK.out k) | (go_at_call 9; replace HE := am_ (c1_ HE.out (.cells #[.int .i64 10, .int .i64 1, .string (⟨#[109, 101]⟩ : ByteArray), .int .i64 9, .string (⟨#[]⟩ : ByteArray), .bool false] 36)); replace HR := am_ (c1_ HR.out (.cells #[.int .i64 10, .int .i64 1, .string (⟨#[109, 101]⟩ : ByteArray), .int .i64 9, .string (⟨#[]⟩ : ByteArray), .bool false] 36)); replace HS := am_ (c1_ HS.out (.cells #[.int .i64 10, .int .i64 1, .string (⟨#[109, 101]⟩ : ByteArray), .int .i64 9, .string (⟨#[]⟩ : ByteArray), .bool false] 36)); replace BK := am_ (k1_ BK.out (.cells #[.int .i64 10, .int .i64 1, .string (⟨#[109, 101]⟩ : ByteArray), .int .i64 9, .string (⟨#[]⟩ : ByteArray), .bool false] 36)); replace HB := am_ (p3_ HB.out (.cells #[.int .i64 10, .int .i64 1, .string (⟨#[109, 101]⟩ : ByteArray), .int .i64 9, .string (⟨#[]⟩ : ByteArray), .bool false] 36)); have HL := am_ (pinfoldlaw17_awake.lit2 (w1.alloc (.cells #[.int .i64 10, .int .i64 13, .slice AE EX.length cE, .slice AR RE.length cR, .int .i64 100, .string ZO, .slice AS SR.length cS] 26)) (⟨10, 1, (⟨#[109, 101]⟩ : ByteArray), 9, (⟨#[]⟩ : ByteArray), false⟩ : S36) (w1.heap.size + 1) (by simp)); (with_reducible refine (C1.out _ _ _ _ _ _ _ HE.out HCE.out HR.out HCR.out HS.out HCS.out _ HL.out).mono ?_); rintro e w2 ⟨v, rfl, hv, hb2⟩; obtain ⟨AA, cA, rfl, hc9, h9⟩ := Kd.R_reads hv; replace HE := am_ (c4_ HE.out hb2); replace HR := am_ (c4_ HR.out hb2); replace HS := am_ (c4_ HS.out hb2); replace HL := am_ (c4_ HL.out hb2); replace BK := am_ (kb_ BK.out hb2); replace HB := am_ (bt_ HB.out hb2); have HA := am_ h9; have HCA := am_ hc9; clear hv hb2 hc9 h9; (try clear u); have u := fun k => bc_ BK.out k) | (go_at_call 9; (with_reducible refine (C2.out _ _ _ _ _ _ _ HE.out HCE.out HR.out HCR.out HS.out HCS.out _ HL.out).mono ?_); rintro e w3 ⟨v, rfl, hv, hb2⟩; obtain ⟨A2, c2, rfl, hc9, h9⟩ := Kd.R_reads hv; replace HE := am_ (c4_ HE.out hb2); replace HR := am_ (c4_ HR.out hb2); replace HS := am_ (c4_ HS.out hb2); replace HL := am_ (c4_ HL.out hb2); replace HA := am_ (c4_ HA.out hb2); replace BK := am_ (kb_ BK.out hb2); replace HB := am_ (bt_ HB.out hb2); clear hv hb2 hc9 h9; (try clear u); have u := fun k => bc_ BK.out k) | (go_at_call 9; (with_reducible refine (C3.out _ _ _ _ _ _ _ HE.out HCE.out HR.out HCR.out HS.out HCS.out _ HL.out).mono ?_); rintro e w4 ⟨v, rfl, hv, hb2⟩; obtain ⟨AB, cB, rfl, hc9, h9⟩ := Kd.R_reads hv; replace HE := am_ (c4_ HE.out hb2); replace HR := am_ (c4_ HR.out hb2); replace HS := am_ (c4_ HS.out hb2); replace HL := am_ (c4_ HL.out hb2); replace HA := am_ (c4_ HA.out hb2); replace BK := am_ (kb_ BK.out hb2); replace HB := am_ (bt_ HB.out hb2); have HBr := am_ h9; have HCB := am_ hc9; clear hv hb2 hc9 h9; (try clear u); have u := fun k => bc_ BK.out k) | (go_at_call 9; (with_reducible refine (C4.out _ _ _ _ _ _ _ HE.out HCE.out HR.out HCR.out HS.out HCS.out _ _ HA.out HCA.out).mono ?_); rintro e w5 ⟨v, rfl, hv, hb2⟩; obtain ⟨AD, cD, rfl, hc9, h9⟩ := Kd.R_reads hv; replace HE := am_ (c4_ HE.out hb2); replace HR := am_ (c4_ HR.out hb2); replace HS := am_ (c4_ HS.out hb2); replace HA := am_ (c4_ HA.out hb2); replace HBr := am_ (c4_ HBr.out hb2); replace BK := am_ (kb_ BK.out hb2); replace HB := am_ (bt_ HB.out hb2); have HD := am_ h9; have HCD := am_ hc9; clear hv hb2 hc9 h9; (try clear u); have u := fun k => bc_ BK.out k) | (go_at_call 9; (with_reducible refine (C5.out _ _ _ _ _ _ _ HE.out HCE.out HR.out HCR.out HS.out HCS.out ).mono ?_); rintro e w6 ⟨v, rfl, hv, hb2⟩; obtain ⟨A5, c5, rfl, hc9, h9⟩ := Kd.R_reads hv; replace HE := am_ (c4_ HE.out hb2); replace HR := am_ (c4_ HR.out hb2); replace HS := am_ (c4_ HS.out hb2); replace HA := am_ (c4_ HA.out hb2); replace HBr := am_ (c4_ HBr.out hb2); replace HD := am_ (c4_ HD.out hb2); replace BK := am_ (kb_ BK.out hb2); replace HB := am_ (bt_ HB.out hb2); clear hv hb2 hc9 h9; (try clear u); have u := fun k => bc_ BK.out k) | (go_at_call 9; (with_reducible refine (C6.out _ _ _ _ _ _ _ HE.out HCE.out HR.out HCR.out HS.out HCS.out ).mono ?_); rintro e w7 ⟨v, rfl, hv, hb2⟩; obtain ⟨A6, c6, rfl, hc9, h9⟩ := Kd.R_reads hv; replace HE := am_ (c4_ HE.out hb2); replace HR := am_ (c4_ HR.out hb2); replace HS := am_ (c4_ HS.out hb2); replace HA := am_ (c4_ HA.out hb2); replace HBr := am_ (c4_ HBr.out hb2); replace HD := am_ (c4_ HD.out hb2); replace BK := am_ (kb_ BK.out hb2); replace HB := am_ (bt_ HB.out hb2); clear hv hb2 hc9 h9; (try clear u); have u := fun k => bc_ BK.out k) | (go_at_call 17; (with_reducible refine (CS1.out w7 _ _ HA.out HCA.out).mono ?_); rintro e w8 ⟨rfl, ⟨nd, rfl⟩⟩; replace HBr := am_ (c1_ HBr.out (.cells #[.int .i64 10, .int .i64 2, .string (⟨#[109, 101]⟩ : ByteArray), .int .i64 100, .string (⟨#[112, 99]⟩ : ByteArray), .bool true] 36)); replace HD := am_ (c1_ HD.out (.cells #[.int .i64 10, .int .i64 2, .string (⟨#[109, 101]⟩ : ByteArray), .int .i64 100, .string (⟨#[112, 99]⟩ : ByteArray), .bool true] 36)); replace HB := am_ (p3_ HB.out (.cells #[.int .i64 10, .int .i64 2, .string (⟨#[109, 101]⟩ : ByteArray), .int .i64 100, .string (⟨#[112, 99]⟩ : ByteArray), .bool true] 36)); obtain ⟨ad, e1, y0, y1, y2, y3, y4, y5⟩ := at_T36 HD.out 0 (by omega) (by rw [hlD]; decide); subst e1; rw [HD0.out] at y3 y4; dsimp only at y3 y4; rw [show ((0 : Int)).toNat = 0 from rfl, show 0 * 6 = 0 from rfl, (pinfoldlaw17_awake.add0 _)] at y3 y4; have Z3 := am_ (pinfoldlaw17_awake.stay y3); have Z4 := am_ (pinfoldlaw17_awake.stay y4); clear y0 y1 y2 y3 y4 y5; clear HA HE HR HS BK u) | (go_at_call 17; (with_reducible refine (CS2.out _ _ (pinfoldlaw17_awake.sz _ _ _) _ _ (by (with_reducible repeat (first | exact HBr.out | refine c2_ ?_ _ | refine c1_ ?_ _))) HCB.out).mono ?_); rintro e w8 ⟨rfl, ⟨nd2, rfl⟩⟩; have z3 := Z3.out; have z4 := Z4.out) | (go_at_call 10; (with_reducible refine (CN.out _ _).mono ?_); rintro e wn ⟨rfl, ⟨nd, rfl⟩⟩))
 go_ret
 exact ⟨rfl, by repeat (with_reducible first | exact HB.out | apply p3_ | apply p1_)⟩

/-! ### pinfoldlaw17_ClaimForms: function 4 -/
-- BY HAND
-- 8 16 9 10
-- inc given17.inc
abbrev gEx : List Int := [12]
abbrev gRes : List S72 := [⟨(⟨#[118, 105, 112]⟩ : ByteArray), 13⟩]
abbrev gZone : ByteArray := ⟨#[108, 97, 110]⟩
abbrev gRR : List S74 := [⟨(⟨#[119, 119, 119, 46, 108, 97, 110]⟩ : ByteArray), 1, 5, 7, (⟨#[]⟩ : ByteArray), (⟨#[]⟩ : ByteArray), 0⟩]
theorem given_eq : pinfoldlaw17_given.f = some (10, 13, gEx, gRes, 100, gZone, gRR) := rfl
theorem given_fit : confFit gEx gRes gZone gRR := by unfold confFit; decide
theorem pinfoldlaw17_ClaimForms.no {a0 a1 : Int} {l2 : List Int} {l3 : List S72} {a4 : Int} {z : ByteArray} {l6 : List S74} {ls : List S36} {now : Int} {c : ByteArray} {q0 : Bool} {q1 q2 q3 : Int} {q4 : ByteArray} (hf : pickFit l2 l3 z l6 ls) (hq : q4.size ≤ 140737488351232)
  (hb : (pickMayB a0 a1 l2 l3 a4 z l6 ls now c && (decide (0 ≤ now ∧ now ≤ 1099510579200) && reqB q0 q1 q2 q3 q4)) = false) : claim_Claim.f a0 a1 l2 l3 a4 z l6 ls now c q0 q1 q2 q3 q4 = some ([], 0, 0, 1700) := by
 unfold claim_Claim.f claimV
 rw [if_pos ⟨hf, hq⟩, if_neg (by rw [hb]; decide)]
theorem pinfoldlaw17_ClaimForms.nq {a b r : Bool} (h : r = false) : (a && (b && r)) = false := by rw [h, Bool.and_false, Bool.and_false]
theorem pinfoldlaw17_ClaimForms.nt {a b r : Bool} (h : b = false) : (a && (b && r)) = false := by rw [h, Bool.false_and, Bool.and_false]
theorem pinfoldlaw17_ClaimForms.fn : tabFit ([] : List S36) := by unfold tabFit; decide
theorem pinfoldlaw17_ClaimForms.fz : tabFit [(⟨0, 0, (⟨#[]⟩ : ByteArray), 0, (⟨#[]⟩ : ByteArray), false⟩ : S36)] := by unfold tabFit; decide
def pinfoldlaw17_ClaimForms.f (_a0 _a1 : Int) : Option Bool := some true
theorem pinfoldlaw17_ClaimForms.n0 : claim_Claim.f 10 13 gEx gRes 0 gZone gRR [] 0 (⟨#[109, 101]⟩ : ByteArray) false 0 10 0 (⟨#[]⟩ : ByteArray) = some ([], 0, 0, 1700) := pinfoldlaw17_ClaimForms.no ⟨given_fit, pinfoldlaw17_ClaimForms.fn⟩ (by decide) (by kernel_rfl)
theorem pinfoldlaw17_ClaimForms.n1 : claim_Claim.f 10 13 gEx gRes 100 gZone gRR [(⟨0, 0, (⟨#[]⟩ : ByteArray), 0, (⟨#[]⟩ : ByteArray), false⟩ : S36)] 0 (⟨#[109, 101]⟩ : ByteArray) false 0 10 0 (⟨#[]⟩ : ByteArray) = some ([], 0, 0, 1700) := pinfoldlaw17_ClaimForms.no ⟨given_fit, pinfoldlaw17_ClaimForms.fz⟩ (by decide) (by kernel_rfl)
theorem pinfoldlaw17_ClaimForms.n2 (e : Int) (h0 : 0 ≤ e) (h1 : e < 1024) : claim_Claim.f 10 13 gEx gRes 100 gZone gRR [] (-(1 + e)) (⟨#[109, 101]⟩ : ByteArray) false 0 10 0 (⟨#[]⟩ : ByteArray) = some ([], 0, 0, 1700) := pinfoldlaw17_ClaimForms.no ⟨given_fit, pinfoldlaw17_ClaimForms.fn⟩ (by decide) (pinfoldlaw17_ClaimForms.nt (decide_eq_false (by omega)))
theorem pinfoldlaw17_ClaimForms.n3 (e : Int) (h0 : 0 ≤ e) (h1 : e < 1024) : claim_Claim.f 10 13 gEx gRes 100 gZone gRR [] (1099510579200 + (1 + e)) (⟨#[109, 101]⟩ : ByteArray) false 0 10 0 (⟨#[]⟩ : ByteArray) = some ([], 0, 0, 1700) := pinfoldlaw17_ClaimForms.no ⟨given_fit, pinfoldlaw17_ClaimForms.fn⟩ (by decide) (pinfoldlaw17_ClaimForms.nt (decide_eq_false (by omega)))
theorem pinfoldlaw17_ClaimForms.n4 : claim_Claim.f 10 13 gEx gRes 100 gZone gRR [] 0 (⟨#[]⟩ : ByteArray) false 0 10 0 (⟨#[]⟩ : ByteArray) = some ([], 0, 0, 1700) := pinfoldlaw17_ClaimForms.no ⟨given_fit, pinfoldlaw17_ClaimForms.fn⟩ (by decide) (by kernel_rfl)
theorem pinfoldlaw17_ClaimForms.n5 : claim_Claim.f 10 13 gEx gRes 100 gZone gRR [] 0 (⟨#[109, 101]⟩ : ByteArray) false 0 10 0 (⟨#[65]⟩ : ByteArray) = some ([], 0, 0, 1700) := pinfoldlaw17_ClaimForms.no ⟨given_fit, pinfoldlaw17_ClaimForms.fn⟩ (by decide) (by kernel_rfl)
theorem pinfoldlaw17_ClaimForms.n6 (e : Int) (h0 : 0 ≤ e) (h1 : e < 1024) : claim_Claim.f 10 13 gEx gRes 100 gZone gRR [] 0 (⟨#[109, 101]⟩ : ByteArray) false (1 + e) 10 0 (⟨#[]⟩ : ByteArray) = some ([], 0, 0, 1700) := pinfoldlaw17_ClaimForms.no ⟨given_fit, pinfoldlaw17_ClaimForms.fn⟩ (by decide) (pinfoldlaw17_ClaimForms.nq (by unfold reqB; rw [decide_eq_false (show ¬ (1 + e = 0) by omega)]; simp))
theorem pinfoldlaw17_ClaimForms.n7 (e : Int) (h0 : 0 ≤ e) (h1 : e < 1024) : claim_Claim.f 10 13 gEx gRes 100 gZone gRR [] 0 (⟨#[109, 101]⟩ : ByteArray) false 0 (-(1 + e)) 0 (⟨#[]⟩ : ByteArray) = some ([], 0, 0, 1700) := pinfoldlaw17_ClaimForms.no ⟨given_fit, pinfoldlaw17_ClaimForms.fn⟩ (by decide) (pinfoldlaw17_ClaimForms.nq (by unfold reqB; rw [decide_eq_false (show ¬ (0 ≤ -(1 + e)) by omega)]; simp))
theorem pinfoldlaw17_ClaimForms.n8 (e : Int) (h0 : 0 ≤ e) (h1 : e < 1024) : claim_Claim.f 10 13 gEx gRes 100 gZone gRR [] 0 (⟨#[109, 101]⟩ : ByteArray) false 0 10 (-(1 + e)) (⟨#[]⟩ : ByteArray) = some ([], 0, 0, 1700) := pinfoldlaw17_ClaimForms.no ⟨given_fit, pinfoldlaw17_ClaimForms.fn⟩ (by decide) (pinfoldlaw17_ClaimForms.nq (by unfold reqB; rw [decide_eq_false (show ¬ (0 ≤ -(1 + e)) by omega)]; simp))
theorem pinfoldlaw17_ClaimForms.n9 (e : Int) (h0 : 0 ≤ e) (h1 : e < 1024) : claim_Claim.f 10 13 gEx gRes 100 gZone gRR [] 0 (⟨#[109, 101]⟩ : ByteArray) true (-(1 + e)) 10 0 (⟨#[]⟩ : ByteArray) = some ([], 0, 0, 1700) := pinfoldlaw17_ClaimForms.no ⟨given_fit, pinfoldlaw17_ClaimForms.fn⟩ (by decide) (pinfoldlaw17_ClaimForms.nq (by unfold reqB; rw [decide_eq_false (show ¬ (0 ≤ -(1 + e)) by omega)]; simp))
set_option maxHeartbeats 8000000 in
set_option maxRecDepth 100000 in
theorem pinfoldlaw17_ClaimForms.c0 (a0 a1 e : Int) (h0 : 0 ≤ e) (h1 : e < 1024) (hbits : Go.bits .and .i64 a1 1023 = e) (t0 : (Int.tmod (IntKind.u64.wrap a0) 10 == 0) = true) (w : World) :
  Calls Tryd.prog 4 #[.int .i64 a0, .int .i64 a1] w fun e w' => e = .returned (.bool true) ∧ Below w.heap.size w w' := by
 obtain ⟨EX, hEX⟩ : ∃ l, gEx = l := ⟨_, rfl⟩
 obtain ⟨RE, hRE⟩ : ∃ l, gRes = l := ⟨_, rfl⟩
 obtain ⟨ZO, hZO⟩ : ∃ l, gZone = l := ⟨_, rfl⟩
 obtain ⟨SR, hSR⟩ : ∃ l, gRR = l := ⟨_, rfl⟩
 have F := pinfoldlaw17_ClaimForms.n0
 rw [hEX, hRE, hZO, hSR] at F
 have CA := am_ (fun W => pinfoldlaw17_awake.calls true W rfl)
 have CG := am_ (fun W => pinfoldlaw17_given.calls 10 13 EX RE 100 ZO SR W (by rw [← hEX, ← hRE, ← hZO, ← hSR]; rfl))
 have CN := am_ (fun (x : Int) W => pinfoldlaw0_Num.calls x x W rfl)
 have CC := am_ (fun W (AE : Option Addr) (cE : Nat) (AR : Option Addr) (cR : Nat) (AS : Option Addr) (cS : Nat) (hE : Kd.C (Kd.int .i64) W AE EX.length EX) (hcE : EX.length ≤ cE) (hR : Kd.C k72 W AR RE.length RE) (hcR : RE.length ≤ cR) (hS : Kd.C k74 W AS SR.length SR) (hcS : SR.length ≤ cS) => (show Calls Tryd.prog 9 #[.agg #[.int .i64 10, .int .i64 13, .slice AE EX.length cE, .slice AR RE.length cR, .int .i64 0, .string ZO, .slice AS SR.length cS], .slice none 0 0, .int .i64 0, .string (⟨#[109, 101]⟩ : ByteArray), .agg #[.bool false, .int .i64 0, .int .i64 10, .int .i64 0, .string (⟨#[]⟩ : ByteArray)]] W fun e w' => ∃ v0_ : Value, e = .returned (.tuple #[v0_, .int .i64 0, .int .i64 0, .int .i64 1700]) ∧ Kd.R k36 36 w' W.heap.size (fun _ => True) v0_ [] ∧ Below W.heap.size W w' from claim_Claim.calls 10 13 AE cE EX AR cR RE 0 ZO AS cS SR none 0 [] 0 (⟨#[109, 101]⟩ : ByteArray) false 0 10 0 (⟨#[]⟩ : ByteArray) [] 0 0 1700 W hE hcE hR hcR hS hcS (Kd.C_nil _ _) (Nat.le_refl 0) F))
 have HB := am_ (Below.refl w.heap.size w)
 clear F hEX hRE hZO hSR
 go_enter Tryd.func4, Tryd.ntmps4
 go_wp2_with (first
  | (go_at_call 8; (with_reducible refine (CA.out _).mono ?_); rintro e w1 ⟨rfl, hb2⟩; replace HB := am_ (bt_ HB.out hb2); clear hb2)
  | (go_at_call 16; (with_reducible refine (CG.out _).mono ?_); rintro e w2 ⟨v1, v2, v3, rfl, ho1, ho2, ho3, hb2⟩; obtain ⟨AE, cE, rfl, hcE, hE⟩ := Kd.R_reads ho1; obtain ⟨AR, cR, rfl, hcR, hR⟩ := Kd.R_reads ho2; obtain ⟨AS, cS, rfl, hcS, hS⟩ := Kd.R_reads ho3; have HCE := am_ hcE; have HCR := am_ hcR; have HCS := am_ hcS; have HE := am_ hE; have HR := am_ hR; have HS := am_ hS; replace HB := am_ (bt_ HB.out hb2); clear ho1 ho2 ho3 hE hR hS hcE hcR hcS hb2)
  | (go_at_call 9; (with_reducible refine (CC.out _ _ _ _ _ _ _ (by (with_reducible repeat (first | exact HE.out | refine c2_ ?_ _ | refine c3_ ?_ | refine c1_ ?_ _))) HCE.out (by (with_reducible repeat (first | exact HR.out | refine c2_ ?_ _ | refine c3_ ?_ | refine c1_ ?_ _))) HCR.out (by (with_reducible repeat (first | exact HS.out | refine c2_ ?_ _ | refine c3_ ?_ | refine c1_ ?_ _))) HCS.out).mono ?_); rintro e w3 ⟨v, rfl, hv, hb2⟩; obtain ⟨A9, c9, rfl, hc9, h9⟩ := Kd.R_reads hv; replace HB := am_ (bt_ (by repeat (with_reducible first | exact HB.out | apply p3_ | apply p1_ | apply p2_)) hb2); clear hv hb2 hc9 h9)
  | (go_at_call 10; (with_reducible refine (CN.out _ _).mono ?_); rintro e wn ⟨rfl, ⟨nd, rfl⟩⟩))
 go_ret
 exact ⟨rfl, (by repeat (with_reducible first | exact HB.out | apply p3_ | apply p1_ | apply p2_))⟩
set_option maxHeartbeats 8000000 in
set_option maxRecDepth 100000 in
theorem pinfoldlaw17_ClaimForms.c1 (a0 a1 e : Int) (h0 : 0 ≤ e) (h1 : e < 1024) (hbits : Go.bits .and .i64 a1 1023 = e) (t0 : (Int.tmod (IntKind.u64.wrap a0) 10 == 0) = false) (t1 : (Int.tmod (IntKind.u64.wrap a0) 10 == 1) = true) (w : World) :
  Calls Tryd.prog 4 #[.int .i64 a0, .int .i64 a1] w fun e w' => e = .returned (.bool true) ∧ Below w.heap.size w w' := by
 obtain ⟨EX, hEX⟩ : ∃ l, gEx = l := ⟨_, rfl⟩
 obtain ⟨RE, hRE⟩ : ∃ l, gRes = l := ⟨_, rfl⟩
 obtain ⟨ZO, hZO⟩ : ∃ l, gZone = l := ⟨_, rfl⟩
 obtain ⟨SR, hSR⟩ : ∃ l, gRR = l := ⟨_, rfl⟩
 have F := pinfoldlaw17_ClaimForms.n1
 rw [hEX, hRE, hZO, hSR] at F
 have CA := am_ (fun W => pinfoldlaw17_awake.calls true W rfl)
 have CG := am_ (fun W => pinfoldlaw17_given.calls 10 13 EX RE 100 ZO SR W (by rw [← hEX, ← hRE, ← hZO, ← hSR]; rfl))
 have CN := am_ (fun (x : Int) W => pinfoldlaw0_Num.calls x x W rfl)
 have CC := am_ (fun W (AE : Option Addr) (cE : Nat) (AR : Option Addr) (cR : Nat) (AS : Option Addr) (cS : Nat) (hE : Kd.C (Kd.int .i64) W AE EX.length EX) (hcE : EX.length ≤ cE) (hR : Kd.C k72 W AR RE.length RE) (hcR : RE.length ≤ cR) (hS : Kd.C k74 W AS SR.length SR) (hcS : SR.length ≤ cS) (A : Addr) (hL : Kd.C k36 W (some A) 1 [(⟨0, 0, (⟨#[]⟩ : ByteArray), 0, (⟨#[]⟩ : ByteArray), false⟩ : S36)]) => (show Calls Tryd.prog 9 #[.agg #[.int .i64 10, .int .i64 13, .slice AE EX.length cE, .slice AR RE.length cR, .int .i64 100, .string ZO, .slice AS SR.length cS], .slice (some A) 1 1, .int .i64 0, .string (⟨#[109, 101]⟩ : ByteArray), .agg #[.bool false, .int .i64 0, .int .i64 10, .int .i64 0, .string (⟨#[]⟩ : ByteArray)]] W fun e w' => ∃ v0_ : Value, e = .returned (.tuple #[v0_, .int .i64 0, .int .i64 0, .int .i64 1700]) ∧ Kd.R k36 36 w' W.heap.size (fun _ => True) v0_ [] ∧ Below W.heap.size W w' from claim_Claim.calls 10 13 AE cE EX AR cR RE 100 ZO AS cS SR (some A) 1 [(⟨0, 0, (⟨#[]⟩ : ByteArray), 0, (⟨#[]⟩ : ByteArray), false⟩ : S36)] 0 (⟨#[109, 101]⟩ : ByteArray) false 0 10 0 (⟨#[]⟩ : ByteArray) [] 0 0 1700 W hE hcE hR hcR hS hcS hL (Nat.le_refl 1) F))
 have HB := am_ (Below.refl w.heap.size w)
 clear F hEX hRE hZO hSR
 go_enter Tryd.func4, Tryd.ntmps4
 go_wp2_with (first
  | (go_at_call 8; (with_reducible refine (CA.out _).mono ?_); rintro e w1 ⟨rfl, hb2⟩; replace HB := am_ (bt_ HB.out hb2); clear hb2)
  | (go_at_call 16; (with_reducible refine (CG.out _).mono ?_); rintro e w2 ⟨v1, v2, v3, rfl, ho1, ho2, ho3, hb2⟩; obtain ⟨AE, cE, rfl, hcE, hE⟩ := Kd.R_reads ho1; obtain ⟨AR, cR, rfl, hcR, hR⟩ := Kd.R_reads ho2; obtain ⟨AS, cS, rfl, hcS, hS⟩ := Kd.R_reads ho3; have HCE := am_ hcE; have HCR := am_ hcR; have HCS := am_ hcS; have HE := am_ hE; have HR := am_ hR; have HS := am_ hS; replace HB := am_ (bt_ HB.out hb2); clear ho1 ho2 ho3 hE hR hS hcE hcR hcS hb2)
  | (go_at_call 9; (with_reducible refine (CC.out _ _ _ _ _ _ _ (by (with_reducible repeat (first | exact HE.out | refine c2_ ?_ _ | refine c3_ ?_ | refine c1_ ?_ _))) HCE.out (by (with_reducible repeat (first | exact HR.out | refine c2_ ?_ _ | refine c3_ ?_ | refine c1_ ?_ _))) HCR.out (by (with_reducible repeat (first | exact HS.out | refine c2_ ?_ _ | refine c3_ ?_ | refine c1_ ?_ _))) HCS.out _ (pinfoldlaw17_awake.lit2 _ _ _ (by simp))).mono ?_); rintro e w3 ⟨v, rfl, hv, hb2⟩; obtain ⟨A9, c9, rfl, hc9, h9⟩ := Kd.R_reads hv; replace HB := am_ (bt_ (by repeat (with_reducible first | exact HB.out | apply p3_ | apply p1_ | apply p2_)) hb2); clear hv hb2 hc9 h9)
  | (go_at_call 10; (with_reducible refine (CN.out _ _).mono ?_); rintro e wn ⟨rfl, ⟨nd, rfl⟩⟩))
 go_ret
 exact ⟨rfl, (by repeat (with_reducible first | exact HB.out | apply p3_ | apply p1_ | apply p2_))⟩
set_option maxHeartbeats 8000000 in
set_option maxRecDepth 100000 in
theorem pinfoldlaw17_ClaimForms.c2 (a0 a1 e : Int) (h0 : 0 ≤ e) (h1 : e < 1024) (hbits : Go.bits .and .i64 a1 1023 = e) (t0 : (Int.tmod (IntKind.u64.wrap a0) 10 == 0) = false) (t1 : (Int.tmod (IntKind.u64.wrap a0) 10 == 1) = false) (t2 : (Int.tmod (IntKind.u64.wrap a0) 10 == 2) = true) (w : World) :
  Calls Tryd.prog 4 #[.int .i64 a0, .int .i64 a1] w fun e w' => e = .returned (.bool true) ∧ Below w.heap.size w w' := by
 obtain ⟨EX, hEX⟩ : ∃ l, gEx = l := ⟨_, rfl⟩
 obtain ⟨RE, hRE⟩ : ∃ l, gRes = l := ⟨_, rfl⟩
 obtain ⟨ZO, hZO⟩ : ∃ l, gZone = l := ⟨_, rfl⟩
 obtain ⟨SR, hSR⟩ : ∃ l, gRR = l := ⟨_, rfl⟩
 have F := pinfoldlaw17_ClaimForms.n2 e h0 h1
 rw [hEX, hRE, hZO, hSR] at F
 have CA := am_ (fun W => pinfoldlaw17_awake.calls true W rfl)
 have CG := am_ (fun W => pinfoldlaw17_given.calls 10 13 EX RE 100 ZO SR W (by rw [← hEX, ← hRE, ← hZO, ← hSR]; rfl))
 have CN := am_ (fun (x : Int) W => pinfoldlaw0_Num.calls x x W rfl)
 have CC := am_ (fun W (AE : Option Addr) (cE : Nat) (AR : Option Addr) (cR : Nat) (AS : Option Addr) (cS : Nat) (hE : Kd.C (Kd.int .i64) W AE EX.length EX) (hcE : EX.length ≤ cE) (hR : Kd.C k72 W AR RE.length RE) (hcR : RE.length ≤ cR) (hS : Kd.C k74 W AS SR.length SR) (hcS : SR.length ≤ cS) => (show Calls Tryd.prog 9 #[.agg #[.int .i64 10, .int .i64 13, .slice AE EX.length cE, .slice AR RE.length cR, .int .i64 100, .string ZO, .slice AS SR.length cS], .slice none 0 0, .int .i64 (-(1 + e)), .string (⟨#[109, 101]⟩ : ByteArray), .agg #[.bool false, .int .i64 0, .int .i64 10, .int .i64 0, .string (⟨#[]⟩ : ByteArray)]] W fun e w' => ∃ v0_ : Value, e = .returned (.tuple #[v0_, .int .i64 0, .int .i64 0, .int .i64 1700]) ∧ Kd.R k36 36 w' W.heap.size (fun _ => True) v0_ [] ∧ Below W.heap.size W w' from claim_Claim.calls 10 13 AE cE EX AR cR RE 100 ZO AS cS SR none 0 [] (-(1 + e)) (⟨#[109, 101]⟩ : ByteArray) false 0 10 0 (⟨#[]⟩ : ByteArray) [] 0 0 1700 W hE hcE hR hcR hS hcS (Kd.C_nil _ _) (Nat.le_refl 0) F))
 have HB := am_ (Below.refl w.heap.size w)
 clear F hEX hRE hZO hSR
 go_enter Tryd.func4, Tryd.ntmps4
 go_wp2_with (first
  | (go_at_call 8; (with_reducible refine (CA.out _).mono ?_); rintro e w1 ⟨rfl, hb2⟩; replace HB := am_ (bt_ HB.out hb2); clear hb2)
  | (go_at_call 16; (with_reducible refine (CG.out _).mono ?_); rintro e w2 ⟨v1, v2, v3, rfl, ho1, ho2, ho3, hb2⟩; obtain ⟨AE, cE, rfl, hcE, hE⟩ := Kd.R_reads ho1; obtain ⟨AR, cR, rfl, hcR, hR⟩ := Kd.R_reads ho2; obtain ⟨AS, cS, rfl, hcS, hS⟩ := Kd.R_reads ho3; have HCE := am_ hcE; have HCR := am_ hcR; have HCS := am_ hcS; have HE := am_ hE; have HR := am_ hR; have HS := am_ hS; replace HB := am_ (bt_ HB.out hb2); clear ho1 ho2 ho3 hE hR hS hcE hcR hcS hb2)
  | (go_at_call 9; (with_reducible refine (CC.out _ _ _ _ _ _ _ (by (with_reducible repeat (first | exact HE.out | refine c2_ ?_ _ | refine c3_ ?_ | refine c1_ ?_ _))) HCE.out (by (with_reducible repeat (first | exact HR.out | refine c2_ ?_ _ | refine c3_ ?_ | refine c1_ ?_ _))) HCR.out (by (with_reducible repeat (first | exact HS.out | refine c2_ ?_ _ | refine c3_ ?_ | refine c1_ ?_ _))) HCS.out).mono ?_); rintro e w3 ⟨v, rfl, hv, hb2⟩; obtain ⟨A9, c9, rfl, hc9, h9⟩ := Kd.R_reads hv; replace HB := am_ (bt_ (by repeat (with_reducible first | exact HB.out | apply p3_ | apply p1_ | apply p2_)) hb2); clear hv hb2 hc9 h9)
  | (go_at_call 10; (with_reducible refine (CN.out _ _).mono ?_); rintro e wn ⟨rfl, ⟨nd, rfl⟩⟩))
 go_ret
 exact ⟨rfl, (by repeat (with_reducible first | exact HB.out | apply p3_ | apply p1_ | apply p2_))⟩
set_option maxHeartbeats 8000000 in
set_option maxRecDepth 100000 in
theorem pinfoldlaw17_ClaimForms.c3 (a0 a1 e : Int) (h0 : 0 ≤ e) (h1 : e < 1024) (hbits : Go.bits .and .i64 a1 1023 = e) (t0 : (Int.tmod (IntKind.u64.wrap a0) 10 == 0) = false) (t1 : (Int.tmod (IntKind.u64.wrap a0) 10 == 1) = false) (t2 : (Int.tmod (IntKind.u64.wrap a0) 10 == 2) = false) (t3 : (Int.tmod (IntKind.u64.wrap a0) 10 == 3) = true) (w : World) :
  Calls Tryd.prog 4 #[.int .i64 a0, .int .i64 a1] w fun e w' => e = .returned (.bool true) ∧ Below w.heap.size w w' := by
 obtain ⟨EX, hEX⟩ : ∃ l, gEx = l := ⟨_, rfl⟩
 obtain ⟨RE, hRE⟩ : ∃ l, gRes = l := ⟨_, rfl⟩
 obtain ⟨ZO, hZO⟩ : ∃ l, gZone = l := ⟨_, rfl⟩
 obtain ⟨SR, hSR⟩ : ∃ l, gRR = l := ⟨_, rfl⟩
 have F := pinfoldlaw17_ClaimForms.n3 e h0 h1
 rw [hEX, hRE, hZO, hSR] at F
 have CA := am_ (fun W => pinfoldlaw17_awake.calls true W rfl)
 have CG := am_ (fun W => pinfoldlaw17_given.calls 10 13 EX RE 100 ZO SR W (by rw [← hEX, ← hRE, ← hZO, ← hSR]; rfl))
 have CN := am_ (fun (x : Int) W => pinfoldlaw0_Num.calls x x W rfl)
 have CC := am_ (fun W (AE : Option Addr) (cE : Nat) (AR : Option Addr) (cR : Nat) (AS : Option Addr) (cS : Nat) (hE : Kd.C (Kd.int .i64) W AE EX.length EX) (hcE : EX.length ≤ cE) (hR : Kd.C k72 W AR RE.length RE) (hcR : RE.length ≤ cR) (hS : Kd.C k74 W AS SR.length SR) (hcS : SR.length ≤ cS) => (show Calls Tryd.prog 9 #[.agg #[.int .i64 10, .int .i64 13, .slice AE EX.length cE, .slice AR RE.length cR, .int .i64 100, .string ZO, .slice AS SR.length cS], .slice none 0 0, .int .i64 (1099510579200 + (1 + e)), .string (⟨#[109, 101]⟩ : ByteArray), .agg #[.bool false, .int .i64 0, .int .i64 10, .int .i64 0, .string (⟨#[]⟩ : ByteArray)]] W fun e w' => ∃ v0_ : Value, e = .returned (.tuple #[v0_, .int .i64 0, .int .i64 0, .int .i64 1700]) ∧ Kd.R k36 36 w' W.heap.size (fun _ => True) v0_ [] ∧ Below W.heap.size W w' from claim_Claim.calls 10 13 AE cE EX AR cR RE 100 ZO AS cS SR none 0 [] (1099510579200 + (1 + e)) (⟨#[109, 101]⟩ : ByteArray) false 0 10 0 (⟨#[]⟩ : ByteArray) [] 0 0 1700 W hE hcE hR hcR hS hcS (Kd.C_nil _ _) (Nat.le_refl 0) F))
 have HB := am_ (Below.refl w.heap.size w)
 clear F hEX hRE hZO hSR
 go_enter Tryd.func4, Tryd.ntmps4
 go_wp2_with (first
  | (go_at_call 8; (with_reducible refine (CA.out _).mono ?_); rintro e w1 ⟨rfl, hb2⟩; replace HB := am_ (bt_ HB.out hb2); clear hb2)
  | (go_at_call 16; (with_reducible refine (CG.out _).mono ?_); rintro e w2 ⟨v1, v2, v3, rfl, ho1, ho2, ho3, hb2⟩; obtain ⟨AE, cE, rfl, hcE, hE⟩ := Kd.R_reads ho1; obtain ⟨AR, cR, rfl, hcR, hR⟩ := Kd.R_reads ho2; obtain ⟨AS, cS, rfl, hcS, hS⟩ := Kd.R_reads ho3; have HCE := am_ hcE; have HCR := am_ hcR; have HCS := am_ hcS; have HE := am_ hE; have HR := am_ hR; have HS := am_ hS; replace HB := am_ (bt_ HB.out hb2); clear ho1 ho2 ho3 hE hR hS hcE hcR hcS hb2)
  | (go_at_call 9; (with_reducible refine (CC.out _ _ _ _ _ _ _ (by (with_reducible repeat (first | exact HE.out | refine c2_ ?_ _ | refine c3_ ?_ | refine c1_ ?_ _))) HCE.out (by (with_reducible repeat (first | exact HR.out | refine c2_ ?_ _ | refine c3_ ?_ | refine c1_ ?_ _))) HCR.out (by (with_reducible repeat (first | exact HS.out | refine c2_ ?_ _ | refine c3_ ?_ | refine c1_ ?_ _))) HCS.out).mono ?_); rintro e w3 ⟨v, rfl, hv, hb2⟩; obtain ⟨A9, c9, rfl, hc9, h9⟩ := Kd.R_reads hv; replace HB := am_ (bt_ (by repeat (with_reducible first | exact HB.out | apply p3_ | apply p1_ | apply p2_)) hb2); clear hv hb2 hc9 h9)
  | (go_at_call 10; (with_reducible refine (CN.out _ _).mono ?_); rintro e wn ⟨rfl, ⟨nd, rfl⟩⟩))
 go_ret
 exact ⟨rfl, (by repeat (with_reducible first | exact HB.out | apply p3_ | apply p1_ | apply p2_))⟩
set_option maxHeartbeats 8000000 in
set_option maxRecDepth 100000 in
theorem pinfoldlaw17_ClaimForms.c4 (a0 a1 e : Int) (h0 : 0 ≤ e) (h1 : e < 1024) (hbits : Go.bits .and .i64 a1 1023 = e) (t0 : (Int.tmod (IntKind.u64.wrap a0) 10 == 0) = false) (t1 : (Int.tmod (IntKind.u64.wrap a0) 10 == 1) = false) (t2 : (Int.tmod (IntKind.u64.wrap a0) 10 == 2) = false) (t3 : (Int.tmod (IntKind.u64.wrap a0) 10 == 3) = false) (t4 : (Int.tmod (IntKind.u64.wrap a0) 10 == 4) = true) (w : World) :
  Calls Tryd.prog 4 #[.int .i64 a0, .int .i64 a1] w fun e w' => e = .returned (.bool true) ∧ Below w.heap.size w w' := by
 obtain ⟨EX, hEX⟩ : ∃ l, gEx = l := ⟨_, rfl⟩
 obtain ⟨RE, hRE⟩ : ∃ l, gRes = l := ⟨_, rfl⟩
 obtain ⟨ZO, hZO⟩ : ∃ l, gZone = l := ⟨_, rfl⟩
 obtain ⟨SR, hSR⟩ : ∃ l, gRR = l := ⟨_, rfl⟩
 have F := pinfoldlaw17_ClaimForms.n4
 rw [hEX, hRE, hZO, hSR] at F
 have CA := am_ (fun W => pinfoldlaw17_awake.calls true W rfl)
 have CG := am_ (fun W => pinfoldlaw17_given.calls 10 13 EX RE 100 ZO SR W (by rw [← hEX, ← hRE, ← hZO, ← hSR]; rfl))
 have CN := am_ (fun (x : Int) W => pinfoldlaw0_Num.calls x x W rfl)
 have CC := am_ (fun W (AE : Option Addr) (cE : Nat) (AR : Option Addr) (cR : Nat) (AS : Option Addr) (cS : Nat) (hE : Kd.C (Kd.int .i64) W AE EX.length EX) (hcE : EX.length ≤ cE) (hR : Kd.C k72 W AR RE.length RE) (hcR : RE.length ≤ cR) (hS : Kd.C k74 W AS SR.length SR) (hcS : SR.length ≤ cS) => (show Calls Tryd.prog 9 #[.agg #[.int .i64 10, .int .i64 13, .slice AE EX.length cE, .slice AR RE.length cR, .int .i64 100, .string ZO, .slice AS SR.length cS], .slice none 0 0, .int .i64 0, .string (⟨#[]⟩ : ByteArray), .agg #[.bool false, .int .i64 0, .int .i64 10, .int .i64 0, .string (⟨#[]⟩ : ByteArray)]] W fun e w' => ∃ v0_ : Value, e = .returned (.tuple #[v0_, .int .i64 0, .int .i64 0, .int .i64 1700]) ∧ Kd.R k36 36 w' W.heap.size (fun _ => True) v0_ [] ∧ Below W.heap.size W w' from claim_Claim.calls 10 13 AE cE EX AR cR RE 100 ZO AS cS SR none 0 [] 0 (⟨#[]⟩ : ByteArray) false 0 10 0 (⟨#[]⟩ : ByteArray) [] 0 0 1700 W hE hcE hR hcR hS hcS (Kd.C_nil _ _) (Nat.le_refl 0) F))
 have HB := am_ (Below.refl w.heap.size w)
 clear F hEX hRE hZO hSR
 go_enter Tryd.func4, Tryd.ntmps4
 go_wp2_with (first
  | (go_at_call 8; (with_reducible refine (CA.out _).mono ?_); rintro e w1 ⟨rfl, hb2⟩; replace HB := am_ (bt_ HB.out hb2); clear hb2)
  | (go_at_call 16; (with_reducible refine (CG.out _).mono ?_); rintro e w2 ⟨v1, v2, v3, rfl, ho1, ho2, ho3, hb2⟩; obtain ⟨AE, cE, rfl, hcE, hE⟩ := Kd.R_reads ho1; obtain ⟨AR, cR, rfl, hcR, hR⟩ := Kd.R_reads ho2; obtain ⟨AS, cS, rfl, hcS, hS⟩ := Kd.R_reads ho3; have HCE := am_ hcE; have HCR := am_ hcR; have HCS := am_ hcS; have HE := am_ hE; have HR := am_ hR; have HS := am_ hS; replace HB := am_ (bt_ HB.out hb2); clear ho1 ho2 ho3 hE hR hS hcE hcR hcS hb2)
  | (go_at_call 9; (with_reducible refine (CC.out _ _ _ _ _ _ _ (by (with_reducible repeat (first | exact HE.out | refine c2_ ?_ _ | refine c3_ ?_ | refine c1_ ?_ _))) HCE.out (by (with_reducible repeat (first | exact HR.out | refine c2_ ?_ _ | refine c3_ ?_ | refine c1_ ?_ _))) HCR.out (by (with_reducible repeat (first | exact HS.out | refine c2_ ?_ _ | refine c3_ ?_ | refine c1_ ?_ _))) HCS.out).mono ?_); rintro e w3 ⟨v, rfl, hv, hb2⟩; obtain ⟨A9, c9, rfl, hc9, h9⟩ := Kd.R_reads hv; replace HB := am_ (bt_ (by repeat (with_reducible first | exact HB.out | apply p3_ | apply p1_ | apply p2_)) hb2); clear hv hb2 hc9 h9)
  | (go_at_call 10; (with_reducible refine (CN.out _ _).mono ?_); rintro e wn ⟨rfl, ⟨nd, rfl⟩⟩))
 go_ret
 exact ⟨rfl, (by repeat (with_reducible first | exact HB.out | apply p3_ | apply p1_ | apply p2_))⟩
set_option maxHeartbeats 8000000 in
set_option maxRecDepth 100000 in
theorem pinfoldlaw17_ClaimForms.c5 (a0 a1 e : Int) (h0 : 0 ≤ e) (h1 : e < 1024) (hbits : Go.bits .and .i64 a1 1023 = e) (t0 : (Int.tmod (IntKind.u64.wrap a0) 10 == 0) = false) (t1 : (Int.tmod (IntKind.u64.wrap a0) 10 == 1) = false) (t2 : (Int.tmod (IntKind.u64.wrap a0) 10 == 2) = false) (t3 : (Int.tmod (IntKind.u64.wrap a0) 10 == 3) = false) (t4 : (Int.tmod (IntKind.u64.wrap a0) 10 == 4) = false) (t5 : (Int.tmod (IntKind.u64.wrap a0) 10 == 5) = true) (w : World) :
  Calls Tryd.prog 4 #[.int .i64 a0, .int .i64 a1] w fun e w' => e = .returned (.bool true) ∧ Below w.heap.size w w' := by
 obtain ⟨EX, hEX⟩ : ∃ l, gEx = l := ⟨_, rfl⟩
 obtain ⟨RE, hRE⟩ : ∃ l, gRes = l := ⟨_, rfl⟩
 obtain ⟨ZO, hZO⟩ : ∃ l, gZone = l := ⟨_, rfl⟩
 obtain ⟨SR, hSR⟩ : ∃ l, gRR = l := ⟨_, rfl⟩
 have F := pinfoldlaw17_ClaimForms.n5
 rw [hEX, hRE, hZO, hSR] at F
 have CA := am_ (fun W => pinfoldlaw17_awake.calls true W rfl)
 have CG := am_ (fun W => pinfoldlaw17_given.calls 10 13 EX RE 100 ZO SR W (by rw [← hEX, ← hRE, ← hZO, ← hSR]; rfl))
 have CN := am_ (fun (x : Int) W => pinfoldlaw0_Num.calls x x W rfl)
 have CC := am_ (fun W (AE : Option Addr) (cE : Nat) (AR : Option Addr) (cR : Nat) (AS : Option Addr) (cS : Nat) (hE : Kd.C (Kd.int .i64) W AE EX.length EX) (hcE : EX.length ≤ cE) (hR : Kd.C k72 W AR RE.length RE) (hcR : RE.length ≤ cR) (hS : Kd.C k74 W AS SR.length SR) (hcS : SR.length ≤ cS) => (show Calls Tryd.prog 9 #[.agg #[.int .i64 10, .int .i64 13, .slice AE EX.length cE, .slice AR RE.length cR, .int .i64 100, .string ZO, .slice AS SR.length cS], .slice none 0 0, .int .i64 0, .string (⟨#[109, 101]⟩ : ByteArray), .agg #[.bool false, .int .i64 0, .int .i64 10, .int .i64 0, .string (⟨#[65]⟩ : ByteArray)]] W fun e w' => ∃ v0_ : Value, e = .returned (.tuple #[v0_, .int .i64 0, .int .i64 0, .int .i64 1700]) ∧ Kd.R k36 36 w' W.heap.size (fun _ => True) v0_ [] ∧ Below W.heap.size W w' from claim_Claim.calls 10 13 AE cE EX AR cR RE 100 ZO AS cS SR none 0 [] 0 (⟨#[109, 101]⟩ : ByteArray) false 0 10 0 (⟨#[65]⟩ : ByteArray) [] 0 0 1700 W hE hcE hR hcR hS hcS (Kd.C_nil _ _) (Nat.le_refl 0) F))
 have HB := am_ (Below.refl w.heap.size w)
 clear F hEX hRE hZO hSR
 go_enter Tryd.func4, Tryd.ntmps4
 go_wp2_with (first
  | (go_at_call 8; (with_reducible refine (CA.out _).mono ?_); rintro e w1 ⟨rfl, hb2⟩; replace HB := am_ (bt_ HB.out hb2); clear hb2)
  | (go_at_call 16; (with_reducible refine (CG.out _).mono ?_); rintro e w2 ⟨v1, v2, v3, rfl, ho1, ho2, ho3, hb2⟩; obtain ⟨AE, cE, rfl, hcE, hE⟩ := Kd.R_reads ho1; obtain ⟨AR, cR, rfl, hcR, hR⟩ := Kd.R_reads ho2; obtain ⟨AS, cS, rfl, hcS, hS⟩ := Kd.R_reads ho3; have HCE := am_ hcE; have HCR := am_ hcR; have HCS := am_ hcS; have HE := am_ hE; have HR := am_ hR; have HS := am_ hS; replace HB := am_ (bt_ HB.out hb2); clear ho1 ho2 ho3 hE hR hS hcE hcR hcS hb2)
  | (go_at_call 9; (with_reducible refine (CC.out _ _ _ _ _ _ _ (by (with_reducible repeat (first | exact HE.out | refine c2_ ?_ _ | refine c3_ ?_ | refine c1_ ?_ _))) HCE.out (by (with_reducible repeat (first | exact HR.out | refine c2_ ?_ _ | refine c3_ ?_ | refine c1_ ?_ _))) HCR.out (by (with_reducible repeat (first | exact HS.out | refine c2_ ?_ _ | refine c3_ ?_ | refine c1_ ?_ _))) HCS.out).mono ?_); rintro e w3 ⟨v, rfl, hv, hb2⟩; obtain ⟨A9, c9, rfl, hc9, h9⟩ := Kd.R_reads hv; replace HB := am_ (bt_ (by repeat (with_reducible first | exact HB.out | apply p3_ | apply p1_ | apply p2_)) hb2); clear hv hb2 hc9 h9)
  | (go_at_call 10; (with_reducible refine (CN.out _ _).mono ?_); rintro e wn ⟨rfl, ⟨nd, rfl⟩⟩))
 go_ret
 exact ⟨rfl, (by repeat (with_reducible first | exact HB.out | apply p3_ | apply p1_ | apply p2_))⟩
set_option maxHeartbeats 8000000 in
set_option maxRecDepth 100000 in
theorem pinfoldlaw17_ClaimForms.c6 (a0 a1 e : Int) (h0 : 0 ≤ e) (h1 : e < 1024) (hbits : Go.bits .and .i64 a1 1023 = e) (t0 : (Int.tmod (IntKind.u64.wrap a0) 10 == 0) = false) (t1 : (Int.tmod (IntKind.u64.wrap a0) 10 == 1) = false) (t2 : (Int.tmod (IntKind.u64.wrap a0) 10 == 2) = false) (t3 : (Int.tmod (IntKind.u64.wrap a0) 10 == 3) = false) (t4 : (Int.tmod (IntKind.u64.wrap a0) 10 == 4) = false) (t5 : (Int.tmod (IntKind.u64.wrap a0) 10 == 5) = false) (t6 : (Int.tmod (IntKind.u64.wrap a0) 10 == 6) = true) (w : World) :
  Calls Tryd.prog 4 #[.int .i64 a0, .int .i64 a1] w fun e w' => e = .returned (.bool true) ∧ Below w.heap.size w w' := by
 obtain ⟨EX, hEX⟩ : ∃ l, gEx = l := ⟨_, rfl⟩
 obtain ⟨RE, hRE⟩ : ∃ l, gRes = l := ⟨_, rfl⟩
 obtain ⟨ZO, hZO⟩ : ∃ l, gZone = l := ⟨_, rfl⟩
 obtain ⟨SR, hSR⟩ : ∃ l, gRR = l := ⟨_, rfl⟩
 have F := pinfoldlaw17_ClaimForms.n6 e h0 h1
 rw [hEX, hRE, hZO, hSR] at F
 have CA := am_ (fun W => pinfoldlaw17_awake.calls true W rfl)
 have CG := am_ (fun W => pinfoldlaw17_given.calls 10 13 EX RE 100 ZO SR W (by rw [← hEX, ← hRE, ← hZO, ← hSR]; rfl))
 have CN := am_ (fun (x : Int) W => pinfoldlaw0_Num.calls x x W rfl)
 have CC := am_ (fun W (AE : Option Addr) (cE : Nat) (AR : Option Addr) (cR : Nat) (AS : Option Addr) (cS : Nat) (hE : Kd.C (Kd.int .i64) W AE EX.length EX) (hcE : EX.length ≤ cE) (hR : Kd.C k72 W AR RE.length RE) (hcR : RE.length ≤ cR) (hS : Kd.C k74 W AS SR.length SR) (hcS : SR.length ≤ cS) => (show Calls Tryd.prog 9 #[.agg #[.int .i64 10, .int .i64 13, .slice AE EX.length cE, .slice AR RE.length cR, .int .i64 100, .string ZO, .slice AS SR.length cS], .slice none 0 0, .int .i64 0, .string (⟨#[109, 101]⟩ : ByteArray), .agg #[.bool false, .int .i64 (1 + e), .int .i64 10, .int .i64 0, .string (⟨#[]⟩ : ByteArray)]] W fun e w' => ∃ v0_ : Value, e = .returned (.tuple #[v0_, .int .i64 0, .int .i64 0, .int .i64 1700]) ∧ Kd.R k36 36 w' W.heap.size (fun _ => True) v0_ [] ∧ Below W.heap.size W w' from claim_Claim.calls 10 13 AE cE EX AR cR RE 100 ZO AS cS SR none 0 [] 0 (⟨#[109, 101]⟩ : ByteArray) false (1 + e) 10 0 (⟨#[]⟩ : ByteArray) [] 0 0 1700 W hE hcE hR hcR hS hcS (Kd.C_nil _ _) (Nat.le_refl 0) F))
 have HB := am_ (Below.refl w.heap.size w)
 clear F hEX hRE hZO hSR
 go_enter Tryd.func4, Tryd.ntmps4
 go_wp2_with (first
  | (go_at_call 8; (with_reducible refine (CA.out _).mono ?_); rintro e w1 ⟨rfl, hb2⟩; replace HB := am_ (bt_ HB.out hb2); clear hb2)
  | (go_at_call 16; (with_reducible refine (CG.out _).mono ?_); rintro e w2 ⟨v1, v2, v3, rfl, ho1, ho2, ho3, hb2⟩; obtain ⟨AE, cE, rfl, hcE, hE⟩ := Kd.R_reads ho1; obtain ⟨AR, cR, rfl, hcR, hR⟩ := Kd.R_reads ho2; obtain ⟨AS, cS, rfl, hcS, hS⟩ := Kd.R_reads ho3; have HCE := am_ hcE; have HCR := am_ hcR; have HCS := am_ hcS; have HE := am_ hE; have HR := am_ hR; have HS := am_ hS; replace HB := am_ (bt_ HB.out hb2); clear ho1 ho2 ho3 hE hR hS hcE hcR hcS hb2)
  | (go_at_call 9; (with_reducible refine (CC.out _ _ _ _ _ _ _ (by (with_reducible repeat (first | exact HE.out | refine c2_ ?_ _ | refine c3_ ?_ | refine c1_ ?_ _))) HCE.out (by (with_reducible repeat (first | exact HR.out | refine c2_ ?_ _ | refine c3_ ?_ | refine c1_ ?_ _))) HCR.out (by (with_reducible repeat (first | exact HS.out | refine c2_ ?_ _ | refine c3_ ?_ | refine c1_ ?_ _))) HCS.out).mono ?_); rintro e w3 ⟨v, rfl, hv, hb2⟩; obtain ⟨A9, c9, rfl, hc9, h9⟩ := Kd.R_reads hv; replace HB := am_ (bt_ (by repeat (with_reducible first | exact HB.out | apply p3_ | apply p1_ | apply p2_)) hb2); clear hv hb2 hc9 h9)
  | (go_at_call 10; (with_reducible refine (CN.out _ _).mono ?_); rintro e wn ⟨rfl, ⟨nd, rfl⟩⟩))
 go_ret
 exact ⟨rfl, (by repeat (with_reducible first | exact HB.out | apply p3_ | apply p1_ | apply p2_))⟩
set_option maxHeartbeats 8000000 in
set_option maxRecDepth 100000 in
theorem pinfoldlaw17_ClaimForms.c7 (a0 a1 e : Int) (h0 : 0 ≤ e) (h1 : e < 1024) (hbits : Go.bits .and .i64 a1 1023 = e) (t0 : (Int.tmod (IntKind.u64.wrap a0) 10 == 0) = false) (t1 : (Int.tmod (IntKind.u64.wrap a0) 10 == 1) = false) (t2 : (Int.tmod (IntKind.u64.wrap a0) 10 == 2) = false) (t3 : (Int.tmod (IntKind.u64.wrap a0) 10 == 3) = false) (t4 : (Int.tmod (IntKind.u64.wrap a0) 10 == 4) = false) (t5 : (Int.tmod (IntKind.u64.wrap a0) 10 == 5) = false) (t6 : (Int.tmod (IntKind.u64.wrap a0) 10 == 6) = false) (t7 : (Int.tmod (IntKind.u64.wrap a0) 10 == 7) = true) (w : World) :
  Calls Tryd.prog 4 #[.int .i64 a0, .int .i64 a1] w fun e w' => e = .returned (.bool true) ∧ Below w.heap.size w w' := by
 obtain ⟨EX, hEX⟩ : ∃ l, gEx = l := ⟨_, rfl⟩
 obtain ⟨RE, hRE⟩ : ∃ l, gRes = l := ⟨_, rfl⟩
 obtain ⟨ZO, hZO⟩ : ∃ l, gZone = l := ⟨_, rfl⟩
 obtain ⟨SR, hSR⟩ : ∃ l, gRR = l := ⟨_, rfl⟩
 have F := pinfoldlaw17_ClaimForms.n7 e h0 h1
 rw [hEX, hRE, hZO, hSR] at F
 have CA := am_ (fun W => pinfoldlaw17_awake.calls true W rfl)
 have CG := am_ (fun W => pinfoldlaw17_given.calls 10 13 EX RE 100 ZO SR W (by rw [← hEX, ← hRE, ← hZO, ← hSR]; rfl))
 have CN := am_ (fun (x : Int) W => pinfoldlaw0_Num.calls x x W rfl)
 have CC := am_ (fun W (AE : Option Addr) (cE : Nat) (AR : Option Addr) (cR : Nat) (AS : Option Addr) (cS : Nat) (hE : Kd.C (Kd.int .i64) W AE EX.length EX) (hcE : EX.length ≤ cE) (hR : Kd.C k72 W AR RE.length RE) (hcR : RE.length ≤ cR) (hS : Kd.C k74 W AS SR.length SR) (hcS : SR.length ≤ cS) => (show Calls Tryd.prog 9 #[.agg #[.int .i64 10, .int .i64 13, .slice AE EX.length cE, .slice AR RE.length cR, .int .i64 100, .string ZO, .slice AS SR.length cS], .slice none 0 0, .int .i64 0, .string (⟨#[109, 101]⟩ : ByteArray), .agg #[.bool false, .int .i64 0, .int .i64 (-(1 + e)), .int .i64 0, .string (⟨#[]⟩ : ByteArray)]] W fun e w' => ∃ v0_ : Value, e = .returned (.tuple #[v0_, .int .i64 0, .int .i64 0, .int .i64 1700]) ∧ Kd.R k36 36 w' W.heap.size (fun _ => True) v0_ [] ∧ Below W.heap.size W w' from claim_Claim.calls 10 13 AE cE EX AR cR RE 100 ZO AS cS SR none 0 [] 0 (⟨#[109, 101]⟩ : ByteArray) false 0 (-(1 + e)) 0 (⟨#[]⟩ : ByteArray) [] 0 0 1700 W hE hcE hR hcR hS hcS (Kd.C_nil _ _) (Nat.le_refl 0) F))
 have HB := am_ (Below.refl w.heap.size w)
 clear F hEX hRE hZO hSR
 go_enter Tryd.func4, Tryd.ntmps4
 go_wp2_with (first
  | (go_at_call 8; (with_reducible refine (CA.out _).mono ?_); rintro e w1 ⟨rfl, hb2⟩; replace HB := am_ (bt_ HB.out hb2); clear hb2)
  | (go_at_call 16; (with_reducible refine (CG.out _).mono ?_); rintro e w2 ⟨v1, v2, v3, rfl, ho1, ho2, ho3, hb2⟩; obtain ⟨AE, cE, rfl, hcE, hE⟩ := Kd.R_reads ho1; obtain ⟨AR, cR, rfl, hcR, hR⟩ := Kd.R_reads ho2; obtain ⟨AS, cS, rfl, hcS, hS⟩ := Kd.R_reads ho3; have HCE := am_ hcE; have HCR := am_ hcR; have HCS := am_ hcS; have HE := am_ hE; have HR := am_ hR; have HS := am_ hS; replace HB := am_ (bt_ HB.out hb2); clear ho1 ho2 ho3 hE hR hS hcE hcR hcS hb2)
  | (go_at_call 9; (with_reducible refine (CC.out _ _ _ _ _ _ _ (by (with_reducible repeat (first | exact HE.out | refine c2_ ?_ _ | refine c3_ ?_ | refine c1_ ?_ _))) HCE.out (by (with_reducible repeat (first | exact HR.out | refine c2_ ?_ _ | refine c3_ ?_ | refine c1_ ?_ _))) HCR.out (by (with_reducible repeat (first | exact HS.out | refine c2_ ?_ _ | refine c3_ ?_ | refine c1_ ?_ _))) HCS.out).mono ?_); rintro e w3 ⟨v, rfl, hv, hb2⟩; obtain ⟨A9, c9, rfl, hc9, h9⟩ := Kd.R_reads hv; replace HB := am_ (bt_ (by repeat (with_reducible first | exact HB.out | apply p3_ | apply p1_ | apply p2_)) hb2); clear hv hb2 hc9 h9)
  | (go_at_call 10; (with_reducible refine (CN.out _ _).mono ?_); rintro e wn ⟨rfl, ⟨nd, rfl⟩⟩))
 go_ret
 exact ⟨rfl, (by repeat (with_reducible first | exact HB.out | apply p3_ | apply p1_ | apply p2_))⟩
set_option maxHeartbeats 8000000 in
set_option maxRecDepth 100000 in
theorem pinfoldlaw17_ClaimForms.c8 (a0 a1 e : Int) (h0 : 0 ≤ e) (h1 : e < 1024) (hbits : Go.bits .and .i64 a1 1023 = e) (t0 : (Int.tmod (IntKind.u64.wrap a0) 10 == 0) = false) (t1 : (Int.tmod (IntKind.u64.wrap a0) 10 == 1) = false) (t2 : (Int.tmod (IntKind.u64.wrap a0) 10 == 2) = false) (t3 : (Int.tmod (IntKind.u64.wrap a0) 10 == 3) = false) (t4 : (Int.tmod (IntKind.u64.wrap a0) 10 == 4) = false) (t5 : (Int.tmod (IntKind.u64.wrap a0) 10 == 5) = false) (t6 : (Int.tmod (IntKind.u64.wrap a0) 10 == 6) = false) (t7 : (Int.tmod (IntKind.u64.wrap a0) 10 == 7) = false) (t8 : (Int.tmod (IntKind.u64.wrap a0) 10 == 8) = true) (w : World) :
  Calls Tryd.prog 4 #[.int .i64 a0, .int .i64 a1] w fun e w' => e = .returned (.bool true) ∧ Below w.heap.size w w' := by
 obtain ⟨EX, hEX⟩ : ∃ l, gEx = l := ⟨_, rfl⟩
 obtain ⟨RE, hRE⟩ : ∃ l, gRes = l := ⟨_, rfl⟩
 obtain ⟨ZO, hZO⟩ : ∃ l, gZone = l := ⟨_, rfl⟩
 obtain ⟨SR, hSR⟩ : ∃ l, gRR = l := ⟨_, rfl⟩
 have F := pinfoldlaw17_ClaimForms.n8 e h0 h1
 rw [hEX, hRE, hZO, hSR] at F
 have CA := am_ (fun W => pinfoldlaw17_awake.calls true W rfl)
 have CG := am_ (fun W => pinfoldlaw17_given.calls 10 13 EX RE 100 ZO SR W (by rw [← hEX, ← hRE, ← hZO, ← hSR]; rfl))
 have CN := am_ (fun (x : Int) W => pinfoldlaw0_Num.calls x x W rfl)
 have CC := am_ (fun W (AE : Option Addr) (cE : Nat) (AR : Option Addr) (cR : Nat) (AS : Option Addr) (cS : Nat) (hE : Kd.C (Kd.int .i64) W AE EX.length EX) (hcE : EX.length ≤ cE) (hR : Kd.C k72 W AR RE.length RE) (hcR : RE.length ≤ cR) (hS : Kd.C k74 W AS SR.length SR) (hcS : SR.length ≤ cS) => (show Calls Tryd.prog 9 #[.agg #[.int .i64 10, .int .i64 13, .slice AE EX.length cE, .slice AR RE.length cR, .int .i64 100, .string ZO, .slice AS SR.length cS], .slice none 0 0, .int .i64 0, .string (⟨#[109, 101]⟩ : ByteArray), .agg #[.bool false, .int .i64 0, .int .i64 10, .int .i64 (-(1 + e)), .string (⟨#[]⟩ : ByteArray)]] W fun e w' => ∃ v0_ : Value, e = .returned (.tuple #[v0_, .int .i64 0, .int .i64 0, .int .i64 1700]) ∧ Kd.R k36 36 w' W.heap.size (fun _ => True) v0_ [] ∧ Below W.heap.size W w' from claim_Claim.calls 10 13 AE cE EX AR cR RE 100 ZO AS cS SR none 0 [] 0 (⟨#[109, 101]⟩ : ByteArray) false 0 10 (-(1 + e)) (⟨#[]⟩ : ByteArray) [] 0 0 1700 W hE hcE hR hcR hS hcS (Kd.C_nil _ _) (Nat.le_refl 0) F))
 have HB := am_ (Below.refl w.heap.size w)
 clear F hEX hRE hZO hSR
 go_enter Tryd.func4, Tryd.ntmps4
 go_wp2_with (first
  | (go_at_call 8; (with_reducible refine (CA.out _).mono ?_); rintro e w1 ⟨rfl, hb2⟩; replace HB := am_ (bt_ HB.out hb2); clear hb2)
  | (go_at_call 16; (with_reducible refine (CG.out _).mono ?_); rintro e w2 ⟨v1, v2, v3, rfl, ho1, ho2, ho3, hb2⟩; obtain ⟨AE, cE, rfl, hcE, hE⟩ := Kd.R_reads ho1; obtain ⟨AR, cR, rfl, hcR, hR⟩ := Kd.R_reads ho2; obtain ⟨AS, cS, rfl, hcS, hS⟩ := Kd.R_reads ho3; have HCE := am_ hcE; have HCR := am_ hcR; have HCS := am_ hcS; have HE := am_ hE; have HR := am_ hR; have HS := am_ hS; replace HB := am_ (bt_ HB.out hb2); clear ho1 ho2 ho3 hE hR hS hcE hcR hcS hb2)
  | (go_at_call 9; (with_reducible refine (CC.out _ _ _ _ _ _ _ (by (with_reducible repeat (first | exact HE.out | refine c2_ ?_ _ | refine c3_ ?_ | refine c1_ ?_ _))) HCE.out (by (with_reducible repeat (first | exact HR.out | refine c2_ ?_ _ | refine c3_ ?_ | refine c1_ ?_ _))) HCR.out (by (with_reducible repeat (first | exact HS.out | refine c2_ ?_ _ | refine c3_ ?_ | refine c1_ ?_ _))) HCS.out).mono ?_); rintro e w3 ⟨v, rfl, hv, hb2⟩; obtain ⟨A9, c9, rfl, hc9, h9⟩ := Kd.R_reads hv; replace HB := am_ (bt_ (by repeat (with_reducible first | exact HB.out | apply p3_ | apply p1_ | apply p2_)) hb2); clear hv hb2 hc9 h9)
  | (go_at_call 10; (with_reducible refine (CN.out _ _).mono ?_); rintro e wn ⟨rfl, ⟨nd, rfl⟩⟩))
 go_ret
 exact ⟨rfl, (by repeat (with_reducible first | exact HB.out | apply p3_ | apply p1_ | apply p2_))⟩
set_option maxHeartbeats 8000000 in
set_option maxRecDepth 100000 in
theorem pinfoldlaw17_ClaimForms.c9 (a0 a1 e : Int) (h0 : 0 ≤ e) (h1 : e < 1024) (hbits : Go.bits .and .i64 a1 1023 = e) (t0 : (Int.tmod (IntKind.u64.wrap a0) 10 == 0) = false) (t1 : (Int.tmod (IntKind.u64.wrap a0) 10 == 1) = false) (t2 : (Int.tmod (IntKind.u64.wrap a0) 10 == 2) = false) (t3 : (Int.tmod (IntKind.u64.wrap a0) 10 == 3) = false) (t4 : (Int.tmod (IntKind.u64.wrap a0) 10 == 4) = false) (t5 : (Int.tmod (IntKind.u64.wrap a0) 10 == 5) = false) (t6 : (Int.tmod (IntKind.u64.wrap a0) 10 == 6) = false) (t7 : (Int.tmod (IntKind.u64.wrap a0) 10 == 7) = false) (t8 : (Int.tmod (IntKind.u64.wrap a0) 10 == 8) = false) (w : World) :
  Calls Tryd.prog 4 #[.int .i64 a0, .int .i64 a1] w fun e w' => e = .returned (.bool true) ∧ Below w.heap.size w w' := by
 obtain ⟨EX, hEX⟩ : ∃ l, gEx = l := ⟨_, rfl⟩
 obtain ⟨RE, hRE⟩ : ∃ l, gRes = l := ⟨_, rfl⟩
 obtain ⟨ZO, hZO⟩ : ∃ l, gZone = l := ⟨_, rfl⟩
 obtain ⟨SR, hSR⟩ : ∃ l, gRR = l := ⟨_, rfl⟩
 have F := pinfoldlaw17_ClaimForms.n9 e h0 h1
 rw [hEX, hRE, hZO, hSR] at F
 have CA := am_ (fun W => pinfoldlaw17_awake.calls true W rfl)
 have CG := am_ (fun W => pinfoldlaw17_given.calls 10 13 EX RE 100 ZO SR W (by rw [← hEX, ← hRE, ← hZO, ← hSR]; rfl))
 have CN := am_ (fun (x : Int) W => pinfoldlaw0_Num.calls x x W rfl)
 have CC := am_ (fun W (AE : Option Addr) (cE : Nat) (AR : Option Addr) (cR : Nat) (AS : Option Addr) (cS : Nat) (hE : Kd.C (Kd.int .i64) W AE EX.length EX) (hcE : EX.length ≤ cE) (hR : Kd.C k72 W AR RE.length RE) (hcR : RE.length ≤ cR) (hS : Kd.C k74 W AS SR.length SR) (hcS : SR.length ≤ cS) => (show Calls Tryd.prog 9 #[.agg #[.int .i64 10, .int .i64 13, .slice AE EX.length cE, .slice AR RE.length cR, .int .i64 100, .string ZO, .slice AS SR.length cS], .slice none 0 0, .int .i64 0, .string (⟨#[109, 101]⟩ : ByteArray), .agg #[.bool true, .int .i64 (-(1 + e)), .int .i64 10, .int .i64 0, .string (⟨#[]⟩ : ByteArray)]] W fun e w' => ∃ v0_ : Value, e = .returned (.tuple #[v0_, .int .i64 0, .int .i64 0, .int .i64 1700]) ∧ Kd.R k36 36 w' W.heap.size (fun _ => True) v0_ [] ∧ Below W.heap.size W w' from claim_Claim.calls 10 13 AE cE EX AR cR RE 100 ZO AS cS SR none 0 [] 0 (⟨#[109, 101]⟩ : ByteArray) true (-(1 + e)) 10 0 (⟨#[]⟩ : ByteArray) [] 0 0 1700 W hE hcE hR hcR hS hcS (Kd.C_nil _ _) (Nat.le_refl 0) F))
 have HB := am_ (Below.refl w.heap.size w)
 clear F hEX hRE hZO hSR
 go_enter Tryd.func4, Tryd.ntmps4
 go_wp2_with (first
  | (go_at_call 8; (with_reducible refine (CA.out _).mono ?_); rintro e w1 ⟨rfl, hb2⟩; replace HB := am_ (bt_ HB.out hb2); clear hb2)
  | (go_at_call 16; (with_reducible refine (CG.out _).mono ?_); rintro e w2 ⟨v1, v2, v3, rfl, ho1, ho2, ho3, hb2⟩; obtain ⟨AE, cE, rfl, hcE, hE⟩ := Kd.R_reads ho1; obtain ⟨AR, cR, rfl, hcR, hR⟩ := Kd.R_reads ho2; obtain ⟨AS, cS, rfl, hcS, hS⟩ := Kd.R_reads ho3; have HCE := am_ hcE; have HCR := am_ hcR; have HCS := am_ hcS; have HE := am_ hE; have HR := am_ hR; have HS := am_ hS; replace HB := am_ (bt_ HB.out hb2); clear ho1 ho2 ho3 hE hR hS hcE hcR hcS hb2)
  | (go_at_call 9; (with_reducible refine (CC.out _ _ _ _ _ _ _ (by (with_reducible repeat (first | exact HE.out | refine c2_ ?_ _ | refine c3_ ?_ | refine c1_ ?_ _))) HCE.out (by (with_reducible repeat (first | exact HR.out | refine c2_ ?_ _ | refine c3_ ?_ | refine c1_ ?_ _))) HCR.out (by (with_reducible repeat (first | exact HS.out | refine c2_ ?_ _ | refine c3_ ?_ | refine c1_ ?_ _))) HCS.out).mono ?_); rintro e w3 ⟨v, rfl, hv, hb2⟩; obtain ⟨A9, c9, rfl, hc9, h9⟩ := Kd.R_reads hv; replace HB := am_ (bt_ (by repeat (with_reducible first | exact HB.out | apply p3_ | apply p1_ | apply p2_)) hb2); clear hv hb2 hc9 h9)
  | (go_at_call 10; (with_reducible refine (CN.out _ _).mono ?_); rintro e wn ⟨rfl, ⟨nd, rfl⟩⟩))
 go_ret
 exact ⟨rfl, (by repeat (with_reducible first | exact HB.out | apply p3_ | apply p1_ | apply p2_))⟩
theorem pinfoldlaw17_ClaimForms.calls (a0 a1 : Int) (r : Bool) (w : World) (h : pinfoldlaw17_ClaimForms.f a0 a1 = some r) :
  Calls Tryd.prog 4 #[.int .i64 a0, .int .i64 a1] w fun e w' => e = .returned (.bool r) ∧ Below w.heap.size w w' := by
 obtain rfl := e5_ h
 have hb := and_1023 a1
 have h0 := Int.emod_nonneg a1 (show (1024 : Int) ≠ 0 by decide)
 have h1 := Int.emod_lt_of_pos a1 (show (0 : Int) < 1024 by decide)
 by_cases q0 : Int.tmod (IntKind.u64.wrap a0) 10 = 0
 ·exact pinfoldlaw17_ClaimForms.c0 a0 a1 _ h0 h1 hb (beq_iff_eq.2 q0) w
 by_cases q1 : Int.tmod (IntKind.u64.wrap a0) 10 = 1
 ·exact pinfoldlaw17_ClaimForms.c1 a0 a1 _ h0 h1 hb (beq_eq_false_iff_ne.2 q0) (beq_iff_eq.2 q1) w
 by_cases q2 : Int.tmod (IntKind.u64.wrap a0) 10 = 2
 ·exact pinfoldlaw17_ClaimForms.c2 a0 a1 _ h0 h1 hb (beq_eq_false_iff_ne.2 q0) (beq_eq_false_iff_ne.2 q1) (beq_iff_eq.2 q2) w
 by_cases q3 : Int.tmod (IntKind.u64.wrap a0) 10 = 3
 ·exact pinfoldlaw17_ClaimForms.c3 a0 a1 _ h0 h1 hb (beq_eq_false_iff_ne.2 q0) (beq_eq_false_iff_ne.2 q1) (beq_eq_false_iff_ne.2 q2) (beq_iff_eq.2 q3) w
 by_cases q4 : Int.tmod (IntKind.u64.wrap a0) 10 = 4
 ·exact pinfoldlaw17_ClaimForms.c4 a0 a1 _ h0 h1 hb (beq_eq_false_iff_ne.2 q0) (beq_eq_false_iff_ne.2 q1) (beq_eq_false_iff_ne.2 q2) (beq_eq_false_iff_ne.2 q3) (beq_iff_eq.2 q4) w
 by_cases q5 : Int.tmod (IntKind.u64.wrap a0) 10 = 5
 ·exact pinfoldlaw17_ClaimForms.c5 a0 a1 _ h0 h1 hb (beq_eq_false_iff_ne.2 q0) (beq_eq_false_iff_ne.2 q1) (beq_eq_false_iff_ne.2 q2) (beq_eq_false_iff_ne.2 q3) (beq_eq_false_iff_ne.2 q4) (beq_iff_eq.2 q5) w
 by_cases q6 : Int.tmod (IntKind.u64.wrap a0) 10 = 6
 ·exact pinfoldlaw17_ClaimForms.c6 a0 a1 _ h0 h1 hb (beq_eq_false_iff_ne.2 q0) (beq_eq_false_iff_ne.2 q1) (beq_eq_false_iff_ne.2 q2) (beq_eq_false_iff_ne.2 q3) (beq_eq_false_iff_ne.2 q4) (beq_eq_false_iff_ne.2 q5) (beq_iff_eq.2 q6) w
 by_cases q7 : Int.tmod (IntKind.u64.wrap a0) 10 = 7
 ·exact pinfoldlaw17_ClaimForms.c7 a0 a1 _ h0 h1 hb (beq_eq_false_iff_ne.2 q0) (beq_eq_false_iff_ne.2 q1) (beq_eq_false_iff_ne.2 q2) (beq_eq_false_iff_ne.2 q3) (beq_eq_false_iff_ne.2 q4) (beq_eq_false_iff_ne.2 q5) (beq_eq_false_iff_ne.2 q6) (beq_iff_eq.2 q7) w
 by_cases q8 : Int.tmod (IntKind.u64.wrap a0) 10 = 8
 ·exact pinfoldlaw17_ClaimForms.c8 a0 a1 _ h0 h1 hb (beq_eq_false_iff_ne.2 q0) (beq_eq_false_iff_ne.2 q1) (beq_eq_false_iff_ne.2 q2) (beq_eq_false_iff_ne.2 q3) (beq_eq_false_iff_ne.2 q4) (beq_eq_false_iff_ne.2 q5) (beq_eq_false_iff_ne.2 q6) (beq_eq_false_iff_ne.2 q7) (beq_iff_eq.2 q8) w
 exact pinfoldlaw17_ClaimForms.c9 a0 a1 _ h0 h1 hb (beq_eq_false_iff_ne.2 q0) (beq_eq_false_iff_ne.2 q1) (beq_eq_false_iff_ne.2 q2) (beq_eq_false_iff_ne.2 q3) (beq_eq_false_iff_ne.2 q4) (beq_eq_false_iff_ne.2 q5) (beq_eq_false_iff_ne.2 q6) (beq_eq_false_iff_ne.2 q7) (beq_eq_false_iff_ne.2 q8) w


/-- THE ONE PURE STATEMENT of pinfoldlaw17_ClaimForms. -/
def pinfoldlaw17_ClaimForms.Pure : Prop := ∀ (a0 : Int) (a1 : Int), (Lit.int .i64 a0).wf = true → (Lit.int .i64 a1).wf = true → pinfoldlaw17_ClaimForms.f a0 a1 = some true
theorem pinfoldlaw17_ClaimForms.walk (P : pinfoldlaw17_ClaimForms.Pure) (a0 : Int) (a1 : Int) (w : World)  (w0 : (Lit.int .i64 a0).wf = true) (w1 : (Lit.int .i64 a1).wf = true) :
  Calls Tryd.prog 4 #[.int .i64 a0, .int .i64 a1] w fun e w' => e = .returned (.bool true) ∧ Below w.heap.size w w' := by
 have h := P a0 a1 w0 w1
 refine (pinfoldlaw17_ClaimForms.calls a0 a1 true w  h).mono ?_
 rintro e w' ⟨rfl, hd⟩
 exact ⟨rfl, hd⟩
end Go.Proofs.YtibalpbkmgegnaaDoor.PM
