-- Made by wip/pr.py out of the translation (a turned copy of the kit's print; contracts by hand where said).
import Derived.Test.YtibalpbkmgegnaaDoorPNx0
import Derived.Test.YtibalpbkmgegnaaDoorPNx1
import Derived.Test.YtibalpbkmgegnaaDoorPNx2
import Derived.Test.YtibalpbkmgegnaaDoorPNx3
import Derived.Test.YtibalpbkmgegnaaDoorPNx11
namespace Go.Proofs.YtibalpbkmgegnaaDoor.PN
open Go.RowKit Go.Proofs.YtibalpbkmgegnaaDoorW.PrintWords Go.Proofs.YtibalpbkmgegnaaDoorW.PrintLast Go.Proofs.YtibalpbkmgegnaaDoorW.PrintMore
-- shrunk
attribute [local go_sem] max2_int min2_int max_two min_two max_three min_three max_four min_four   -- for this text's walks alone
set_option linter.unusedVariables false
set_option linter.unusedSimpArgs false

attribute [local go_sem high] eqA36
/-! ### pinfoldlaw0_SameLeases: function 17 -/
def pinfoldlaw0_SameLeases.l0 : Nat → List (S36) → List (S36) → Int → Option (Bool)
 | 0, _, _, _ => none
 | k + 1, x0, x1, x5 => if x5 < (x0.length : Int) then (if 0 ≤ x5 then (if x5 < (x1.length : Int) then (if (!(((rd_T36 x0 x5).f0) == ((rd_T36 x1 x5).f0)) || (!(((rd_T36 x0 x5).f1) == ((rd_T36 x1 x5).f1)) || (!((((rd_T36 x0 x5).f2).toList) == (((rd_T36 x1 x5).f2).toList)) || (!(((rd_T36 x0 x5).f3) == ((rd_T36 x1 x5).f3)) || (!((((rd_T36 x0 x5).f4).toList) == (((rd_T36 x1 x5).f4).toList)) || (!(((rd_T36 x0 x5).f5) == ((rd_T36 x1 x5).f5)))))))) = true then (some false) else (pinfoldlaw0_SameLeases.l0 k x0 x1 (wrap64 (x5 + 1)))) else (none)) else (none)) else (some true)
def pinfoldlaw0_SameLeases.f (k : Nat) (l0 : List (S36)) (l1 : List (S36)) : Option (Bool) := if (l0.length : Int) = (l1.length : Int) then (pinfoldlaw0_SameLeases.l0 k l0 l1 0) else (some false)
theorem pinfoldlaw0_SameLeases.mono_l : ∀ k, (∀ y0 y1 y2, LeO (pinfoldlaw0_SameLeases.l0 k y0 y1 y2) (pinfoldlaw0_SameLeases.l0 (k + 1) y0 y1 y2))
 | 0 => fun _ _ _ r h => by simp [pinfoldlaw0_SameLeases.l0] at h
 | k + 1 => by
  have ih0 := pinfoldlaw0_SameLeases.mono_l k
  ·intro y0 y1 y2
   unfold pinfoldlaw0_SameLeases.l0
   repeat' first
   | (with_reducible exact ih0 _ _ _)
   | (with_reducible exact LeO.refl _)
   | (with_reducible exact LeO.none _)
   | (with_reducible refine LeO.ite ?_ ?_)
   | (with_reducible refine LeO.bind ?_ (fun _ => ?_))
   | exact ih0 _ _ _
   | exact LeO.none _
   | refine LeO.ite ?_ ?_
   | refine LeO.bind ?_ (fun _ => ?_)
theorem pinfoldlaw0_SameLeases.mono : ∀ a0 a1 k, LeO (pinfoldlaw0_SameLeases.f k a0 a1) (pinfoldlaw0_SameLeases.f (k + 1) a0 a1) := by
 intro a0 a1 k
 have ih0 := pinfoldlaw0_SameLeases.mono_l k
 unfold pinfoldlaw0_SameLeases.f
 repeat' first
   | (with_reducible exact ih0 _ _ _)
   | (with_reducible exact LeO.refl _)
   | (with_reducible exact LeO.none _)
   | (with_reducible refine LeO.ite ?_ ?_)
   | (with_reducible refine LeO.bind ?_ (fun _ => ?_))
   | exact ih0 _ _ _
   | exact LeO.none _
   | refine LeO.ite ?_ ?_
   | refine LeO.bind ?_ (fun _ => ?_)
set_option maxHeartbeats 8000000 in
set_option maxRecDepth 100000 in
theorem pinfoldlaw0_SameLeases.calls (k : Nat) (A0 : Option Addr) (c0 : Nat) (l0 : List (S36)) (A1 : Option Addr) (c1 : Nat) (l1 : List (S36)) (r : Bool) (w : World) (hr0 : Kd.C k36 w A0 l0.length l0) (hc0 : l0.length ≤ c0) (hr1 : Kd.C k36 w A1 l1.length l1) (hc1 : l1.length ≤ c1) (h : pinfoldlaw0_SameLeases.f k l0 l1 = some r) :
  Calls Tryd.prog 17 #[.slice A0 l0.length c0, .slice A1 l1.length c1] w fun e w' => e = .returned (.bool r) ∧ Drawn0 w w' := by
 have hu36 := Tryd.underlying36
 have HR0 := am_ hr0
 have HC0 := am_ hc0
 clear hr0 hc0
 have HR1 := am_ hr1
 have HC1 := am_ hc1
 clear hr1 hc1
 have H : (if (l0.length : Int) = (l1.length : Int) then (pinfoldlaw0_SameLeases.l0 k l0 l1 0) else (some false)) = some r := h
 clear h
 by_cases c3 : (l0.length : Int) = (l1.length : Int)
 ·rw [if_pos c3] at H
  have c3b0 : ((l0.length : Int) == (l1.length : Int)) = true := beq_iff_eq.mpr c3
  have c3b1 : ((l0.length : Int) != (l1.length : Int)) = false := e1_ c3
  have c3b2 : (l0.length == l1.length) = true := by first | simpa using c3 | (simp at c3 ⊢; omega)
  clear c3
  have H' := am_ H
  clear H
  go_enter Tryd.func17, Tryd.ntmps17
  go_wp2
  repeat (go_quiet (fail); try go_wp2)
  go_loopg [5] k (fun kq v5 w' => ∃ (x5_1 : Int), v5 = .int .i64 x5_1 ∧ Aside0 (pinfoldlaw0_SameLeases.l0 kq l0 l1 x5_1 = some r) ∧ Aside0 (kq ≤ k) ∧ Drawn0 w w')
  case atStart => exact ⟨(0), (by first | rfl | (simp; done) | (simp [*]; done)), H', ⟨Nat.le_refl _⟩, by repeat (first | exact Drawn0.refl _ | apply Drawn0.step)⟩
  case round =>
   clear H'
   (try clear c1); (try clear c3); (try clear c3b0); (try clear c3b1); (try clear c3b2)
   obtain ⟨x5_1, rfl, HA, HK1, ⟨m1, rfl⟩⟩ := hrel
   cases gk with
   | zero => exact absurd HA.out (by simp [pinfoldlaw0_SameLeases.l0])
   | succ k1 =>
    have H := HA.out
    clear HA
    simp only [pinfoldlaw0_SameLeases.l0] at H
    by_cases c4 : x5_1 < (l0.length : Int)
    ·rw [if_pos c4] at H
     have c4b0 : decide (x5_1 < (l0.length : Int)) = true := decide_eq_true c4
     clear c4
     by_cases c5 : 0 ≤ x5_1
     rotate_left
     ·rw [if_neg c5] at H
      exact absurd H (by simp)
     rw [if_pos c5] at H
     have c5b0 : decide (0 ≤ x5_1) = true := decide_eq_true c5
     clear c5
     by_cases c6 : x5_1 < (l1.length : Int)
     rotate_left
     ·rw [if_neg c6] at H
      exact absurd H (by simp)
     rw [if_pos c6] at H
     have c6b0 : decide (x5_1 < (l1.length : Int)) = true := decide_eq_true c6
     clear c6
     by_cases c7 : (!(((rd_T36 l0 x5_1).f0) == ((rd_T36 l1 x5_1).f0)) || (!(((rd_T36 l0 x5_1).f1) == ((rd_T36 l1 x5_1).f1)) || (!((((rd_T36 l0 x5_1).f2).toList) == (((rd_T36 l1 x5_1).f2).toList)) || (!(((rd_T36 l0 x5_1).f3) == ((rd_T36 l1 x5_1).f3)) || (!((((rd_T36 l0 x5_1).f4).toList) == (((rd_T36 l1 x5_1).f4).toList)) || (!(((rd_T36 l0 x5_1).f5) == ((rd_T36 l1 x5_1).f5)))))))) = true
     ·rw [if_pos c7] at H
      have c7b0 : (!(((rd_T36 l0 x5_1).f0) == ((rd_T36 l1 x5_1).f0)) || (!(((rd_T36 l0 x5_1).f1) == ((rd_T36 l1 x5_1).f1)) || (!((((rd_T36 l0 x5_1).f2).toList) == (((rd_T36 l1 x5_1).f2).toList)) || (!(((rd_T36 l0 x5_1).f3) == ((rd_T36 l1 x5_1).f3)) || (!((((rd_T36 l0 x5_1).f4).toList) == (((rd_T36 l1 x5_1).f4).toList)) || (!(((rd_T36 l0 x5_1).f5) == ((rd_T36 l1 x5_1).f5)))))))) = true := c7
      clear c7
      obtain rfl := e5_ H
      have p138 : 0 ≤ (x5_1 : Int) := of_decide_eq_true (by first | (with_reducible assumption) | assumption)
      have q138 : x5_1 < (l0.length : Int) := of_decide_eq_true (by first | (with_reducible assumption) | assumption)
      obtain ⟨ad138, e138, hx138_0, hx138_1, hx138_2, hx138_3, hx138_4, hx138_5⟩ := at_T36 HR0.out x5_1 p138 q138
      cases e138
      replace p138 := eq_true p138
      replace q138 := eq_true q138
      have p139 : 0 ≤ (x5_1 : Int) := of_decide_eq_true (by first | (with_reducible assumption) | assumption)
      have q139 : x5_1 < (l1.length : Int) := of_decide_eq_true (by first | (with_reducible assumption) | assumption)
      obtain ⟨ad139, e139, hx139_0, hx139_1, hx139_2, hx139_3, hx139_4, hx139_5⟩ := at_T36 HR1.out x5_1 p139 q139
      cases e139
      replace p139 := eq_true p139
      replace q139 := eq_true q139
      go_wp2
      repeat (go_quiet (fail); try go_wp2)
      go_ret
      exact ⟨by first | rfl | (simp; done) | (simp [*]; done), by repeat (first | exact Drawn0.refl _ | apply Drawn0.step)⟩
     rw [if_neg c7] at H
     have c7b0 : (!(((rd_T36 l0 x5_1).f0) == ((rd_T36 l1 x5_1).f0)) || (!(((rd_T36 l0 x5_1).f1) == ((rd_T36 l1 x5_1).f1)) || (!((((rd_T36 l0 x5_1).f2).toList) == (((rd_T36 l1 x5_1).f2).toList)) || (!(((rd_T36 l0 x5_1).f3) == ((rd_T36 l1 x5_1).f3)) || (!((((rd_T36 l0 x5_1).f4).toList) == (((rd_T36 l1 x5_1).f4).toList)) || (!(((rd_T36 l0 x5_1).f5) == ((rd_T36 l1 x5_1).f5)))))))) = false := by simpa using c7
     clear c7
     have H' := am_ H
     clear H
     have p138 : 0 ≤ (x5_1 : Int) := of_decide_eq_true (by first | (with_reducible assumption) | assumption)
     have q138 : x5_1 < (l0.length : Int) := of_decide_eq_true (by first | (with_reducible assumption) | assumption)
     obtain ⟨ad138, e138, hx138_0, hx138_1, hx138_2, hx138_3, hx138_4, hx138_5⟩ := at_T36 HR0.out x5_1 p138 q138
     cases e138
     replace p138 := eq_true p138
     replace q138 := eq_true q138
     have p139 : 0 ≤ (x5_1 : Int) := of_decide_eq_true (by first | (with_reducible assumption) | assumption)
     have q139 : x5_1 < (l1.length : Int) := of_decide_eq_true (by first | (with_reducible assumption) | assumption)
     obtain ⟨ad139, e139, hx139_0, hx139_1, hx139_2, hx139_3, hx139_4, hx139_5⟩ := at_T36 HR1.out x5_1 p139 q139
     cases e139
     replace p139 := eq_true p139
     replace q139 := eq_true q139
     go_wp2
     repeat (go_quiet (fail); try go_wp2)
     go_roundg k1
     case measure => have := HK1.out; omega
     case rel => exact ⟨(wrap64 (x5_1 + 1)), (by first | rfl | (simp; done) | (simp [*]; done)), H', ⟨by have := HK1.out; omega⟩, by repeat (first | exact Drawn0.refl _ | apply Drawn0.step)⟩
    rw [if_neg c4] at H
    have c4b0 : decide (x5_1 < (l0.length : Int)) = false := decide_eq_false c4
    clear c4
    obtain rfl := e5_ H
    go_wp2
    repeat (go_quiet (fail); try go_wp2)
    go_ret
    exact ⟨by first | rfl | (simp; done) | (simp [*]; done), by repeat (first | exact Drawn0.refl _ | apply Drawn0.step)⟩
 rw [if_neg c3] at H
 have c3b0 : ((l0.length : Int) == (l1.length : Int)) = false := e2_ c3
 have c3b1 : ((l0.length : Int) != (l1.length : Int)) = true := bne_iff_ne.mpr c3
 have c3b2 : (l0.length == l1.length) = false := by first | simpa using c3 | (simp at c3 ⊢; omega)
 obtain rfl := e5_ H
 go_enter Tryd.func17, Tryd.ntmps17
 go_wp2
 repeat (go_quiet (fail); try go_wp2)
 go_ret
 exact ⟨by first | rfl | (simp; done) | (simp [*]; done), by repeat (first | exact Drawn0.refl _ | apply Drawn0.step)⟩

/-! ### pinfoldlaw17_awake: function 8 -/
-- BY HAND
-- 16 9 10 17
abbrev awEx : List Int := [12]
abbrev awRes : List S72 := [⟨(⟨#[118, 105, 112]⟩ : ByteArray), 13⟩]
abbrev awZone : ByteArray := ⟨#[108, 97, 110]⟩
abbrev awRR : List S74 := [⟨(⟨#[119, 119, 119, 46, 108, 97, 110]⟩ : ByteArray), 1, 5, 7, (⟨#[]⟩ : ByteArray), (⟨#[]⟩ : ByteArray), 0⟩]
theorem pinfoldlaw17_awake.lit (W : World) (x : S36) : Kd.C k36 (W.alloc (.cells #[.int .i64 x.f0, .int .i64 x.f1, .string x.f2, .int .i64 x.f3, .string x.f4, .bool x.f5] 36)) (some ⟨W.heap.size, 0, none⟩) 1 [x] := by
 have h := OwnRow.lit (e := 36) (R := Kd.M k36 (W.alloc (.cells #[.int .i64 x.f0, .int .i64 x.f1, .string x.f2, .int .i64 x.f3, .string x.f4, .bool x.f5] 36)) W.heap.size (fun _ => True)) (ps := [x]) W W.heap.size (inner := [.int .i64 x.f0, .int .i64 x.f1, .string x.f2, .int .i64 x.f3, .string x.f4, .bool x.f5]) (Reps.c6 (k36_mkM _ _ _ x) (Reps.none _ _)) (Nat.le_refl _) (by simp)
 obtain ⟨A, c, he, _, hr⟩ := OwnRow.reads h
 injection he with h1 h2 h3
 subst h1
 exact hr.imp_ (Below.refl _ _) (fun _ _ hp => Kd.K_of_M _ hp)
theorem pinfoldlaw17_awake.add0 (a : Addr) : a.add 0 = a := by
 cases a with
 | mk b o p => cases p <;> rfl
theorem pinfoldlaw17_awake.stay {w : World} {p : Addr} {v : Value} (h : w.cell? p = some v) (k : Nat) (o : Obj) (k2 : Nat) : (((w.drewN k).alloc o).drewN k2).cell? p = some v :=
 ((p1_ (p3_ (p1_ (Below.refl w.heap.size w) k) o) k2).cell (wb_ _ _ h)).trans h
theorem pinfoldlaw17_awake.sz (w : World) (o : Obj) (k : Nat) : ((w.alloc o).drewN k).heap.size = w.heap.size + 1 := by
 show (w.alloc o).heap.size = _
 simp
theorem pinfoldlaw17_awake.lit2 (W : World) (x : S36) (g : Nat) (hg : W.heap.size = g) : Kd.C k36 (W.alloc (.cells #[.int .i64 x.f0, .int .i64 x.f1, .string x.f2, .int .i64 x.f3, .string x.f4, .bool x.f5] 36)) (some ⟨g, 0, none⟩) 1 [x] := by
 subst hg
 exact pinfoldlaw17_awake.lit W x
theorem pinfoldlaw17_awake.f1 : claim_Claim.f 10 13 awEx awRes 100 awZone awRR [(⟨10, 1, (⟨#[109, 101]⟩ : ByteArray), 9, (⟨#[]⟩ : ByteArray), false⟩ : S36)] 0 (⟨#[109, 101]⟩ : ByteArray) true 167772161 10 0 (⟨#[112, 99]⟩ : ByteArray) = some ([(⟨10, 2, (⟨#[109, 101]⟩ : ByteArray), 100, (⟨#[112, 99]⟩ : ByteArray), true⟩ : S36)], 1, 10, 0) := by kernel_rfl
theorem pinfoldlaw17_awake.f2 : claim_Claim.f 10 13 awEx awRes 100 awZone awRR [(⟨10, 1, (⟨#[109, 101]⟩ : ByteArray), 9, (⟨#[]⟩ : ByteArray), false⟩ : S36)] 0 (⟨#[121, 111, 117]⟩ : ByteArray) true 167772161 10 0 (⟨#[]⟩ : ByteArray) = some ([(⟨10, 1, (⟨#[109, 101]⟩ : ByteArray), 9, (⟨#[]⟩ : ByteArray), false⟩ : S36)], 2, 0, 0) := by kernel_rfl
theorem pinfoldlaw17_awake.f3 : claim_Claim.f 10 13 awEx awRes 100 awZone awRR [(⟨10, 1, (⟨#[109, 101]⟩ : ByteArray), 9, (⟨#[]⟩ : ByteArray), false⟩ : S36)] 0 (⟨#[109, 101]⟩ : ByteArray) true 5 10 0 (⟨#[]⟩ : ByteArray) = some ([(⟨10, 0, (⟨#[109, 101]⟩ : ByteArray), 9, (⟨#[]⟩ : ByteArray), false⟩ : S36)], 0, 0, 0) := by kernel_rfl
theorem pinfoldlaw17_awake.f4 : claim_Claim.f 10 13 awEx awRes 100 awZone awRR [(⟨10, 2, (⟨#[109, 101]⟩ : ByteArray), 100, (⟨#[112, 99]⟩ : ByteArray), true⟩ : S36)] 50 (⟨#[109, 101]⟩ : ByteArray) false 0 0 10 (⟨#[]⟩ : ByteArray) = some ([(⟨10, 2, (⟨#[109, 101]⟩ : ByteArray), 150, (⟨#[112, 99]⟩ : ByteArray), true⟩ : S36)], 1, 10, 0) := by kernel_rfl
theorem pinfoldlaw17_awake.f5 : claim_Claim.f 10 13 awEx awRes 100 awZone awRR [] 0 (⟨#[109, 101]⟩ : ByteArray) false 0 10 0 (⟨#[]⟩ : ByteArray) = some ([], 0, 0, 0) := by kernel_rfl
theorem pinfoldlaw17_awake.f6 : claim_Claim.f 10 13 awEx awRes 100 awZone awRR [] 0 (⟨#[]⟩ : ByteArray) false 0 0 0 (⟨#[]⟩ : ByteArray) = some ([], 0, 0, 1700) := by kernel_rfl
theorem pinfoldlaw17_awake.s1 : pinfoldlaw0_SameLeases.f 5 [(⟨10, 2, (⟨#[109, 101]⟩ : ByteArray), 100, (⟨#[112, 99]⟩ : ByteArray), true⟩ : S36)] [(⟨10, 2, (⟨#[109, 101]⟩ : ByteArray), 100, (⟨#[112, 99]⟩ : ByteArray), true⟩ : S36)] = some true := by kernel_rfl
theorem pinfoldlaw17_awake.s2 : pinfoldlaw0_SameLeases.f 5 [(⟨10, 0, (⟨#[109, 101]⟩ : ByteArray), 9, (⟨#[]⟩ : ByteArray), false⟩ : S36)] [(⟨10, 0, (⟨#[109, 101]⟩ : ByteArray), 9, (⟨#[]⟩ : ByteArray), false⟩ : S36)] = some true := by kernel_rfl
def pinfoldlaw17_awake.f : Option Bool := some true
set_option maxHeartbeats 8000000 in
set_option maxRecDepth 100000 in
theorem pinfoldlaw17_awake.calls (r : Bool) (w : World) (h : pinfoldlaw17_awake.f = some r) :
  Calls Tryd.prog 8 #[] w fun e w' => e = .returned (.bool r) ∧ Below w.heap.size w w' := by
 obtain rfl := e5_ h
 clear h
 obtain ⟨EX, hEX⟩ : ∃ l, awEx = l := ⟨_, rfl⟩
 obtain ⟨RE, hRE⟩ : ∃ l, awRes = l := ⟨_, rfl⟩
 obtain ⟨ZO, hZO⟩ : ∃ l, awZone = l := ⟨_, rfl⟩
 obtain ⟨SR, hSR⟩ : ∃ l, awRR = l := ⟨_, rfl⟩
 obtain ⟨LA, hLA⟩ : ∃ l, [(⟨10, 2, (⟨#[109, 101]⟩ : ByteArray), 100, (⟨#[112, 99]⟩ : ByteArray), true⟩ : S36)] = l := ⟨_, rfl⟩
 obtain ⟨LB, hLB⟩ : ∃ l, [(⟨10, 0, (⟨#[109, 101]⟩ : ByteArray), 9, (⟨#[]⟩ : ByteArray), false⟩ : S36)] = l := ⟨_, rfl⟩
 obtain ⟨LD, hLD⟩ : ∃ l, [(⟨10, 2, (⟨#[109, 101]⟩ : ByteArray), 150, (⟨#[112, 99]⟩ : ByteArray), true⟩ : S36)] = l := ⟨_, rfl⟩
 have F1 := pinfoldlaw17_awake.f1; have F2 := pinfoldlaw17_awake.f2; have F3 := pinfoldlaw17_awake.f3; have F4 := pinfoldlaw17_awake.f4; have F5 := pinfoldlaw17_awake.f5; have F6 := pinfoldlaw17_awake.f6; have S1 := pinfoldlaw17_awake.s1; have S2 := pinfoldlaw17_awake.s2
 rw [hEX, hRE, hZO, hSR] at F1 F2 F3 F4 F5 F6
 rw [hLA] at F1 F4
 rw [hLB] at F3
 rw [hLD] at F4
 rw (occs := [1]) [hLA] at S1
 rw (occs := [1]) [hLB] at S2
 have hlD : LD.length = 1 := by rw [← hLD]; rfl
 have hD0 : rd_T36 LD 0 = (⟨10, 2, (⟨#[109, 101]⟩ : ByteArray), 150, (⟨#[112, 99]⟩ : ByteArray), true⟩ : S36) := by rw [← hLD]; rfl
 have CG := am_ (fun W => pinfoldlaw17_given.calls 10 13 EX RE 100 ZO SR W (by rw [← hEX, ← hRE, ← hZO, ← hSR]; rfl))
 have C1 := am_ (fun W (AE : Option Addr) (cE : Nat) (AR : Option Addr) (cR : Nat) (AS : Option Addr) (cS : Nat) (hE : Kd.C (Kd.int .i64) W AE EX.length EX) (hcE : EX.length ≤ cE) (hR : Kd.C k72 W AR RE.length RE) (hcR : RE.length ≤ cR) (hS : Kd.C k74 W AS SR.length SR) (hcS : SR.length ≤ cS) (A : Option Addr) (hL : Kd.C k36 W A 1 [(⟨10, 1, (⟨#[109, 101]⟩ : ByteArray), 9, (⟨#[]⟩ : ByteArray), false⟩ : S36)]) => (show Calls Tryd.prog 9 #[.agg #[.int .i64 10, .int .i64 13, .slice AE EX.length cE, .slice AR RE.length cR, .int .i64 100, .string ZO, .slice AS SR.length cS], .slice A 1 1, .int .i64 0, .string (⟨#[109, 101]⟩ : ByteArray), .agg #[.bool true, .int .i64 167772161, .int .i64 10, .int .i64 0, .string (⟨#[112, 99]⟩ : ByteArray)]] W fun e w' => ∃ v0_ : Value, e = .returned (.tuple #[v0_, .int .i64 1, .int .i64 10, .int .i64 0]) ∧ Kd.R k36 36 w' W.heap.size (fun _ => True) v0_ LA ∧ Below W.heap.size W w' from claim_Claim.calls 10 13 AE cE EX AR cR RE 100 ZO AS cS SR A 1 [(⟨10, 1, (⟨#[109, 101]⟩ : ByteArray), 9, (⟨#[]⟩ : ByteArray), false⟩ : S36)] 0 (⟨#[109, 101]⟩ : ByteArray) true 167772161 10 0 (⟨#[112, 99]⟩ : ByteArray) LA 1 10 0 W hE hcE hR hcR hS hcS hL (Nat.le_refl 1) F1))
 have C2 := am_ (fun W (AE : Option Addr) (cE : Nat) (AR : Option Addr) (cR : Nat) (AS : Option Addr) (cS : Nat) (hE : Kd.C (Kd.int .i64) W AE EX.length EX) (hcE : EX.length ≤ cE) (hR : Kd.C k72 W AR RE.length RE) (hcR : RE.length ≤ cR) (hS : Kd.C k74 W AS SR.length SR) (hcS : SR.length ≤ cS) (A : Option Addr) (hL : Kd.C k36 W A 1 [(⟨10, 1, (⟨#[109, 101]⟩ : ByteArray), 9, (⟨#[]⟩ : ByteArray), false⟩ : S36)]) => (show Calls Tryd.prog 9 #[.agg #[.int .i64 10, .int .i64 13, .slice AE EX.length cE, .slice AR RE.length cR, .int .i64 100, .string ZO, .slice AS SR.length cS], .slice A 1 1, .int .i64 0, .string (⟨#[121, 111, 117]⟩ : ByteArray), .agg #[.bool true, .int .i64 167772161, .int .i64 10, .int .i64 0, .string (⟨#[]⟩ : ByteArray)]] W fun e w' => ∃ v0_ : Value, e = .returned (.tuple #[v0_, .int .i64 2, .int .i64 0, .int .i64 0]) ∧ Kd.R k36 36 w' W.heap.size (fun _ => True) v0_ [(⟨10, 1, (⟨#[109, 101]⟩ : ByteArray), 9, (⟨#[]⟩ : ByteArray), false⟩ : S36)] ∧ Below W.heap.size W w' from claim_Claim.calls 10 13 AE cE EX AR cR RE 100 ZO AS cS SR A 1 [(⟨10, 1, (⟨#[109, 101]⟩ : ByteArray), 9, (⟨#[]⟩ : ByteArray), false⟩ : S36)] 0 (⟨#[121, 111, 117]⟩ : ByteArray) true 167772161 10 0 (⟨#[]⟩ : ByteArray) [(⟨10, 1, (⟨#[109, 101]⟩ : ByteArray), 9, (⟨#[]⟩ : ByteArray), false⟩ : S36)] 2 0 0 W hE hcE hR hcR hS hcS hL (Nat.le_refl 1) F2))
 have C3 := am_ (fun W (AE : Option Addr) (cE : Nat) (AR : Option Addr) (cR : Nat) (AS : Option Addr) (cS : Nat) (hE : Kd.C (Kd.int .i64) W AE EX.length EX) (hcE : EX.length ≤ cE) (hR : Kd.C k72 W AR RE.length RE) (hcR : RE.length ≤ cR) (hS : Kd.C k74 W AS SR.length SR) (hcS : SR.length ≤ cS) (A : Option Addr) (hL : Kd.C k36 W A 1 [(⟨10, 1, (⟨#[109, 101]⟩ : ByteArray), 9, (⟨#[]⟩ : ByteArray), false⟩ : S36)]) => (show Calls Tryd.prog 9 #[.agg #[.int .i64 10, .int .i64 13, .slice AE EX.length cE, .slice AR RE.length cR, .int .i64 100, .string ZO, .slice AS SR.length cS], .slice A 1 1, .int .i64 0, .string (⟨#[109, 101]⟩ : ByteArray), .agg #[.bool true, .int .i64 5, .int .i64 10, .int .i64 0, .string (⟨#[]⟩ : ByteArray)]] W fun e w' => ∃ v0_ : Value, e = .returned (.tuple #[v0_, .int .i64 0, .int .i64 0, .int .i64 0]) ∧ Kd.R k36 36 w' W.heap.size (fun _ => True) v0_ LB ∧ Below W.heap.size W w' from claim_Claim.calls 10 13 AE cE EX AR cR RE 100 ZO AS cS SR A 1 [(⟨10, 1, (⟨#[109, 101]⟩ : ByteArray), 9, (⟨#[]⟩ : ByteArray), false⟩ : S36)] 0 (⟨#[109, 101]⟩ : ByteArray) true 5 10 0 (⟨#[]⟩ : ByteArray) LB 0 0 0 W hE hcE hR hcR hS hcS hL (Nat.le_refl 1) F3))
 have C4 := am_ (fun W (AE : Option Addr) (cE : Nat) (AR : Option Addr) (cR : Nat) (AS : Option Addr) (cS : Nat) (hE : Kd.C (Kd.int .i64) W AE EX.length EX) (hcE : EX.length ≤ cE) (hR : Kd.C k72 W AR RE.length RE) (hcR : RE.length ≤ cR) (hS : Kd.C k74 W AS SR.length SR) (hcS : SR.length ≤ cS) (A : Option Addr) (c : Nat) (hL : Kd.C k36 W A LA.length LA) (hc : LA.length ≤ c) => (show Calls Tryd.prog 9 #[.agg #[.int .i64 10, .int .i64 13, .slice AE EX.length cE, .slice AR RE.length cR, .int .i64 100, .string ZO, .slice AS SR.length cS], .slice A LA.length c, .int .i64 50, .string (⟨#[109, 101]⟩ : ByteArray), .agg #[.bool false, .int .i64 0, .int .i64 0, .int .i64 10, .string (⟨#[]⟩ : ByteArray)]] W fun e w' => ∃ v0_ : Value, e = .returned (.tuple #[v0_, .int .i64 1, .int .i64 10, .int .i64 0]) ∧ Kd.R k36 36 w' W.heap.size (fun _ => True) v0_ LD ∧ Below W.heap.size W w' from claim_Claim.calls 10 13 AE cE EX AR cR RE 100 ZO AS cS SR A c LA 50 (⟨#[109, 101]⟩ : ByteArray) false 0 0 10 (⟨#[]⟩ : ByteArray) LD 1 10 0 W hE hcE hR hcR hS hcS hL hc F4))
 have C5 := am_ (fun W (AE : Option Addr) (cE : Nat) (AR : Option Addr) (cR : Nat) (AS : Option Addr) (cS : Nat) (hE : Kd.C (Kd.int .i64) W AE EX.length EX) (hcE : EX.length ≤ cE) (hR : Kd.C k72 W AR RE.length RE) (hcR : RE.length ≤ cR) (hS : Kd.C k74 W AS SR.length SR) (hcS : SR.length ≤ cS)  => (show Calls Tryd.prog 9 #[.agg #[.int .i64 10, .int .i64 13, .slice AE EX.length cE, .slice AR RE.length cR, .int .i64 100, .string ZO, .slice AS SR.length cS], .slice none 0 0, .int .i64 0, .string (⟨#[109, 101]⟩ : ByteArray), .agg #[.bool false, .int .i64 0, .int .i64 10, .int .i64 0, .string (⟨#[]⟩ : ByteArray)]] W fun e w' => ∃ v0_ : Value, e = .returned (.tuple #[v0_, .int .i64 0, .int .i64 0, .int .i64 0]) ∧ Kd.R k36 36 w' W.heap.size (fun _ => True) v0_ [] ∧ Below W.heap.size W w' from claim_Claim.calls 10 13 AE cE EX AR cR RE 100 ZO AS cS SR none 0 [] 0 (⟨#[109, 101]⟩ : ByteArray) false 0 10 0 (⟨#[]⟩ : ByteArray) [] 0 0 0 W hE hcE hR hcR hS hcS (Kd.R_reads' (show Kd.R k36 36 W 0 (fun _ => True) (.slice none 0 0) [] from Kd.R_nil _ _ _ _ _)).2.2 (Nat.le_refl 0) F5))
 have C6 := am_ (fun W (AE : Option Addr) (cE : Nat) (AR : Option Addr) (cR : Nat) (AS : Option Addr) (cS : Nat) (hE : Kd.C (Kd.int .i64) W AE EX.length EX) (hcE : EX.length ≤ cE) (hR : Kd.C k72 W AR RE.length RE) (hcR : RE.length ≤ cR) (hS : Kd.C k74 W AS SR.length SR) (hcS : SR.length ≤ cS)  => (show Calls Tryd.prog 9 #[.agg #[.int .i64 10, .int .i64 13, .slice AE EX.length cE, .slice AR RE.length cR, .int .i64 100, .string ZO, .slice AS SR.length cS], .slice none 0 0, .int .i64 0, .string (⟨#[]⟩ : ByteArray), .agg #[.bool false, .int .i64 0, .int .i64 0, .int .i64 0, .string (⟨#[]⟩ : ByteArray)]] W fun e w' => ∃ v0_ : Value, e = .returned (.tuple #[v0_, .int .i64 0, .int .i64 0, .int .i64 1700]) ∧ Kd.R k36 36 w' W.heap.size (fun _ => True) v0_ [] ∧ Below W.heap.size W w' from claim_Claim.calls 10 13 AE cE EX AR cR RE 100 ZO AS cS SR none 0 [] 0 (⟨#[]⟩ : ByteArray) false 0 0 0 (⟨#[]⟩ : ByteArray) [] 0 0 1700 W hE hcE hR hcR hS hcS (Kd.R_reads' (show Kd.R k36 36 W 0 (fun _ => True) (.slice none 0 0) [] from Kd.R_nil _ _ _ _ _)).2.2 (Nat.le_refl 0) F6))
 have CN := am_ (fun (x : Int) W => pinfoldlaw0_Num.calls x x W rfl)
 have CS1 := am_ (fun W A c (hA : Kd.C k36 W A LA.length LA) (hc : LA.length ≤ c) => (show Calls Tryd.prog 17 #[.slice A LA.length c, .slice (some ⟨W.heap.size, 0, none⟩) 1 1] (W.alloc (.cells #[.int .i64 10, .int .i64 2, .string (⟨#[109, 101]⟩ : ByteArray), .int .i64 100, .string (⟨#[112, 99]⟩ : ByteArray), .bool true] 36)) fun e w' => e = .returned (.bool true) ∧ Drawn0 (W.alloc (.cells #[.int .i64 10, .int .i64 2, .string (⟨#[109, 101]⟩ : ByteArray), .int .i64 100, .string (⟨#[112, 99]⟩ : ByteArray), .bool true] 36)) w' from pinfoldlaw0_SameLeases.calls 5 A c LA (some ⟨W.heap.size, 0, none⟩) 1 [(⟨10, 2, (⟨#[109, 101]⟩ : ByteArray), 100, (⟨#[112, 99]⟩ : ByteArray), true⟩ : S36)] true (W.alloc (.cells #[.int .i64 10, .int .i64 2, .string (⟨#[109, 101]⟩ : ByteArray), .int .i64 100, .string (⟨#[112, 99]⟩ : ByteArray), .bool true] 36)) (c1_ hA _) hc (pinfoldlaw17_awake.lit W (⟨10, 2, (⟨#[109, 101]⟩ : ByteArray), 100, (⟨#[112, 99]⟩ : ByteArray), true⟩ : S36)) (Nat.le_refl 1) S1))
 have CS2 := am_ (fun W g (hg : W.heap.size = g) A c (hA : Kd.C k36 W A LB.length LB) (hc : LB.length ≤ c) => (show Calls Tryd.prog 17 #[.slice A LB.length c, .slice (some ⟨g, 0, none⟩) 1 1] (W.alloc (.cells #[.int .i64 10, .int .i64 0, .string (⟨#[109, 101]⟩ : ByteArray), .int .i64 9, .string (⟨#[]⟩ : ByteArray), .bool false] 36)) fun e w' => e = .returned (.bool true) ∧ Drawn0 (W.alloc (.cells #[.int .i64 10, .int .i64 0, .string (⟨#[109, 101]⟩ : ByteArray), .int .i64 9, .string (⟨#[]⟩ : ByteArray), .bool false] 36)) w' from pinfoldlaw0_SameLeases.calls 5 A c LB (some ⟨g, 0, none⟩) 1 [(⟨10, 0, (⟨#[109, 101]⟩ : ByteArray), 9, (⟨#[]⟩ : ByteArray), false⟩ : S36)] true (W.alloc (.cells #[.int .i64 10, .int .i64 0, .string (⟨#[109, 101]⟩ : ByteArray), .int .i64 9, .string (⟨#[]⟩ : ByteArray), .bool false] 36)) (c1_ hA _) hc (pinfoldlaw17_awake.lit2 W (⟨10, 0, (⟨#[109, 101]⟩ : ByteArray), 9, (⟨#[]⟩ : ByteArray), false⟩ : S36) g hg) (Nat.le_refl 1) S2))
 have HD0 := am_ hD0
 clear F1 F2 F3 F4 F5 F6 S1 S2 hEX hRE hZO hSR hLA hLB hLD hD0
 go_enter Tryd.func8, Tryd.ntmps8
 go_wp2_with (first | (go_at_call 16; (with_reducible refine (CG.out _).mono ?_); rintro e w1 ⟨v1, v2, v3, rfl, ho1, ho2, ho3, hb2⟩; obtain ⟨AE, cE, rfl, hcE, hE⟩ := Kd.R_reads ho1; obtain ⟨AR, cR, rfl, hcR, hR⟩ := Kd.R_reads ho2; obtain ⟨AS, cS, rfl, hcS, hS⟩ := Kd.R_reads ho3; have HCE := am_ hcE; have HCR := am_ hcR; have HCS := am_ hcS; have HE := am_ (c1_ hE (.cells #[.int .i64 10, .int .i64 13, .slice AE EX.length cE, .slice AR RE.length cR, .int .i64 100, .string ZO, .slice AS SR.length cS] 26)); have HR := am_ (c1_ hR (.cells #[.int .i64 10, .int .i64 13, .slice AE EX.length cE, .slice AR RE.length cR, .int .i64 100, .string ZO, .slice AS SR.length cS] 26)); have HS := am_ (c1_ hS (.cells #[.int .i64 10, .int .i64 13, .slice AE EX.length cE, .slice AR RE.length cR, .int .i64 100, .string ZO, .slice AS SR.length cS] 26)); have BK := am_ (blk_new w1 (.cells #[.int .i64 10, .int .i64 13, .slice AE EX.length cE, .slice AR RE.length cR, .int .i64 100, .string ZO, .slice AS SR.length cS] 26)); have HB := am_ (p3_ hb2 (.cells #[.int .i64 10, .int .i64 13, .slice AE EX.length cE, .slice AR RE.length cR, .int .i64 100, .string ZO, .slice AS SR.length cS] 26)); clear ho1 ho2 ho3 hE hR hS hcE hcR hcS hb2; have u := fun k => bc_ BK.out k) | (go_at_call 9; replace HE := am_ (c1_ HE.out (.cells #[.int .i64 10, .int .i64 1, .string (⟨#[109, 101]⟩ : ByteArray), .int .i64 9, .string (⟨#[]⟩ : ByteArray), .bool false] 36)); replace HR := am_ (c1_ HR.out (.cells #[.int .i64 10, .int .i64 1, .string (⟨#[109, 101]⟩ : ByteArray), .int .i64 9, .string (⟨#[]⟩ : ByteArray), .bool false] 36)); replace HS := am_ (c1_ HS.out (.cells #[.int .i64 10, .int .i64 1, .string (⟨#[109, 101]⟩ : ByteArray), .int .i64 9, .string (⟨#[]⟩ : ByteArray), .bool false] 36)); replace BK := am_ (k1_ BK.out (.cells #[.int .i64 10, .int .i64 1, .string (⟨#[109, 101]⟩ : ByteArray), .int .i64 9, .string (⟨#[]⟩ : ByteArray), .bool false] 36)); replace HB := am_ (p3_ HB.out (.cells #[.int .i64 10, .int .i64 1, .string (⟨#[109, 101]⟩ : ByteArray), .int .i64 9, .string (⟨#[]⟩ : ByteArray), .bool false] 36)); have HL := am_ (pinfoldlaw17_awake.lit2 (w1.alloc (.cells #[.int .i64 10, .int .i64 13, .slice AE EX.length cE, .slice AR RE.length cR, .int .i64 100, .string ZO, .slice AS SR.length cS] 26)) (⟨10, 1, (⟨#[109, 101]⟩ : ByteArray), 9, (⟨#[]⟩ : ByteArray), false⟩ : S36) (w1.heap.size + 1) (by simp)); (with_reducible refine (C1.out _ _ _ _ _ _ _ HE.out HCE.out HR.out HCR.out HS.out HCS.out _ HL.out).mono ?_); rintro e w2 ⟨v, rfl, hv, hb2⟩; obtain ⟨AA, cA, rfl, hc9, h9⟩ := Kd.R_reads hv; replace HE := am_ (c4_ HE.out hb2); replace HR := am_ (c4_ HR.out hb2); replace HS := am_ (c4_ HS.out hb2); replace HL := am_ (c4_ HL.out hb2); replace BK := am_ (kb_ BK.out hb2); replace HB := am_ (bt_ HB.out hb2); have HA := am_ h9; have HCA := am_ hc9; clear hv hb2 hc9 h9; (try clear u); have u := fun k => bc_ BK.out k) | (go_at_call 9; (with_reducible refine (C2.out _ _ _ _ _ _ _ HE.out HCE.out HR.out HCR.out HS.out HCS.out _ HL.out).mono ?_); rintro e w3 ⟨v, rfl, hv, hb2⟩; obtain ⟨A2, c2, rfl, hc9, h9⟩ := Kd.R_reads hv; replace HE := am_ (c4_ HE.out hb2); replace HR := am_ (c4_ HR.out hb2); replace HS := am_ (c4_ HS.out hb2); replace HL := am_ (c4_ HL.out hb2); replace HA := am_ (c4_ HA.out hb2); replace BK := am_ (kb_ BK.out hb2); replace HB := am_ (bt_ HB.out hb2); clear hv hb2 hc9 h9; (try clear u); have u := fun k => bc_ BK.out k) | (go_at_call 9; (with_reducible refine (C3.out _ _ _ _ _ _ _ HE.out HCE.out HR.out HCR.out HS.out HCS.out _ HL.out).mono ?_); rintro e w4 ⟨v, rfl, hv, hb2⟩; obtain ⟨AB, cB, rfl, hc9, h9⟩ := Kd.R_reads hv; replace HE := am_ (c4_ HE.out hb2); replace HR := am_ (c4_ HR.out hb2); replace HS := am_ (c4_ HS.out hb2); replace HL := am_ (c4_ HL.out hb2); replace HA := am_ (c4_ HA.out hb2); replace BK := am_ (kb_ BK.out hb2); replace HB := am_ (bt_ HB.out hb2); have HBr := am_ h9; have HCB := am_ hc9; clear hv hb2 hc9 h9; (try clear u); have u := fun k => bc_ BK.out k) | (go_at_call 9; (with_reducible refine (C4.out _ _ _ _ _ _ _ HE.out HCE.out HR.out HCR.out HS.out HCS.out _ _ HA.out HCA.out).mono ?_); rintro e w5 ⟨v, rfl, hv, hb2⟩; obtain ⟨AD, cD, rfl, hc9, h9⟩ := Kd.R_reads hv; replace HE := am_ (c4_ HE.out hb2); replace HR := am_ (c4_ HR.out hb2); replace HS := am_ (c4_ HS.out hb2); replace HA := am_ (c4_ HA.out hb2); replace HBr := am_ (c4_ HBr.out hb2); replace BK := am_ (kb_ BK.out hb2); replace HB := am_ (bt_ HB.out hb2); have HD := am_ h9; have HCD := am_ hc9; clear hv hb2 hc9 h9; (try clear u); have u := fun k => bc_ BK.out k) | (go_at_call 9; (with_reducible refine (C5.out _ _ _ _ _ _ _ HE.out HCE.out HR.out HCR.out HS.out HCS.out ).mono ?_); rintro e w6 ⟨v, rfl, hv, hb2⟩; obtain ⟨A5, c5, rfl, hc9, h9⟩ := Kd.R_reads hv; replace HE := am_ (c4_ HE.out hb2); replace HR := am_ (c4_ HR.out hb2); replace HS := am_ (c4_ HS.out hb2); replace HA := am_ (c4_ HA.out hb2); replace HBr := am_ (c4_ HBr.out hb2); replace HD := am_ (c4_ HD.out hb2); replace BK := am_ (kb_ BK.out hb2); replace HB := am_ (bt_ HB.out hb2); clear hv hb2 hc9 h9; (try clear u); have u := fun k => bc_ BK.out k) | (go_at_call 9; (with_reducible refine (C6.out _ _ _ _ _ _ _ HE.out HCE.out HR.out HCR.out HS.out HCS.out ).mono ?_); rintro e w7 ⟨v, rfl, hv, hb2⟩; obtain ⟨A6, c6, rfl, hc9, h9⟩ := Kd.R_reads hv; replace HE := am_ (c4_ HE.out hb2); replace HR := am_ (c4_ HR.out hb2); replace HS := am_ (c4_ HS.out hb2); replace HA := am_ (c4_ HA.out hb2); replace HBr := am_ (c4_ HBr.out hb2); replace HD := am_ (c4_ HD.out hb2); replace BK := am_ (kb_ BK.out hb2); replace HB := am_ (bt_ HB.out hb2); clear hv hb2 hc9 h9; (try clear u); have u := fun k => bc_ BK.out k) | (go_at_call 17; (with_reducible refine (CS1.out w7 _ _ HA.out HCA.out).mono ?_); rintro e w8 ⟨rfl, ⟨nd, rfl⟩⟩; replace HBr := am_ (c1_ HBr.out (.cells #[.int .i64 10, .int .i64 2, .string (⟨#[109, 101]⟩ : ByteArray), .int .i64 100, .string (⟨#[112, 99]⟩ : ByteArray), .bool true] 36)); replace HD := am_ (c1_ HD.out (.cells #[.int .i64 10, .int .i64 2, .string (⟨#[109, 101]⟩ : ByteArray), .int .i64 100, .string (⟨#[112, 99]⟩ : ByteArray), .bool true] 36)); replace HB := am_ (p3_ HB.out (.cells #[.int .i64 10, .int .i64 2, .string (⟨#[109, 101]⟩ : ByteArray), .int .i64 100, .string (⟨#[112, 99]⟩ : ByteArray), .bool true] 36)); obtain ⟨ad, e1, y0, y1, y2, y3, y4, y5⟩ := at_T36 HD.out 0 (by omega) (by rw [hlD]; decide); subst e1; rw [HD0.out] at y3 y4; dsimp only at y3 y4; rw [show ((0 : Int)).toNat = 0 from rfl, show 0 * 6 = 0 from rfl, (pinfoldlaw17_awake.add0 _)] at y3 y4; have Z3 := am_ (pinfoldlaw17_awake.stay y3); have Z4 := am_ (pinfoldlaw17_awake.stay y4); clear y0 y1 y2 y3 y4 y5; clear HA HE HR HS BK u) | (go_at_call 17; (with_reducible refine (CS2.out _ _ (pinfoldlaw17_awake.sz _ _ _) _ _ (by (with_reducible repeat (first | exact HBr.out | refine c2_ ?_ _ | refine c1_ ?_ _))) HCB.out).mono ?_); rintro e w8 ⟨rfl, ⟨nd2, rfl⟩⟩; have z3 := Z3.out; have z4 := Z4.out) | (go_at_call 10; (with_reducible refine (CN.out _ _).mono ?_); rintro e wn ⟨rfl, ⟨nd, rfl⟩⟩))
 go_ret
 exact ⟨rfl, by repeat (with_reducible first | exact HB.out | apply p3_ | apply p1_)⟩

/-! ### pinfoldref11_FindLease: function 11 -/
def pinfoldref11_FindLease.l0 : Nat → List (S36) → Int → Int → Option (Int × Int × ByteArray × Int × ByteArray × Bool × Bool)
 | 0, _, _, _ => none
 | k + 1, x0, x1, x6 => if x6 < (x0.length : Int) then (if 0 ≤ x6 then (if ((rd_T36 x0 x6).f0) = x1 then (some ((rd_T36 x0 x6).f0, (rd_T36 x0 x6).f1, (rd_T36 x0 x6).f2, (rd_T36 x0 x6).f3, (rd_T36 x0 x6).f4, (rd_T36 x0 x6).f5, true)) else (pinfoldref11_FindLease.l0 k x0 x1 (wrap64 (x6 + 1)))) else (none)) else (some (0, 0, (⟨#[]⟩ : ByteArray), 0, (⟨#[]⟩ : ByteArray), false, false))
def pinfoldref11_FindLease.f (k : Nat) (l0 : List (S36)) (a1 : Int) : Option (Int × Int × ByteArray × Int × ByteArray × Bool × Bool) := pinfoldref11_FindLease.l0 k l0 a1 0
theorem pinfoldref11_FindLease.mono_l : ∀ k, (∀ y0 y1 y2, LeO (pinfoldref11_FindLease.l0 k y0 y1 y2) (pinfoldref11_FindLease.l0 (k + 1) y0 y1 y2))
 | 0 => fun _ _ _ r h => by simp [pinfoldref11_FindLease.l0] at h
 | k + 1 => by
  have ih0 := pinfoldref11_FindLease.mono_l k
  ·intro y0 y1 y2
   unfold pinfoldref11_FindLease.l0
   repeat' first
   | (with_reducible exact ih0 _ _ _)
   | (with_reducible exact LeO.refl _)
   | (with_reducible exact LeO.none _)
   | (with_reducible refine LeO.ite ?_ ?_)
   | (with_reducible refine LeO.bind ?_ (fun _ => ?_))
   | exact ih0 _ _ _
   | exact LeO.none _
   | refine LeO.ite ?_ ?_
   | refine LeO.bind ?_ (fun _ => ?_)
theorem pinfoldref11_FindLease.mono : ∀ a0 a1 k, LeO (pinfoldref11_FindLease.f k a0 a1) (pinfoldref11_FindLease.f (k + 1) a0 a1) := by
 intro a0 a1 k
 have ih0 := pinfoldref11_FindLease.mono_l k
 unfold pinfoldref11_FindLease.f
 repeat' first
   | (with_reducible exact ih0 _ _ _)
   | (with_reducible exact LeO.refl _)
   | (with_reducible exact LeO.none _)
   | (with_reducible refine LeO.ite ?_ ?_)
   | (with_reducible refine LeO.bind ?_ (fun _ => ?_))
   | exact ih0 _ _ _
   | exact LeO.none _
   | refine LeO.ite ?_ ?_
   | refine LeO.bind ?_ (fun _ => ?_)
set_option maxHeartbeats 8000000 in
set_option maxRecDepth 100000 in
theorem pinfoldref11_FindLease.calls (k : Nat) (A0 : Option Addr) (c0 : Nat) (l0 : List (S36)) (a1 : Int) (r1 : Int) (r2 : Int) (r3 : ByteArray) (r4 : Int) (r5 : ByteArray) (r6 : Bool) (r7 : Bool) (w : World) (hr0 : Kd.C k36 w A0 l0.length l0) (hc0 : l0.length ≤ c0) (h : pinfoldref11_FindLease.f k l0 a1 = some (r1, r2, r3, r4, r5, r6, r7)) :
  Calls Tryd.prog 11 #[.slice A0 l0.length c0, .int .i64 a1] w fun e w' => e = .returned (.tuple #[.agg #[.int .i64 r1, .int .i64 r2, .string r3, .int .i64 r4, .string r5, .bool r6], .bool r7]) ∧ Below w.heap.size w w' := by
 have hu36 := Tryd.underlying36
 have HR0 := am_ hr0
 have HC0 := am_ hc0
 clear hr0 hc0
 have HB := am_ (Below.refl w.heap.size w)
 have H : (pinfoldref11_FindLease.l0 k l0 a1 0) = some (r1, r2, r3, r4, r5, r6, r7) := h
 clear h
 have H' := am_ H
 clear H
 go_enter Tryd.func11, Tryd.ntmps11
 go_wp2_with (first | ((with_reducible refine gate_dst (N := 4) rfl ?_); refine box_event ?hg (N := 4) ?hd (cs := #[.int .i64 0, .int .i64 0, .string (⟨#[]⟩ : ByteArray), .int .i64 0, .string (⟨#[]⟩ : ByteArray), .bool false]) (t := 36) ?hr ?_; (case hd => rfl); (case hg => rfl); (case hr => first | (go_simp; done) | (go_simp; rfl)); intro gb140 hg w3 hbox hb; have n0_ := am_ (bt_ (by repeat (with_reducible first | exact HB.out | apply p3_ | apply p1_ | apply p2_)) hb); have n1_ := am_ (hbox); have n2_ := am_ ((by rw [hg]; exact (bz_ (by repeat (with_reducible first | exact HB.out | apply p3_ | apply p1_ | apply p2_))) : w.heap.size ≤ gb140)); have n3_ := am_ ((by rw [hg]; exact (bz_ (by repeat (with_reducible first | exact HB.out | apply p3_ | apply p1_ | apply p2_))) : w.heap.size ≤ gb140)); clear HB; have HB := n0_; have BK140 := n1_; have GW140 := n2_; have GE140 := n3_; clear n0_ n1_ n2_ n3_; clear hb hbox hg))
 go_loopg [6] k (fun kq v6 w' => ∃ (x6_1 : Int) (x141000_1 : Int) (x141001_1 : Int) (x141002_1 : ByteArray) (x141003_1 : Int) (x141004_1 : ByteArray) (x141005_1 : Bool), v6 = .int .i64 x6_1 ∧ Aside0 (pinfoldref11_FindLease.l0 kq l0 a1 x6_1 = some (r1, r2, r3, r4, r5, r6, r7)) ∧ Aside0 (kq ≤ k) ∧ Aside0 (w'.heap[gb140]? = some (.cells #[.int .i64 x141000_1, .int .i64 x141001_1, .string x141002_1, .int .i64 x141003_1, .string x141004_1, .bool x141005_1] 36 (0, 0))) ∧ Aside0 (Below w.heap.size w w'))
 case atStart => exact ⟨(0), (0), (0), ((⟨#[]⟩ : ByteArray)), (0), ((⟨#[]⟩ : ByteArray)), (false), (by first | rfl | (simp; done) | (simp [*]; done)), H', ⟨Nat.le_refl _⟩, ⟨by (with_reducible repeat (first | refine k2_ ?_ _ | refine k3_ ?_ | refine k1_ ?_ _)); exact BK140.out⟩, ⟨by repeat (with_reducible first | exact HB.out | apply p3_ | apply p1_ | apply p2_ | refine bs_ ?_ GE140.out)⟩⟩
 case round =>
  clear H'
  obtain ⟨x6_1, x141000_1, x141001_1, x141002_1, x141003_1, x141004_1, x141005_1, rfl, HA, HK1, BK140, HB⟩ := hrel
  cases gk with
  | zero => exact absurd HA.out (by simp [pinfoldref11_FindLease.l0])
  | succ k1 =>
   have H := HA.out
   clear HA
   simp only [pinfoldref11_FindLease.l0] at H
   by_cases c4 : x6_1 < (l0.length : Int)
   ·rw [if_pos c4] at H
    have c4b0 : decide (x6_1 < (l0.length : Int)) = true := decide_eq_true c4
    clear c4
    by_cases c5 : 0 ≤ x6_1
    rotate_left
    ·rw [if_neg c5] at H
     exact absurd H (by simp)
    rw [if_pos c5] at H
    have c5b0 : decide (0 ≤ x6_1) = true := decide_eq_true c5
    clear c5
    by_cases c6 : ((rd_T36 l0 x6_1).f0) = a1
    ·rw [if_pos c6] at H
     have c6b0 : (((rd_T36 l0 x6_1).f0) == a1) = true := beq_iff_eq.mpr c6
     have c6b1 : (((rd_T36 l0 x6_1).f0) != a1) = false := e1_ c6
     clear c6
     simp only [Option.some.injEq, Prod.mk.injEq] at H
     obtain ⟨rfl, rfl, rfl, rfl, rfl, rfl, rfl⟩ := H
     have p141 : 0 ≤ (x6_1 : Int) := of_decide_eq_true (by first | (with_reducible assumption) | assumption)
     have q141 : x6_1 < (l0.length : Int) := of_decide_eq_true (by first | (with_reducible assumption) | assumption)
     obtain ⟨ad141, e141, hx141_0, hx141_1, hx141_2, hx141_3, hx141_4, hx141_5⟩ := at_T36 HR0.out x6_1 p141 q141
     cases e141
     replace hx141_0 := (HB.out.cell (wb_ w _ hx141_0)).trans hx141_0
     replace hx141_1 := (HB.out.cell (wb_ w _ hx141_1)).trans hx141_1
     replace hx141_2 := (HB.out.cell (wb_ w _ hx141_2)).trans hx141_2
     replace hx141_3 := (HB.out.cell (wb_ w _ hx141_3)).trans hx141_3
     replace hx141_4 := (HB.out.cell (wb_ w _ hx141_4)).trans hx141_4
     replace hx141_5 := (HB.out.cell (wb_ w _ hx141_5)).trans hx141_5
     replace p141 := eq_true p141
     replace q141 := eq_true q141
     have p142 : 0 ≤ (x6_1 : Int) := of_decide_eq_true (by first | (with_reducible assumption) | assumption)
     have q142 : x6_1 < (l0.length : Int) := of_decide_eq_true (by first | (with_reducible assumption) | assumption)
     obtain ⟨ad142, e142, hx142_0, hx142_1, hx142_2, hx142_3, hx142_4, hx142_5⟩ := at_T36 HR0.out x6_1 p142 q142
     obtain rfl : ad141 = ad142 := (by injection e142)
     replace hx142_0 := (HB.out.cell (wb_ w _ hx142_0)).trans hx142_0
     replace hx142_1 := (HB.out.cell (wb_ w _ hx142_1)).trans hx142_1
     replace hx142_2 := (HB.out.cell (wb_ w _ hx142_2)).trans hx142_2
     replace hx142_3 := (HB.out.cell (wb_ w _ hx142_3)).trans hx142_3
     replace hx142_4 := (HB.out.cell (wb_ w _ hx142_4)).trans hx142_4
     replace hx142_5 := (HB.out.cell (wb_ w _ hx142_5)).trans hx142_5
     replace p142 := eq_true p142
     replace q142 := eq_true q142
     have hcz7_0 : wr.cell? ⟨gb140, 0, none⟩ = some (.int .i64 x141000_1) := (bc_ BK140.out 0).trans rfl; have hcz7_1 : wr.cell? ⟨gb140, 1, none⟩ = some (.int .i64 x141001_1) := (bc_ BK140.out 1).trans rfl; have hcz7_2 : wr.cell? ⟨gb140, 2, none⟩ = some (.string x141002_1) := (bc_ BK140.out 2).trans rfl; have hcz7_3 : wr.cell? ⟨gb140, 3, none⟩ = some (.int .i64 x141003_1) := (bc_ BK140.out 3).trans rfl; have hcz7_4 : wr.cell? ⟨gb140, 4, none⟩ = some (.string x141004_1) := (bc_ BK140.out 4).trans rfl; have hcz7_5 : wr.cell? ⟨gb140, 5, none⟩ = some (.bool x141005_1) := (bc_ BK140.out 5).trans rfl; have hfz7_0 := bf_ BK140.out 0; have hfz7_1 := bf_ BK140.out 1; have hfz7_2 := bf_ BK140.out 2; have hfz7_3 := bf_ BK140.out 3; have hfz7_4 := bf_ BK140.out 4; have hfz7_5 := bf_ BK140.out 5
     go_wp2
     refine bodyPost_ret (results_ct rfl _ _ gb140 36 #[.int .i64 ((rd_T36 l0 x6_1).f0), .int .i64 ((rd_T36 l0 x6_1).f1), .string ((rd_T36 l0 x6_1).f2), .int .i64 ((rd_T36 l0 x6_1).f3), .string ((rd_T36 l0 x6_1).f4), .bool ((rd_T36 l0 x6_1).f5)] (0, 0) _ rfl (by (with_reducible repeat (first | refine k2_ ?_ _ | refine k3_ ?_ | refine k1_ ?_ _)); refine blk_put (cs := #[.int .i64 ((rd_T36 l0 x6_1).f0), .int .i64 ((rd_T36 l0 x6_1).f1), .string ((rd_T36 l0 x6_1).f2), .int .i64 ((rd_T36 l0 x6_1).f3), .string ((rd_T36 l0 x6_1).f4), .bool x141005_1]) ?_ 5 _ rfl; (with_reducible repeat (first | refine k2_ ?_ _ | refine k3_ ?_ | refine k1_ ?_ _)); refine blk_put (cs := #[.int .i64 ((rd_T36 l0 x6_1).f0), .int .i64 ((rd_T36 l0 x6_1).f1), .string ((rd_T36 l0 x6_1).f2), .int .i64 ((rd_T36 l0 x6_1).f3), .string x141004_1, .bool x141005_1]) ?_ 4 _ rfl; (with_reducible repeat (first | refine k2_ ?_ _ | refine k3_ ?_ | refine k1_ ?_ _)); refine blk_put (cs := #[.int .i64 ((rd_T36 l0 x6_1).f0), .int .i64 ((rd_T36 l0 x6_1).f1), .string ((rd_T36 l0 x6_1).f2), .int .i64 x141003_1, .string x141004_1, .bool x141005_1]) ?_ 3 _ rfl; (with_reducible repeat (first | refine k2_ ?_ _ | refine k3_ ?_ | refine k1_ ?_ _)); refine blk_put (cs := #[.int .i64 ((rd_T36 l0 x6_1).f0), .int .i64 ((rd_T36 l0 x6_1).f1), .string x141002_1, .int .i64 x141003_1, .string x141004_1, .bool x141005_1]) ?_ 2 _ rfl; (with_reducible repeat (first | refine k2_ ?_ _ | refine k3_ ?_ | refine k1_ ?_ _)); refine blk_put (cs := #[.int .i64 ((rd_T36 l0 x6_1).f0), .int .i64 x141001_1, .string x141002_1, .int .i64 x141003_1, .string x141004_1, .bool x141005_1]) ?_ 1 _ rfl; (with_reducible repeat (first | refine k2_ ?_ _ | refine k3_ ?_ | refine k1_ ?_ _)); refine blk_put (cs := #[.int .i64 x141000_1, .int .i64 x141001_1, .string x141002_1, .int .i64 x141003_1, .string x141004_1, .bool x141005_1]) ?_ 0 _ rfl; (with_reducible repeat (first | refine k2_ ?_ _ | refine k3_ ?_ | refine k1_ ?_ _)); exact BK140.out) Tryd.underlying36 rfl (by kernel_rfl)) rfl ?_
     exact ⟨by first | rfl | (simp [errW_none, errW_some] <;> rfl) | (simp [*, errW_none, errW_some] <;> rfl), by repeat (with_reducible first | exact HB.out | apply p3_ | apply p1_ | apply p2_ | refine bs_ ?_ GE140.out)⟩
    rw [if_neg c6] at H
    have c6b0 : (((rd_T36 l0 x6_1).f0) == a1) = false := e2_ c6
    have c6b1 : (((rd_T36 l0 x6_1).f0) != a1) = true := bne_iff_ne.mpr c6
    have H' := am_ H
    clear H
    have p141 : 0 ≤ (x6_1 : Int) := of_decide_eq_true (by first | (with_reducible assumption) | assumption)
    have q141 : x6_1 < (l0.length : Int) := of_decide_eq_true (by first | (with_reducible assumption) | assumption)
    obtain ⟨ad141, e141, hx141_0, hx141_1, hx141_2, hx141_3, hx141_4, hx141_5⟩ := at_T36 HR0.out x6_1 p141 q141
    cases e141
    replace hx141_0 := (HB.out.cell (wb_ w _ hx141_0)).trans hx141_0
    replace hx141_1 := (HB.out.cell (wb_ w _ hx141_1)).trans hx141_1
    replace hx141_2 := (HB.out.cell (wb_ w _ hx141_2)).trans hx141_2
    replace hx141_3 := (HB.out.cell (wb_ w _ hx141_3)).trans hx141_3
    replace hx141_4 := (HB.out.cell (wb_ w _ hx141_4)).trans hx141_4
    replace hx141_5 := (HB.out.cell (wb_ w _ hx141_5)).trans hx141_5
    replace p141 := eq_true p141
    replace q141 := eq_true q141
    go_wp2
    go_roundg k1
    case measure => have := HK1.out; omega
    case rel => exact ⟨(wrap64 (x6_1 + 1)), (x141000_1), (x141001_1), (x141002_1), (x141003_1), (x141004_1), (x141005_1), (by first | rfl | (simp; done) | (simp [*]; done)), H', ⟨by have := HK1.out; omega⟩, ⟨by (with_reducible repeat (first | refine k2_ ?_ _ | refine k3_ ?_ | refine k1_ ?_ _)); exact BK140.out⟩, ⟨by repeat (with_reducible first | exact HB.out | apply p3_ | apply p1_ | apply p2_ | refine bs_ ?_ GE140.out)⟩⟩
   rw [if_neg c4] at H
   have c4b0 : decide (x6_1 < (l0.length : Int)) = false := decide_eq_false c4
   clear c4
   simp only [Option.some.injEq, Prod.mk.injEq] at H
   obtain ⟨rfl, rfl, rfl, rfl, rfl, rfl, rfl⟩ := H
   have hcz8_0 : wr.cell? ⟨gb140, 0, none⟩ = some (.int .i64 x141000_1) := (bc_ BK140.out 0).trans rfl; have hcz8_1 : wr.cell? ⟨gb140, 1, none⟩ = some (.int .i64 x141001_1) := (bc_ BK140.out 1).trans rfl; have hcz8_2 : wr.cell? ⟨gb140, 2, none⟩ = some (.string x141002_1) := (bc_ BK140.out 2).trans rfl; have hcz8_3 : wr.cell? ⟨gb140, 3, none⟩ = some (.int .i64 x141003_1) := (bc_ BK140.out 3).trans rfl; have hcz8_4 : wr.cell? ⟨gb140, 4, none⟩ = some (.string x141004_1) := (bc_ BK140.out 4).trans rfl; have hcz8_5 : wr.cell? ⟨gb140, 5, none⟩ = some (.bool x141005_1) := (bc_ BK140.out 5).trans rfl; have hfz8_0 := bf_ BK140.out 0; have hfz8_1 := bf_ BK140.out 1; have hfz8_2 := bf_ BK140.out 2; have hfz8_3 := bf_ BK140.out 3; have hfz8_4 := bf_ BK140.out 4; have hfz8_5 := bf_ BK140.out 5
   go_wp2
   refine bodyPost_ret (results_ct rfl _ _ gb140 36 #[.int .i64 0, .int .i64 0, .string (⟨#[]⟩ : ByteArray), .int .i64 0, .string (⟨#[]⟩ : ByteArray), .bool false] (0, 0) _ rfl (by (with_reducible repeat (first | refine k2_ ?_ _ | refine k3_ ?_ | refine k1_ ?_ _)); refine blk_put (cs := #[.int .i64 0, .int .i64 0, .string (⟨#[]⟩ : ByteArray), .int .i64 0, .string (⟨#[]⟩ : ByteArray), .bool x141005_1]) ?_ 5 _ rfl; (with_reducible repeat (first | refine k2_ ?_ _ | refine k3_ ?_ | refine k1_ ?_ _)); refine blk_put (cs := #[.int .i64 0, .int .i64 0, .string (⟨#[]⟩ : ByteArray), .int .i64 0, .string x141004_1, .bool x141005_1]) ?_ 4 _ rfl; (with_reducible repeat (first | refine k2_ ?_ _ | refine k3_ ?_ | refine k1_ ?_ _)); refine blk_put (cs := #[.int .i64 0, .int .i64 0, .string (⟨#[]⟩ : ByteArray), .int .i64 x141003_1, .string x141004_1, .bool x141005_1]) ?_ 3 _ rfl; (with_reducible repeat (first | refine k2_ ?_ _ | refine k3_ ?_ | refine k1_ ?_ _)); refine blk_put (cs := #[.int .i64 0, .int .i64 0, .string x141002_1, .int .i64 x141003_1, .string x141004_1, .bool x141005_1]) ?_ 2 _ rfl; (with_reducible repeat (first | refine k2_ ?_ _ | refine k3_ ?_ | refine k1_ ?_ _)); refine blk_put (cs := #[.int .i64 0, .int .i64 x141001_1, .string x141002_1, .int .i64 x141003_1, .string x141004_1, .bool x141005_1]) ?_ 1 _ rfl; (with_reducible repeat (first | refine k2_ ?_ _ | refine k3_ ?_ | refine k1_ ?_ _)); refine blk_put (cs := #[.int .i64 x141000_1, .int .i64 x141001_1, .string x141002_1, .int .i64 x141003_1, .string x141004_1, .bool x141005_1]) ?_ 0 _ rfl; (with_reducible repeat (first | refine k2_ ?_ _ | refine k3_ ?_ | refine k1_ ?_ _)); exact BK140.out) Tryd.underlying36 rfl (by kernel_rfl)) rfl ?_
   exact ⟨by first | rfl | (simp [errW_none, errW_some] <;> rfl) | (simp [*, errW_none, errW_some] <;> rfl), by repeat (with_reducible first | exact HB.out | apply p3_ | apply p1_ | apply p2_ | refine bs_ ?_ GE140.out)⟩

/-! ### pinfoldref11_FindLease_c: function 11 -/
theorem reffind_l0 (l : List S36) (h : Int) (hl : l.length ≤ 140737488351232) : ∀ (d k i : Nat), i + d = l.length → d + 1 ≤ k → pinfoldref11_FindLease.l0 k l h (i : Int) = some ((gotL (findL (l.drop i) h)).f0, (gotL (findL (l.drop i) h)).f1, (gotL (findL (l.drop i) h)).f2, (gotL (findL (l.drop i) h)).f3, (gotL (findL (l.drop i) h)).f4, (gotL (findL (l.drop i) h)).f5, (findL (l.drop i) h).isSome)
 | 0, k, i, hi, hk => by
  obtain ⟨k, rfl⟩ : ∃ j, k = j + 1 := ⟨k - 1, by omega⟩
  rw [List.drop_eq_nil_of_le (by omega), pinfoldref11_FindLease.l0, if_neg (by omega)]
  rfl
 | d + 1, k, i, hi, hk => by
  obtain ⟨k, rfl⟩ : ∃ j, k = j + 1 := ⟨k - 1, by omega⟩
  have hlt : i < l.length := by omega
  have ih := reffind_l0 l h hl d k (i + 1) (by omega) (by omega)
  rw [pinfoldref11_FindLease.l0, if_pos (by omega), if_pos (by omega), wrap_succ i l.length hlt hl, ih, rdLease_get l i hlt, List.drop_eq_getElem_cons hlt]
  by_cases q : l[i].f0 = h
  ·have e : findL (l[i] :: l.drop (i + 1)) h = some l[i] := by
    unfold findL
    rw [List.find?_cons, show (l[i].f0 == h) = true by simpa using q]
   rw [if_pos q, e]
   rfl
  ·have e : findL (l[i] :: l.drop (i + 1)) h = findL (l.drop (i + 1)) h := by
    unfold findL
    rw [List.find?_cons, show (l[i].f0 == h) = false by simpa using q]
   rw [if_neg q, e]
def pinfoldref11_FindLease_c.f (l0 : List S36) (a1 : Int) : Option (Int × Int × ByteArray × Int × ByteArray × Bool × Bool) := if l0.length ≤ 140737488351232 then some ((gotL (findL l0 a1)).f0, (gotL (findL l0 a1)).f1, (gotL (findL l0 a1)).f2, (gotL (findL l0 a1)).f3, (gotL (findL l0 a1)).f4, (gotL (findL l0 a1)).f5, (findL l0 a1).isSome) else none
theorem pinfoldref11_FindLease_c.calls (A0 : Option Addr) (c0 : Nat) (l0 : List S36) (a1 : Int) (r1 : Int) (r2 : Int) (r3 : ByteArray) (r4 : Int) (r5 : ByteArray) (r6 : Bool) (r7 : Bool) (w : World) (hr0 : Kd.C k36 w A0 l0.length l0) (hc0 : l0.length ≤ c0) (h : pinfoldref11_FindLease_c.f l0 a1 = some (r1, r2, r3, r4, r5, r6, r7)) :
  Calls Tryd.prog 11 #[.slice A0 l0.length c0, .int .i64 a1] w fun e w' => e = .returned (.tuple #[.agg #[.int .i64 r1, .int .i64 r2, .string r3, .int .i64 r4, .string r5, .bool r6], .bool r7]) ∧ Below w.heap.size w w' := by
 unfold pinfoldref11_FindLease_c.f at h
 by_cases hs : l0.length ≤ 140737488351232
 ·rw [if_pos hs] at h
  exact pinfoldref11_FindLease.calls (l0.length + 1) A0 c0 l0 a1 r1 r2 r3 r4 r5 r6 r7 w hr0 hc0 ((reffind_l0 l0 a1 hs l0.length (l0.length + 1) 0 (by omega) (by omega)).trans h)
 ·rw [if_neg hs] at h
  cases h

/-! ### pinfoldref1_parts: function 55 -/
def pinfoldref1_parts.l0 : Nat → ByteArray → List ByteArray → Int → Int → Option (List ByteArray)
 | 0, _, _, _, _ => none
 | k + 1, x0, x3, x4, x5 => if x5 ≤ (x0.size : Int) then (if x5 = (x0.size : Int) then (if 0 ≤ x4 then (if x4 ≤ x5 then (if x3.length < 8796093022208 then (pinfoldref1_parts.l0 k x0 (x3 ++ [x0.extract (x4 : Int).toNat (x5 : Int).toNat]) (wrap64 (x5 + 1)) (wrap64 (x5 + 1))) else (none)) else (none)) else (none)) else (if 0 ≤ x5 then (if x5 < (x0.size : Int) then (if (bt x0 x5) = 46 then (if 0 ≤ x4 then (if x4 ≤ x5 then (if x3.length < 8796093022208 then (pinfoldref1_parts.l0 k x0 (x3 ++ [x0.extract (x4 : Int).toNat (x5 : Int).toNat]) (wrap64 (x5 + 1)) (wrap64 (x5 + 1))) else (none)) else (none)) else (none)) else (pinfoldref1_parts.l0 k x0 x3 x4 (wrap64 (x5 + 1)))) else (none)) else (none))) else (some x3)
def pinfoldref1_parts.f (k : Nat) (a0 : ByteArray) : Option (List ByteArray) := pinfoldref1_parts.l0 k a0 ([] : List ByteArray) 0 0
theorem pinfoldref1_parts.mono_l : ∀ k, (∀ y0 y1 y2 y3, LeO (pinfoldref1_parts.l0 k y0 y1 y2 y3) (pinfoldref1_parts.l0 (k + 1) y0 y1 y2 y3))
 | 0 => fun _ _ _ _ r h => by simp [pinfoldref1_parts.l0] at h
 | k + 1 => by
  have ih0 := pinfoldref1_parts.mono_l k
  ·intro y0 y1 y2 y3
   unfold pinfoldref1_parts.l0
   repeat' first
   | (with_reducible exact ih0 _ _ _ _)
   | (with_reducible exact LeO.refl _)
   | (with_reducible exact LeO.none _)
   | (with_reducible refine LeO.ite ?_ ?_)
   | (with_reducible refine LeO.bind ?_ (fun _ => ?_))
   | exact ih0 _ _ _ _
   | exact LeO.none _
   | refine LeO.ite ?_ ?_
   | refine LeO.bind ?_ (fun _ => ?_)
theorem pinfoldref1_parts.mono : ∀ a0 k, LeO (pinfoldref1_parts.f k a0) (pinfoldref1_parts.f (k + 1) a0) := by
 intro a0 k
 have ih0 := pinfoldref1_parts.mono_l k
 unfold pinfoldref1_parts.f
 repeat' first
   | (with_reducible exact ih0 _ _ _ _)
   | (with_reducible exact LeO.refl _)
   | (with_reducible exact LeO.none _)
   | (with_reducible refine LeO.ite ?_ ?_)
   | (with_reducible refine LeO.bind ?_ (fun _ => ?_))
   | exact ih0 _ _ _ _
   | exact LeO.none _
   | refine LeO.ite ?_ ?_
   | refine LeO.bind ?_ (fun _ => ?_)
set_option maxHeartbeats 8000000 in
set_option maxRecDepth 100000 in
theorem pinfoldref1_parts.calls (k : Nat) (a0 : ByteArray) (r : List ByteArray) (w : World) (h : pinfoldref1_parts.f k a0 = some r) :
  Calls Tryd.prog 55 #[.string a0] w fun e w' => ∃ v0_ : Value, e = .returned (v0_) ∧ Kd.R Kd.string 9 w' w.heap.size (fun _ => True) v0_ r ∧ Below w.heap.size w w' := by
 have HB := am_ (Below.refl w.heap.size w)
 have H : (pinfoldref1_parts.l0 k a0 ([] : List ByteArray) 0 0) = some r := h
 clear h
 have H' := am_ H
 clear H
 go_enter Tryd.func55, Tryd.ntmps55
 go_wp2
 go_loopg [3, 4, 5] k (fun kq v3 v4 v5 w' => ∃ (x3_1 : List ByteArray) (x4_1 : Int) (x5_1 : Int), v4 = .int .i64 x4_1 ∧ v5 = .int .i64 x5_1 ∧ Aside0 (pinfoldref1_parts.l0 kq a0 x3_1 x4_1 x5_1 = some r) ∧ Aside0 (kq ≤ k) ∧ Aside0 (Kd.R Kd.string 9 w' w.heap.size (fun _ => True) v3 x3_1) ∧ Aside0 (Below w.heap.size w w'))
 case atStart => exact ⟨(([] : List ByteArray)), (0), (0), (by first | rfl | (simp; done) | (simp [*]; done)), (by first | rfl | (simp; done) | (simp [*]; done)), H', ⟨Nat.le_refl _⟩, ⟨by first | exact Kd.R_nil _ _ _ _ _ | exact Kd.N_nil _ _ _ _ _ | exact Kd.V_nil _ _ _ _ _ | exact Kd.Q_nil _ _ _ _ _ | exact Kd.S_nil _ _ _ _ _⟩, ⟨by repeat (with_reducible first | exact HB.out | apply p3_ | apply p1_ | apply p2_)⟩⟩
 case round =>
  clear H'
  obtain ⟨x3_1, x4_1, x5_1, rfl, rfl, HA, HK1, HO_3, HB⟩ := hrel
  cases gk with
  | zero => exact absurd HA.out (by simp [pinfoldref1_parts.l0])
  | succ k1 =>
   have H := HA.out
   clear HA
   simp only [pinfoldref1_parts.l0] at H
   by_cases c2 : x5_1 ≤ (a0.size : Int)
   ·rw [if_pos c2] at H
    have c2b0 : decide (x5_1 ≤ (a0.size : Int)) = true := decide_eq_true c2
    clear c2
    by_cases c3 : x5_1 = (a0.size : Int)
    ·rw [if_pos c3] at H
     have c3b0 : (x5_1 == (a0.size : Int)) = true := beq_iff_eq.mpr c3
     have c3b1 : (x5_1 != (a0.size : Int)) = false := e1_ c3
     clear c3
     by_cases c4 : 0 ≤ x4_1
     rotate_left
     ·rw [if_neg c4] at H
      exact absurd H (by simp)
     rw [if_pos c4] at H
     have c4b0 := eq_true c4
     have c4b1 : decide (0 ≤ x4_1) = true := decide_eq_true c4
     clear c4
     by_cases c5 : x4_1 ≤ x5_1
     rotate_left
     ·rw [if_neg c5] at H
      exact absurd H (by simp)
     rw [if_pos c5] at H
     have c5b0 := eq_true c5
     have c5b1 : decide (x4_1 ≤ x5_1) = true := decide_eq_true c5
     clear c5
     have c6b0 := eq_true (of_decide_eq_true (by first | (with_reducible assumption) | assumption) : x5_1 ≤ (a0.size : Int))
     by_cases c7 : x3_1.length < 8796093022208
     rotate_left
     ·rw [if_neg c7] at H
      exact absurd H (by simp)
     rw [if_pos c7] at H
     have LMc7 := am_ c7
     clear c7
     obtain ⟨y143, hy143⟩ : ∃ y_ : List ByteArray, y_ = (x3_1 ++ [a0.extract (x4_1 : Int).toNat (x5_1 : Int).toNat]) := ⟨_, rfl⟩
     replace H : (pinfoldref1_parts.l0 k1 a0 y143 (wrap64 (x5_1 + 1)) (wrap64 (x5_1 + 1))) = some r := by first | (rw [hy143]; with_reducible exact H) | (have H2_ := (Option.bind_some _ _).symm.trans H; rw [hy143]; with_reducible exact H2_) | (have H2_ := (Option.bind_some _ _).symm.trans H; with_reducible exact H2_) | with_reducible exact H | (rw [hy143]; exact H) | exact H
     have Ny143 := am_ hy143
     clear hy143
     have H' := am_ H
     clear H
     go_wp2_with (first | ((with_reducible refine gate_builtin (b := .append) (xs := #[.tmp 22, .tmp 27]) rfl ?_); at_builtin; refine Kd.R_append Kd.string (w0 := w) w.heap.size rfl (.tmp 22) (.tmp 27) 47 9 (.string ⟨#[]⟩) 16 rfl Tryd.underlying47 info9 rfl (by decide) (by omega) u3 x3_1 (a0.extract (x4_1 : Int).toNat (x5_1 : Int).toNat) [.string (a0.extract (x4_1 : Int).toNat (x5_1 : Int).toNat)] (fun _ => True) (fun _ => False) rfl rfl ?aP (fun _ hk => hk.elim) ?aF ?aO ?aB ?aS ?aL ?_; (case aP => exact rfl); (case aB => exact (by repeat (with_reducible first | exact HB.out | apply p3_ | apply p1_ | apply p2_))); (case aF => exact (fun _ _ => trivial)); (case aO => exact (by (with_reducible repeat (first | apply r1_ | apply r2_ | apply r3_)); exact HO_3.out)); (case aS => exact (bz_ (by repeat (with_reducible first | exact HB.out | apply p3_ | apply p1_ | apply p2_)))); (case aL => have := LMc7.out; omega); intro v144 w8 ho hb hg hat; rw [← Ny143.out] at ho; have n0_ := am_ (hb); have n1_ := am_ (ho); clear HB; clear HO_3; have HB := n0_; have HO145 := n1_; clear n0_ n1_; clear ho hb hg hat))
     go_roundg k1
     case measure => have := HK1.out; omega
     case rel => exact ⟨(y143), (wrap64 (x5_1 + 1)), (wrap64 (x5_1 + 1)), (by first | rfl | (simp; done) | (simp [*]; done)), (by first | rfl | (simp; done) | (simp [*]; done)), H', ⟨by have := HK1.out; omega⟩, ⟨by (with_reducible repeat (first | apply r1_ | apply r2_ | apply r3_)); exact HO145.out⟩, ⟨by repeat (with_reducible first | exact HB.out | apply p3_ | apply p1_ | apply p2_)⟩⟩
    rw [if_neg c3] at H
    have c3b0 : (x5_1 == (a0.size : Int)) = false := e2_ c3
    have c3b1 : (x5_1 != (a0.size : Int)) = true := bne_iff_ne.mpr c3
    by_cases c9 : 0 ≤ x5_1
    rotate_left
    ·rw [if_neg c9] at H
     exact absurd H (by simp)
    rw [if_pos c9] at H
    have c9b0 : decide (0 ≤ x5_1) = true := decide_eq_true c9
    clear c9
    by_cases c10 : x5_1 < (a0.size : Int)
    rotate_left
    ·rw [if_neg c10] at H
     exact absurd H (by simp)
    rw [if_pos c10] at H
    have c10b0 : decide (x5_1 < (a0.size : Int)) = true := decide_eq_true c10
    clear c10
    by_cases c12 : (bt a0 x5_1) = 46
    ·rw [if_pos c12] at H
     have c12b0 : ((bt a0 x5_1) == 46) = true := beq_iff_eq.mpr c12
     have c12b1 : ((bt a0 x5_1) != 46) = false := e1_ c12
     clear c12
     by_cases c13 : 0 ≤ x4_1
     rotate_left
     ·rw [if_neg c13] at H
      exact absurd H (by simp)
     rw [if_pos c13] at H
     have c13b0 := eq_true c13
     have c13b1 : decide (0 ≤ x4_1) = true := decide_eq_true c13
     clear c13
     by_cases c14 : x4_1 ≤ x5_1
     rotate_left
     ·rw [if_neg c14] at H
      exact absurd H (by simp)
     rw [if_pos c14] at H
     have c14b0 := eq_true c14
     have c14b1 : decide (x4_1 ≤ x5_1) = true := decide_eq_true c14
     clear c14
     have c15b0 := eq_true (of_decide_eq_true (by first | (with_reducible assumption) | assumption) : x5_1 ≤ (a0.size : Int))
     by_cases c16 : x3_1.length < 8796093022208
     rotate_left
     ·rw [if_neg c16] at H
      exact absurd H (by simp)
     rw [if_pos c16] at H
     have LMc16 := am_ c16
     clear c16
     obtain ⟨y146, hy146⟩ : ∃ y_ : List ByteArray, y_ = (x3_1 ++ [a0.extract (x4_1 : Int).toNat (x5_1 : Int).toNat]) := ⟨_, rfl⟩
     replace H : (pinfoldref1_parts.l0 k1 a0 y146 (wrap64 (x5_1 + 1)) (wrap64 (x5_1 + 1))) = some r := by first | (rw [hy146]; with_reducible exact H) | (have H2_ := (Option.bind_some _ _).symm.trans H; rw [hy146]; with_reducible exact H2_) | (have H2_ := (Option.bind_some _ _).symm.trans H; with_reducible exact H2_) | with_reducible exact H | (rw [hy146]; exact H) | exact H
     have Ny146 := am_ hy146
     clear hy146
     have H' := am_ H
     clear H
     have p11 : 0 ≤ (x5_1 : Int) := of_decide_eq_true (by first | (with_reducible assumption) | assumption)
     have q11 : x5_1 < (a0.size : Int) := of_decide_eq_true (by first | (with_reducible assumption) | assumption)
     have hx11 := bt_at a0 x5_1
     replace p11 := eq_true p11
     replace q11 := eq_true q11
     go_wp2_with (first | ((with_reducible refine gate_builtin (b := .append) (xs := #[.tmp 22, .tmp 27]) rfl ?_); at_builtin; refine Kd.R_append Kd.string (w0 := w) w.heap.size rfl (.tmp 22) (.tmp 27) 47 9 (.string ⟨#[]⟩) 16 rfl Tryd.underlying47 info9 rfl (by decide) (by omega) u3 x3_1 (a0.extract (x4_1 : Int).toNat (x5_1 : Int).toNat) [.string (a0.extract (x4_1 : Int).toNat (x5_1 : Int).toNat)] (fun _ => True) (fun _ => False) rfl rfl ?aP (fun _ hk => hk.elim) ?aF ?aO ?aB ?aS ?aL ?_; (case aP => exact rfl); (case aB => exact (by repeat (with_reducible first | exact HB.out | apply p3_ | apply p1_ | apply p2_))); (case aF => exact (fun _ _ => trivial)); (case aO => exact (by (with_reducible repeat (first | apply r1_ | apply r2_ | apply r3_)); exact HO_3.out)); (case aS => exact (bz_ (by repeat (with_reducible first | exact HB.out | apply p3_ | apply p1_ | apply p2_)))); (case aL => have := LMc16.out; omega); intro v147 w17 ho hb hg hat; rw [← Ny146.out] at ho; have n0_ := am_ (hb); have n1_ := am_ (ho); clear HB; clear HO_3; have HB := n0_; have HO148 := n1_; clear n0_ n1_; clear ho hb hg hat))
     go_roundg k1
     case measure => have := HK1.out; omega
     case rel => exact ⟨(y146), (wrap64 (x5_1 + 1)), (wrap64 (x5_1 + 1)), (by first | rfl | (simp; done) | (simp [*]; done)), (by first | rfl | (simp; done) | (simp [*]; done)), H', ⟨by have := HK1.out; omega⟩, ⟨by (with_reducible repeat (first | apply r1_ | apply r2_ | apply r3_)); exact HO148.out⟩, ⟨by repeat (with_reducible first | exact HB.out | apply p3_ | apply p1_ | apply p2_)⟩⟩
    rw [if_neg c12] at H
    have c12b0 : ((bt a0 x5_1) == 46) = false := e2_ c12
    have c12b1 : ((bt a0 x5_1) != 46) = true := bne_iff_ne.mpr c12
    have H' := am_ H
    clear H
    have p11 : 0 ≤ (x5_1 : Int) := of_decide_eq_true (by first | (with_reducible assumption) | assumption)
    have q11 : x5_1 < (a0.size : Int) := of_decide_eq_true (by first | (with_reducible assumption) | assumption)
    have hx11 := bt_at a0 x5_1
    replace p11 := eq_true p11
    replace q11 := eq_true q11
    go_wp2
    go_roundg k1
    case measure => have := HK1.out; omega
    case rel => exact ⟨(x3_1), (x4_1), (wrap64 (x5_1 + 1)), (by first | rfl | (simp; done) | (simp [*]; done)), (by first | rfl | (simp; done) | (simp [*]; done)), H', ⟨by have := HK1.out; omega⟩, ⟨by (with_reducible repeat (first | apply r1_ | apply r2_ | apply r3_)); exact HO_3.out⟩, ⟨by repeat (with_reducible first | exact HB.out | apply p3_ | apply p1_ | apply p2_)⟩⟩
   rw [if_neg c2] at H
   have c2b0 : decide (x5_1 ≤ (a0.size : Int)) = false := decide_eq_false c2
   clear c2
   obtain rfl := e5_ H
   go_wp2
   go_ret
   exact ⟨_, by first | rfl | (simp [errW_none, errW_some] <;> rfl) | (simp [*, errW_none, errW_some] <;> rfl), by (with_reducible repeat (first | apply r1_ | apply r2_ | apply r3_)); exact HO_3.out, by repeat (with_reducible first | exact HB.out | apply p3_ | apply p1_ | apply p2_)⟩

/-! ### pinfoldref1_labelMay: function 56 -/
def pinfoldref1_labelMay.l0 : Nat → ByteArray → Int → Option (Bool)
 | 0, _, _ => none
 | k + 1, x0, x3 => if x3 < (x0.size : Int) then (if 0 ≤ x3 then (if (bt x0 x3) < 97 then (if (bt x0 x3) < 48 then (if (bt x0 x3) = 45 then (pinfoldref1_labelMay.l0 k x0 (wrap64 (x3 + 1))) else (some false)) else (if (bt x0 x3) > 57 then (if (bt x0 x3) = 45 then (pinfoldref1_labelMay.l0 k x0 (wrap64 (x3 + 1))) else (some false)) else (pinfoldref1_labelMay.l0 k x0 (wrap64 (x3 + 1))))) else (if (bt x0 x3) > 122 then (if (bt x0 x3) < 48 then (if (bt x0 x3) = 45 then (pinfoldref1_labelMay.l0 k x0 (wrap64 (x3 + 1))) else (some false)) else (if (bt x0 x3) > 57 then (if (bt x0 x3) = 45 then (pinfoldref1_labelMay.l0 k x0 (wrap64 (x3 + 1))) else (some false)) else (pinfoldref1_labelMay.l0 k x0 (wrap64 (x3 + 1))))) else (pinfoldref1_labelMay.l0 k x0 (wrap64 (x3 + 1))))) else (none)) else (if (x0.size : Int) ≥ 1 then (some (decide ((x0.size : Int) ≤ 8))) else (some false))
def pinfoldref1_labelMay.f (k : Nat) (a0 : ByteArray) : Option (Bool) := pinfoldref1_labelMay.l0 k a0 0
theorem pinfoldref1_labelMay.mono_l : ∀ k, (∀ y0 y1, LeO (pinfoldref1_labelMay.l0 k y0 y1) (pinfoldref1_labelMay.l0 (k + 1) y0 y1))
 | 0 => fun _ _ r h => by simp [pinfoldref1_labelMay.l0] at h
 | k + 1 => by
  have ih0 := pinfoldref1_labelMay.mono_l k
  ·intro y0 y1
   unfold pinfoldref1_labelMay.l0
   repeat' first
   | (with_reducible exact ih0 _ _)
   | (with_reducible exact LeO.refl _)
   | (with_reducible exact LeO.none _)
   | (with_reducible refine LeO.ite ?_ ?_)
   | (with_reducible refine LeO.bind ?_ (fun _ => ?_))
   | exact ih0 _ _
   | exact LeO.none _
   | refine LeO.ite ?_ ?_
   | refine LeO.bind ?_ (fun _ => ?_)
theorem pinfoldref1_labelMay.mono : ∀ a0 k, LeO (pinfoldref1_labelMay.f k a0) (pinfoldref1_labelMay.f (k + 1) a0) := by
 intro a0 k
 have ih0 := pinfoldref1_labelMay.mono_l k
 unfold pinfoldref1_labelMay.f
 repeat' first
   | (with_reducible exact ih0 _ _)
   | (with_reducible exact LeO.refl _)
   | (with_reducible exact LeO.none _)
   | (with_reducible refine LeO.ite ?_ ?_)
   | (with_reducible refine LeO.bind ?_ (fun _ => ?_))
   | exact ih0 _ _
   | exact LeO.none _
   | refine LeO.ite ?_ ?_
   | refine LeO.bind ?_ (fun _ => ?_)
set_option maxHeartbeats 8000000 in
set_option maxRecDepth 100000 in
theorem pinfoldref1_labelMay.calls (k : Nat) (a0 : ByteArray) (r : Bool) (w : World) (h : pinfoldref1_labelMay.f k a0 = some r) :
  Calls Tryd.prog 56 #[.string a0] w fun e w' => e = .returned (.bool r) ∧ Drawn0 w w' := by
 have H : (pinfoldref1_labelMay.l0 k a0 0) = some r := h
 clear h
 have H' := am_ H
 clear H
 go_enter Tryd.func56, Tryd.ntmps56
 go_wp2
 go_loopg [3] k (fun kq v3 w' => ∃ (x3_1 : Int), v3 = .int .i64 x3_1 ∧ Aside0 (pinfoldref1_labelMay.l0 kq a0 x3_1 = some r) ∧ Aside0 (kq ≤ k) ∧ Drawn0 w w')
 case atStart => exact ⟨(0), (by first | rfl | (simp; done) | (simp [*]; done)), H', ⟨Nat.le_refl _⟩, by repeat (first | exact Drawn0.refl _ | apply Drawn0.step)⟩
 case round =>
  clear H'
  obtain ⟨x3_1, rfl, HA, HK1, ⟨m1, rfl⟩⟩ := hrel
  cases gk with
  | zero => exact absurd HA.out (by simp [pinfoldref1_labelMay.l0])
  | succ k1 =>
   have H := HA.out
   clear HA
   simp only [pinfoldref1_labelMay.l0] at H
   by_cases c2 : x3_1 < (a0.size : Int)
   ·rw [if_pos c2] at H
    have c2b0 : decide (x3_1 < (a0.size : Int)) = true := decide_eq_true c2
    clear c2
    by_cases c3 : 0 ≤ x3_1
    rotate_left
    ·rw [if_neg c3] at H
     exact absurd H (by simp)
    rw [if_pos c3] at H
    have c3b0 : decide (0 ≤ x3_1) = true := decide_eq_true c3
    clear c3
    by_cases c5 : (bt a0 x3_1) < 97
    ·rw [if_pos c5] at H
     have c5b0 : decide ((bt a0 x3_1) < 97) = true := decide_eq_true c5
     clear c5
     by_cases c6 : (bt a0 x3_1) < 48
     ·rw [if_pos c6] at H
      have c6b0 : decide ((bt a0 x3_1) < 48) = true := decide_eq_true c6
      clear c6
      by_cases c7 : (bt a0 x3_1) = 45
      ·rw [if_pos c7] at H
       have c7b0 : ((bt a0 x3_1) == 45) = true := beq_iff_eq.mpr c7
       have c7b1 : ((bt a0 x3_1) != 45) = false := e1_ c7
       clear c7
       have H' := am_ H
       clear H
       have p4 : 0 ≤ (x3_1 : Int) := of_decide_eq_true (by first | (with_reducible assumption) | assumption)
       have q4 : x3_1 < (a0.size : Int) := of_decide_eq_true (by first | (with_reducible assumption) | assumption)
       have hx4 := bt_at a0 x3_1
       replace p4 := eq_true p4
       replace q4 := eq_true q4
       go_wp2
       go_roundg k1
       case measure => have := HK1.out; omega
       case rel => exact ⟨(wrap64 (x3_1 + 1)), (by first | rfl | (simp; done) | (simp [*]; done)), H', ⟨by have := HK1.out; omega⟩, by repeat (first | exact Drawn0.refl _ | apply Drawn0.step)⟩
      rw [if_neg c7] at H
      have c7b0 : ((bt a0 x3_1) == 45) = false := e2_ c7
      have c7b1 : ((bt a0 x3_1) != 45) = true := bne_iff_ne.mpr c7
      obtain rfl := e5_ H
      have p4 : 0 ≤ (x3_1 : Int) := of_decide_eq_true (by first | (with_reducible assumption) | assumption)
      have q4 : x3_1 < (a0.size : Int) := of_decide_eq_true (by first | (with_reducible assumption) | assumption)
      have hx4 := bt_at a0 x3_1
      replace p4 := eq_true p4
      replace q4 := eq_true q4
      go_wp2
      go_ret
      exact ⟨by first | rfl | (simp; done) | (simp [*]; done), by repeat (first | exact Drawn0.refl _ | apply Drawn0.step)⟩
     rw [if_neg c6] at H
     have c6b0 : decide ((bt a0 x3_1) < 48) = false := decide_eq_false c6
     clear c6
     by_cases c8 : (bt a0 x3_1) > 57
     ·rw [if_pos c8] at H
      have c8b0 : decide (57 < (bt a0 x3_1)) = true := decide_eq_true c8
      clear c8
      by_cases c9 : (bt a0 x3_1) = 45
      ·rw [if_pos c9] at H
       have c9b0 : ((bt a0 x3_1) == 45) = true := beq_iff_eq.mpr c9
       have c9b1 : ((bt a0 x3_1) != 45) = false := e1_ c9
       clear c9
       have H' := am_ H
       clear H
       have p4 : 0 ≤ (x3_1 : Int) := of_decide_eq_true (by first | (with_reducible assumption) | assumption)
       have q4 : x3_1 < (a0.size : Int) := of_decide_eq_true (by first | (with_reducible assumption) | assumption)
       have hx4 := bt_at a0 x3_1
       replace p4 := eq_true p4
       replace q4 := eq_true q4
       go_wp2
       go_roundg k1
       case measure => have := HK1.out; omega
       case rel => exact ⟨(wrap64 (x3_1 + 1)), (by first | rfl | (simp; done) | (simp [*]; done)), H', ⟨by have := HK1.out; omega⟩, by repeat (first | exact Drawn0.refl _ | apply Drawn0.step)⟩
      rw [if_neg c9] at H
      have c9b0 : ((bt a0 x3_1) == 45) = false := e2_ c9
      have c9b1 : ((bt a0 x3_1) != 45) = true := bne_iff_ne.mpr c9
      obtain rfl := e5_ H
      have p4 : 0 ≤ (x3_1 : Int) := of_decide_eq_true (by first | (with_reducible assumption) | assumption)
      have q4 : x3_1 < (a0.size : Int) := of_decide_eq_true (by first | (with_reducible assumption) | assumption)
      have hx4 := bt_at a0 x3_1
      replace p4 := eq_true p4
      replace q4 := eq_true q4
      go_wp2
      go_ret
      exact ⟨by first | rfl | (simp; done) | (simp [*]; done), by repeat (first | exact Drawn0.refl _ | apply Drawn0.step)⟩
     rw [if_neg c8] at H
     have c8b0 : decide (57 < (bt a0 x3_1)) = false := decide_eq_false c8
     clear c8
     have H' := am_ H
     clear H
     have p4 : 0 ≤ (x3_1 : Int) := of_decide_eq_true (by first | (with_reducible assumption) | assumption)
     have q4 : x3_1 < (a0.size : Int) := of_decide_eq_true (by first | (with_reducible assumption) | assumption)
     have hx4 := bt_at a0 x3_1
     replace p4 := eq_true p4
     replace q4 := eq_true q4
     go_wp2
     go_roundg k1
     case measure => have := HK1.out; omega
     case rel => exact ⟨(wrap64 (x3_1 + 1)), (by first | rfl | (simp; done) | (simp [*]; done)), H', ⟨by have := HK1.out; omega⟩, by repeat (first | exact Drawn0.refl _ | apply Drawn0.step)⟩
    rw [if_neg c5] at H
    have c5b0 : decide ((bt a0 x3_1) < 97) = false := decide_eq_false c5
    clear c5
    by_cases c10 : (bt a0 x3_1) > 122
    ·rw [if_pos c10] at H
     have c10b0 : decide (122 < (bt a0 x3_1)) = true := decide_eq_true c10
     clear c10
     by_cases c11 : (bt a0 x3_1) < 48
     ·rw [if_pos c11] at H
      have c11b0 : decide ((bt a0 x3_1) < 48) = true := decide_eq_true c11
      clear c11
      by_cases c12 : (bt a0 x3_1) = 45
      ·rw [if_pos c12] at H
       have c12b0 : ((bt a0 x3_1) == 45) = true := beq_iff_eq.mpr c12
       have c12b1 : ((bt a0 x3_1) != 45) = false := e1_ c12
       clear c12
       have H' := am_ H
       clear H
       have p4 : 0 ≤ (x3_1 : Int) := of_decide_eq_true (by first | (with_reducible assumption) | assumption)
       have q4 : x3_1 < (a0.size : Int) := of_decide_eq_true (by first | (with_reducible assumption) | assumption)
       have hx4 := bt_at a0 x3_1
       replace p4 := eq_true p4
       replace q4 := eq_true q4
       go_wp2
       go_roundg k1
       case measure => have := HK1.out; omega
       case rel => exact ⟨(wrap64 (x3_1 + 1)), (by first | rfl | (simp; done) | (simp [*]; done)), H', ⟨by have := HK1.out; omega⟩, by repeat (first | exact Drawn0.refl _ | apply Drawn0.step)⟩
      rw [if_neg c12] at H
      have c12b0 : ((bt a0 x3_1) == 45) = false := e2_ c12
      have c12b1 : ((bt a0 x3_1) != 45) = true := bne_iff_ne.mpr c12
      obtain rfl := e5_ H
      have p4 : 0 ≤ (x3_1 : Int) := of_decide_eq_true (by first | (with_reducible assumption) | assumption)
      have q4 : x3_1 < (a0.size : Int) := of_decide_eq_true (by first | (with_reducible assumption) | assumption)
      have hx4 := bt_at a0 x3_1
      replace p4 := eq_true p4
      replace q4 := eq_true q4
      go_wp2
      go_ret
      exact ⟨by first | rfl | (simp; done) | (simp [*]; done), by repeat (first | exact Drawn0.refl _ | apply Drawn0.step)⟩
     rw [if_neg c11] at H
     have c11b0 : decide ((bt a0 x3_1) < 48) = false := decide_eq_false c11
     clear c11
     by_cases c13 : (bt a0 x3_1) > 57
     ·rw [if_pos c13] at H
      have c13b0 : decide (57 < (bt a0 x3_1)) = true := decide_eq_true c13
      clear c13
      by_cases c14 : (bt a0 x3_1) = 45
      ·rw [if_pos c14] at H
       have c14b0 : ((bt a0 x3_1) == 45) = true := beq_iff_eq.mpr c14
       have c14b1 : ((bt a0 x3_1) != 45) = false := e1_ c14
       clear c14
       have H' := am_ H
       clear H
       have p4 : 0 ≤ (x3_1 : Int) := of_decide_eq_true (by first | (with_reducible assumption) | assumption)
       have q4 : x3_1 < (a0.size : Int) := of_decide_eq_true (by first | (with_reducible assumption) | assumption)
       have hx4 := bt_at a0 x3_1
       replace p4 := eq_true p4
       replace q4 := eq_true q4
       go_wp2
       go_roundg k1
       case measure => have := HK1.out; omega
       case rel => exact ⟨(wrap64 (x3_1 + 1)), (by first | rfl | (simp; done) | (simp [*]; done)), H', ⟨by have := HK1.out; omega⟩, by repeat (first | exact Drawn0.refl _ | apply Drawn0.step)⟩
      rw [if_neg c14] at H
      have c14b0 : ((bt a0 x3_1) == 45) = false := e2_ c14
      have c14b1 : ((bt a0 x3_1) != 45) = true := bne_iff_ne.mpr c14
      obtain rfl := e5_ H
      have p4 : 0 ≤ (x3_1 : Int) := of_decide_eq_true (by first | (with_reducible assumption) | assumption)
      have q4 : x3_1 < (a0.size : Int) := of_decide_eq_true (by first | (with_reducible assumption) | assumption)
      have hx4 := bt_at a0 x3_1
      replace p4 := eq_true p4
      replace q4 := eq_true q4
      go_wp2
      go_ret
      exact ⟨by first | rfl | (simp; done) | (simp [*]; done), by repeat (first | exact Drawn0.refl _ | apply Drawn0.step)⟩
     rw [if_neg c13] at H
     have c13b0 : decide (57 < (bt a0 x3_1)) = false := decide_eq_false c13
     clear c13
     have H' := am_ H
     clear H
     have p4 : 0 ≤ (x3_1 : Int) := of_decide_eq_true (by first | (with_reducible assumption) | assumption)
     have q4 : x3_1 < (a0.size : Int) := of_decide_eq_true (by first | (with_reducible assumption) | assumption)
     have hx4 := bt_at a0 x3_1
     replace p4 := eq_true p4
     replace q4 := eq_true q4
     go_wp2
     go_roundg k1
     case measure => have := HK1.out; omega
     case rel => exact ⟨(wrap64 (x3_1 + 1)), (by first | rfl | (simp; done) | (simp [*]; done)), H', ⟨by have := HK1.out; omega⟩, by repeat (first | exact Drawn0.refl _ | apply Drawn0.step)⟩
    rw [if_neg c10] at H
    have c10b0 : decide (122 < (bt a0 x3_1)) = false := decide_eq_false c10
    clear c10
    have H' := am_ H
    clear H
    have p4 : 0 ≤ (x3_1 : Int) := of_decide_eq_true (by first | (with_reducible assumption) | assumption)
    have q4 : x3_1 < (a0.size : Int) := of_decide_eq_true (by first | (with_reducible assumption) | assumption)
    have hx4 := bt_at a0 x3_1
    replace p4 := eq_true p4
    replace q4 := eq_true q4
    go_wp2
    go_roundg k1
    case measure => have := HK1.out; omega
    case rel => exact ⟨(wrap64 (x3_1 + 1)), (by first | rfl | (simp; done) | (simp [*]; done)), H', ⟨by have := HK1.out; omega⟩, by repeat (first | exact Drawn0.refl _ | apply Drawn0.step)⟩
   rw [if_neg c2] at H
   have c2b0 : decide (x3_1 < (a0.size : Int)) = false := decide_eq_false c2
   clear c2
   by_cases c15 : (a0.size : Int) ≥ 1
   ·rw [if_pos c15] at H
    have c15b0 : decide (1 ≤ (a0.size : Int)) = true := decide_eq_true c15
    have c15b1 : decide (1 ≤ a0.size) = true := decide_eq_true (by omega)
    clear c15
    obtain rfl := e5_ H
    go_wp2
    go_ret
    exact ⟨by first | rfl | (simp; done) | (simp [*]; done), by repeat (first | exact Drawn0.refl _ | apply Drawn0.step)⟩
   rw [if_neg c15] at H
   have c15b0 : decide (1 ≤ (a0.size : Int)) = false := decide_eq_false c15
   have c15b1 : decide (1 ≤ a0.size) = false := decide_eq_false (by omega)
   clear c15
   obtain rfl := e5_ H
   go_wp2
   go_ret
   exact ⟨by first | rfl | (simp; done) | (simp [*]; done), by repeat (first | exact Drawn0.refl _ | apply Drawn0.step)⟩

end Go.Proofs.YtibalpbkmgegnaaDoor.PN
