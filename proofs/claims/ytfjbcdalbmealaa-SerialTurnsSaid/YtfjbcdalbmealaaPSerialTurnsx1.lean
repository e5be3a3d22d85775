-- Made by wip/pr.py out of the translation (a turned copy of the kit's print; contracts by hand where said).
import Derived.Test.YtfjbcdalbmealaaPSerialTurnsx0
namespace Go.Proofs.Ytfjbcdalbmealaa.PSerialTurns
open Go.RowKit Go.Proofs.YtfjbcdalbmealaaW.PrintWords Go.Proofs.YtfjbcdalbmealaaW.PrintLast Go.Proofs.YtfjbcdalbmealaaW.PrintMore
attribute [local go_sem] max2_int min2_int max_two min_two max_three min_three max_four min_four   -- for this text's walks alone
set_option linter.unusedVariables false
set_option linter.unusedSimpArgs false

/-! ### serial_May: function 34 -/
def serial_May.f (a0 : Int) : Option (Bool) := some (a0 == ((a0) % 4294967296))
set_option maxHeartbeats 8000000 in
set_option maxRecDepth 100000 in
theorem serial_May.calls (a0 : Int) (r : Bool) (w : World) (h : serial_May.f a0 = some r) :
    Calls Try.prog 34 #[.int .i64 a0] w fun e w' => e = .returned (.bool r) ∧ Drawn0 w w' := by
  have H : (some (a0 == ((a0) % 4294967296))) = some r := h
  clear h
  obtain rfl := Option.some.inj H
  go_enter Try.func34, Try.ntmps34
  go_wp2
  go_ret
  exact ⟨by first | rfl | (simp; done) | (simp [*]; done), by repeat (first | exact Drawn0.refl _ | apply Drawn0.step)⟩

/-! ### serial_Order: function 23 -/
def serial_Order.j0 : Nat → Int → Int → Bool → Option (Int × Int)
  | 0, _, _, _ => none
  | k + 1, x0, x1, x14 => if x14 = true then (some (0, 1000)) else (if (wrap32 (((x1) - (x0)) % 4294967296)) = 0 then (some (0, 0)) else (if (wrap32 (((x1) - (x0)) % 4294967296)) > 0 then (some (1, 0)) else (if (wrap32 (((x1) - (x0)) % 4294967296)) = (wrap32 (-(wrap32 (((x1) - (x0)) % 4294967296)))) then (some (3, 0)) else (some (2, 0)))))
def serial_Order.f (k : Nat) (a0 : Int) (a1 : Int) : Option (Int × Int) := (serial_May.f a0).bind fun t101 => (if t101 = true then ((serial_May.f a1).bind fun t102 => (serial_Order.j0 k a0 a1 (!t102))) else (serial_Order.j0 k a0 a1 true))
theorem serial_Order.mono_l : ∀ k, (∀ y0 y1 y2, LeO (serial_Order.j0 k y0 y1 y2) (serial_Order.j0 (k + 1) y0 y1 y2))
  | 0 => fun _ _ _ r h => by simp [serial_Order.j0] at h
  | k + 1 => by
    have ih0 := serial_Order.mono_l k
    · intro y0 y1 y2
      unfold serial_Order.j0
      repeat' first
      | (with_reducible exact ih0 _ _ _)
      | (with_reducible exact LeO.refl _)
      | (with_reducible exact LeO.none _)
      | (with_reducible refine LeO.ite ?_ ?_)
      | (with_reducible refine LeO.bind ?_ (fun _ => ?_))
      | exact ih0 _ _ _
      | exact LeO.none _
      | refine LeO.ite ?_ ?_
      | refine LeO.bind ?_ (fun _ => ?_)
theorem serial_Order.mono : ∀ a0 a1 k, LeO (serial_Order.f k a0 a1) (serial_Order.f (k + 1) a0 a1) := by
  intro a0 a1 k
  have ih0 := serial_Order.mono_l k
  unfold serial_Order.f
  repeat' first
      | (with_reducible exact ih0 _ _ _)
      | (with_reducible exact LeO.refl _)
      | (with_reducible exact LeO.none _)
      | (with_reducible refine LeO.ite ?_ ?_)
      | (with_reducible refine LeO.bind ?_ (fun _ => ?_))
      | exact ih0 _ _ _
      | exact LeO.none _
      | refine LeO.ite ?_ ?_
      | refine LeO.bind ?_ (fun _ => ?_)
set_option maxHeartbeats 8000000 in
set_option maxRecDepth 100000 in
theorem serial_Order.calls (k : Nat) (a0 : Int) (a1 : Int) (r1 : Int) (r2 : Int) (w : World) (h : serial_Order.f k a0 a1 = some (r1, r2)) :
    Calls Try.prog 23 #[.int .i64 a0, .int .i64 a1] w fun e w' => e = .returned (.tuple #[.int .i64 r1, .int .i64 r2]) ∧ Drawn0 w w' := by
  have H : ((serial_May.f a0).bind fun t101 => (if t101 = true then ((serial_May.f a1).bind fun t102 => (serial_Order.j0 k a0 a1 (!t102))) else (serial_Order.j0 k a0 a1 true))) = some (r1, r2) := h
  clear h
  have HC3 := Aside0.mk H
  clear H
  go_enter Try.func23, Try.ntmps23
  go_upto_region 1 with (fail)
  go_cut [14] (fun v14 wc => ∃ (kq : Nat) (x14_2 : Bool), v14 = .bool x14_2 ∧ Aside0 (serial_Order.j0 kq a0 a1 x14_2 = some (r1, r2)) ∧ Aside0 (kq ≤ k) ∧ Drawn0 w wc)
  case first =>
    have H := HC3.out
    clear HC3
    replace H := Option.bind_eq_some_iff.mp H
    obtain ⟨t101, A40, H⟩ := H
    replace H : (if t101 = true then ((serial_May.f a1).bind fun t102 => (serial_Order.j0 k a0 a1 (!t102))) else (serial_Order.j0 k a0 a1 true)) = some (r1, r2) := H
    have A4 := Aside0.mk A40
    clear A40
    by_cases c5 : t101 = true
    · subst c5
      have H1 : ((serial_May.f a1).bind fun t102 => (serial_Order.j0 k a0 a1 (!t102))) = some (r1, r2) := by rw [if_pos rfl] at H; exact H
      clear H
      have H := H1
      clear H1
      replace H := Option.bind_eq_some_iff.mp H
      obtain ⟨t102, A60, H⟩ := H
      replace H : (serial_Order.j0 k a0 a1 (!t102)) = some (r1, r2) := H
      have A6 := Aside0.mk A60
      clear A60
      have H' := Aside0.mk H
      clear H
      go_wp2_with (first | ((with_reducible refine gate_callee (f := 34) rfl ?_); refine goesL_ (some 8) rfl rfl Try.func34 (by kernel_rfl) rfl #[.int .i64 a0] rfl (by (try simp only [List.map_toArray, List.map_cons, List.map_nil]); first | done | rfl | (simp only [List.length_drop, List.length_take]; rfl)) ?_; (with_reducible refine (serial_May.calls a0 true _ A4.out).mono ?_); rintro e w' ⟨rfl, ⟨nd, rfl⟩⟩; refine ⟨_, rfl, ?_⟩) | (go_at_call 34; (with_reducible refine (serial_May.calls a1 t102 _ A6.out).mono ?_); rintro e w' ⟨rfl, ⟨nd, rfl⟩⟩))
      go_meet
      case rel => exact ⟨_, (!t102), (by first | rfl | (simp; done) | (simp [*]; done)), H', ⟨by first | omega | exact Nat.le_refl _⟩, by repeat (first | exact Drawn0.refl _ | apply Drawn0.step)⟩
    · replace c5 := Bool.eq_false_iff.mpr c5
      subst c5
      have H1 : (serial_Order.j0 k a0 a1 true) = some (r1, r2) := by rw [if_neg (show ¬ (false = true) by decide)] at H; exact H
      clear H
      have H := H1
      clear H1
      have H' := Aside0.mk H
      clear H
      go_wp2_with (first | ((with_reducible refine gate_callee (f := 34) rfl ?_); refine goesL_ (some 8) rfl rfl Try.func34 (by kernel_rfl) rfl #[.int .i64 a0] rfl (by (try simp only [List.map_toArray, List.map_cons, List.map_nil]); first | done | rfl | (simp only [List.length_drop, List.length_take]; rfl)) ?_; (with_reducible refine (serial_May.calls a0 false _ A4.out).mono ?_); rintro e w' ⟨rfl, ⟨nd, rfl⟩⟩; refine ⟨_, rfl, ?_⟩))
      go_meet
      case rel => exact ⟨_, (true), (by first | rfl | (simp; done) | (simp [*]; done)), H', ⟨by first | omega | exact Nat.le_refl _⟩, by repeat (first | exact Drawn0.refl _ | apply Drawn0.step)⟩
  case rest =>
    clear HC3
    try clear c2
    try clear p2
    try clear c3
    try clear c5
    obtain ⟨kq, x14_2, rfl, HA, HJ2, ⟨mc2, rfl⟩⟩ := hcut
    cases kq with
    | zero => exact absurd HA.out (by simp [serial_Order.j0])
    | succ kj2 =>
      have H := HA.out
      clear HA
      simp only [serial_Order.j0] at H
      by_cases c7 : x14_2 = true
      · subst c7
        have H1 : (some (0, 1000)) = some (r1, r2) := by rw [if_pos rfl] at H; exact H
        clear H
        have H := H1
        clear H1
        simp only [Option.some.injEq, Prod.mk.injEq] at H
        obtain ⟨rfl, rfl⟩ := H
        go_wp2
        go_ret2
        exact ⟨by first | rfl | (simp; done) | (simp [*]; done), by repeat (first | exact Drawn0.refl _ | apply Drawn0.step)⟩
      · replace c7 := Bool.eq_false_iff.mpr c7
        subst c7
        have H1 : (if (wrap32 (((a1) - (a0)) % 4294967296)) = 0 then (some (0, 0)) else (if (wrap32 (((a1) - (a0)) % 4294967296)) > 0 then (some (1, 0)) else (if (wrap32 (((a1) - (a0)) % 4294967296)) = (wrap32 (-(wrap32 (((a1) - (a0)) % 4294967296)))) then (some (3, 0)) else (some (2, 0))))) = some (r1, r2) := by rw [if_neg (show ¬ (false = true) by decide)] at H; exact H
        clear H
        have H := H1
        clear H1
        by_cases c8 : (wrap32 (((a1) - (a0)) % 4294967296)) = 0
        · rw [if_pos c8] at H
          have c8b0 : ((wrap32 (((a1) - (a0)) % 4294967296)) == 0) = true := beq_iff_eq.mpr c8
          have c8b1 : ((wrap32 (((a1) - (a0)) % 4294967296)) != 0) = false := bne_eq_false_iff_eq.mpr c8
          clear c8
          simp only [Option.some.injEq, Prod.mk.injEq] at H
          obtain ⟨rfl, rfl⟩ := H
          go_wp2
          go_ret2
          exact ⟨by first | rfl | (simp; done) | (simp [*]; done), by repeat (first | exact Drawn0.refl _ | apply Drawn0.step)⟩
        · rw [if_neg c8] at H
          have c8b0 : ((wrap32 (((a1) - (a0)) % 4294967296)) == 0) = false := beq_eq_false_iff_ne.mpr c8
          have c8b1 : ((wrap32 (((a1) - (a0)) % 4294967296)) != 0) = true := bne_iff_ne.mpr c8
          by_cases c9 : (wrap32 (((a1) - (a0)) % 4294967296)) > 0
          · rw [if_pos c9] at H
            have c9b0 : decide (0 < (wrap32 (((a1) - (a0)) % 4294967296))) = true := decide_eq_true c9
            clear c9
            simp only [Option.some.injEq, Prod.mk.injEq] at H
            obtain ⟨rfl, rfl⟩ := H
            go_wp2
            go_ret2
            exact ⟨by first | rfl | (simp; done) | (simp [*]; done), by repeat (first | exact Drawn0.refl _ | apply Drawn0.step)⟩
          · rw [if_neg c9] at H
            have c9b0 : decide (0 < (wrap32 (((a1) - (a0)) % 4294967296))) = false := decide_eq_false c9
            clear c9
            by_cases c10 : (wrap32 (((a1) - (a0)) % 4294967296)) = (wrap32 (-(wrap32 (((a1) - (a0)) % 4294967296))))
            · rw [if_pos c10] at H
              have c10b0 : ((wrap32 (((a1) - (a0)) % 4294967296)) == (wrap32 (-(wrap32 (((a1) - (a0)) % 4294967296))))) = true := beq_iff_eq.mpr c10
              have c10b1 : ((wrap32 (((a1) - (a0)) % 4294967296)) != (wrap32 (-(wrap32 (((a1) - (a0)) % 4294967296))))) = false := bne_eq_false_iff_eq.mpr c10
              clear c10
              simp only [Option.some.injEq, Prod.mk.injEq] at H
              obtain ⟨rfl, rfl⟩ := H
              go_wp2
              go_ret2
              exact ⟨by first | rfl | (simp; done) | (simp [*]; done), by repeat (first | exact Drawn0.refl _ | apply Drawn0.step)⟩
            · rw [if_neg c10] at H
              have c10b0 : ((wrap32 (((a1) - (a0)) % 4294967296)) == (wrap32 (-(wrap32 (((a1) - (a0)) % 4294967296))))) = false := beq_eq_false_iff_ne.mpr c10
              have c10b1 : ((wrap32 (((a1) - (a0)) % 4294967296)) != (wrap32 (-(wrap32 (((a1) - (a0)) % 4294967296))))) = true := bne_iff_ne.mpr c10
              simp only [Option.some.injEq, Prod.mk.injEq] at H
              obtain ⟨rfl, rfl⟩ := H
              go_wp2
              go_ret2
              exact ⟨by first | rfl | (simp; done) | (simp [*]; done), by repeat (first | exact Drawn0.refl _ | apply Drawn0.step)⟩

/-! ### serial_Next: function 25 -/
def serial_Next.f (a0 : Int) : Option (Int × Int) := (serial_May.f a0).bind fun t103 => (if t103 = true then (some (((a0) + 1) % 4294967296, 0)) else (some (0, 1000)))
set_option maxHeartbeats 8000000 in
set_option maxRecDepth 100000 in
theorem serial_Next.calls (a0 : Int) (r1 : Int) (r2 : Int) (w : World) (h : serial_Next.f a0 = some (r1, r2)) :
    Calls Try.prog 25 #[.int .i64 a0] w fun e w' => e = .returned (.tuple #[.int .i64 r1, .int .i64 r2]) ∧ Drawn0 w w' := by
  have H : ((serial_May.f a0).bind fun t103 => (if t103 = true then (some (((a0) + 1) % 4294967296, 0)) else (some (0, 1000)))) = some (r1, r2) := h
  clear h
  replace H := Option.bind_eq_some_iff.mp H
  obtain ⟨t103, A20, H⟩ := H
  replace H : (if t103 = true then (some (((a0) + 1) % 4294967296, 0)) else (some (0, 1000))) = some (r1, r2) := H
  have A2 := Aside0.mk A20
  clear A20
  by_cases c3 : t103 = true
  · subst c3
    have H1 : (some (((a0) + 1) % 4294967296, 0)) = some (r1, r2) := by rw [if_pos rfl] at H; exact H
    clear H
    have H := H1
    clear H1
    simp only [Option.some.injEq, Prod.mk.injEq] at H
    obtain ⟨rfl, rfl⟩ := H
    go_enter Try.func25, Try.ntmps25
    go_wp2_with (first | ((with_reducible refine gate_callee (f := 34) rfl ?_); refine goesL_ (some 5) rfl rfl Try.func34 (by kernel_rfl) rfl #[.int .i64 a0] rfl (by (try simp only [List.map_toArray, List.map_cons, List.map_nil]); first | done | rfl | (simp only [List.length_drop, List.length_take]; rfl)) ?_; (with_reducible refine (serial_May.calls a0 true _ A2.out).mono ?_); rintro e w' ⟨rfl, ⟨nd, rfl⟩⟩; refine ⟨_, rfl, ?_⟩))
    go_ret2
    exact ⟨by first | rfl | (simp; done) | (simp [*]; done), by repeat (first | exact Drawn0.refl _ | apply Drawn0.step)⟩
  · replace c3 := Bool.eq_false_iff.mpr c3
    subst c3
    have H1 : (some (0, 1000)) = some (r1, r2) := by rw [if_neg (show ¬ (false = true) by decide)] at H; exact H
    clear H
    have H := H1
    clear H1
    simp only [Option.some.injEq, Prod.mk.injEq] at H
    obtain ⟨rfl, rfl⟩ := H
    go_enter Try.func25, Try.ntmps25
    go_wp2_with (first | ((with_reducible refine gate_callee (f := 34) rfl ?_); refine goesL_ (some 5) rfl rfl Try.func34 (by kernel_rfl) rfl #[.int .i64 a0] rfl (by (try simp only [List.map_toArray, List.map_cons, List.map_nil]); first | done | rfl | (simp only [List.length_drop, List.length_take]; rfl)) ?_; (with_reducible refine (serial_May.calls a0 false _ A2.out).mono ?_); rintro e w' ⟨rfl, ⟨nd, rfl⟩⟩; refine ⟨_, rfl, ?_⟩))
    go_ret2
    exact ⟨by first | rfl | (simp; done) | (simp [*]; done), by repeat (first | exact Drawn0.refl _ | apply Drawn0.step)⟩

/-! ### pinfoldlaw0_Num: function 27 -/
def pinfoldlaw0_Num.f (a0 : Int) : Option (Int) := some a0
set_option maxHeartbeats 8000000 in
set_option maxRecDepth 100000 in
theorem pinfoldlaw0_Num.calls (a0 : Int) (r : Int) (w : World) (h : pinfoldlaw0_Num.f a0 = some r) :
    Calls Try.prog 27 #[.int .i64 a0] w fun e w' => e = .returned (.int .i64 r) ∧ Drawn0 w w' := by
  have H : (some a0) = some r := h
  clear h
  obtain rfl := Option.some.inj H
  go_enter Try.func27, Try.ntmps27
  go_wp2
  go_ret
  exact ⟨by first | rfl | (simp; done) | (simp [*]; done), by repeat (first | exact Drawn0.refl _ | apply Drawn0.step)⟩

/-! ### pinfoldlaw10_awake: function 28 -/
def pinfoldlaw10_awake.f (k : Nat)  : Option (Bool) := (serial_Order.f k 4294967295 0).bind fun bt104 => ((serial_Order.f k 0 2147483648).bind fun bt106 => ((serial_Next.f 4294967295).bind fun bt108 => ((serial_Next.f (-1)).bind fun bt110 => (if bt104.1 = 1 then ((pinfoldlaw0_Num.f bt104.2).bind fun t112 => (if t112 = 0 then (if bt106.1 = 3 then ((pinfoldlaw0_Num.f bt106.2).bind fun t113 => (if t113 = 0 then (if bt108.1 = 0 then ((pinfoldlaw0_Num.f bt108.2).bind fun t114 => (if t114 = 0 then ((pinfoldlaw0_Num.f bt110.2).bind fun t115 => (some (t115 == 1000))) else (some false))) else (some false)) else (some false))) else (some false)) else (some false))) else (some false)))))
theorem pinfoldlaw10_awake.mono : ∀ k, LeO (pinfoldlaw10_awake.f k ) (pinfoldlaw10_awake.f (k + 1) ) := by
  intro  k
  unfold pinfoldlaw10_awake.f
  repeat' first
      | (with_reducible exact serial_Order.mono _ _ _)
      | (with_reducible exact LeO.refl _)
      | (with_reducible exact LeO.none _)
      | (with_reducible refine LeO.ite ?_ ?_)
      | (with_reducible refine LeO.bind ?_ (fun _ => ?_))
      | exact serial_Order.mono _ _ _
      | exact LeO.none _
      | refine LeO.ite ?_ ?_
      | refine LeO.bind ?_ (fun _ => ?_)
set_option maxHeartbeats 8000000 in
set_option maxRecDepth 100000 in
theorem pinfoldlaw10_awake.calls (k : Nat)  (r : Bool) (w : World) (h : pinfoldlaw10_awake.f k  = some r) :
    Calls Try.prog 28 #[] w fun e w' => e = .returned (.bool r) ∧ Drawn0 w w' := by
  have H : ((serial_Order.f k 4294967295 0).bind fun bt104 => ((serial_Order.f k 0 2147483648).bind fun bt106 => ((serial_Next.f 4294967295).bind fun bt108 => ((serial_Next.f (-1)).bind fun bt110 => (if bt104.1 = 1 then ((pinfoldlaw0_Num.f bt104.2).bind fun t112 => (if t112 = 0 then (if bt106.1 = 3 then ((pinfoldlaw0_Num.f bt106.2).bind fun t113 => (if t113 = 0 then (if bt108.1 = 0 then ((pinfoldlaw0_Num.f bt108.2).bind fun t114 => (if t114 = 0 then ((pinfoldlaw0_Num.f bt110.2).bind fun t115 => (some (t115 == 1000))) else (some false))) else (some false)) else (some false))) else (some false)) else (some false))) else (some false)))))) = some r := h
  clear h
  replace H := Option.bind_eq_some_iff.mp H
  obtain ⟨⟨t104, t105⟩, A10, H⟩ := H
  replace H : ((serial_Order.f k 0 2147483648).bind fun bt106 => ((serial_Next.f 4294967295).bind fun bt108 => ((serial_Next.f (-1)).bind fun bt110 => (if t104 = 1 then ((pinfoldlaw0_Num.f t105).bind fun t112 => (if t112 = 0 then (if bt106.1 = 3 then ((pinfoldlaw0_Num.f bt106.2).bind fun t113 => (if t113 = 0 then (if bt108.1 = 0 then ((pinfoldlaw0_Num.f bt108.2).bind fun t114 => (if t114 = 0 then ((pinfoldlaw0_Num.f bt110.2).bind fun t115 => (some (t115 == 1000))) else (some false))) else (some false)) else (some false))) else (some false)) else (some false))) else (some false))))) = some r := H
  have A1 := Aside0.mk A10
  clear A10
  replace H := Option.bind_eq_some_iff.mp H
  obtain ⟨⟨t106, t107⟩, A20, H⟩ := H
  replace H : ((serial_Next.f 4294967295).bind fun bt108 => ((serial_Next.f (-1)).bind fun bt110 => (if t104 = 1 then ((pinfoldlaw0_Num.f t105).bind fun t112 => (if t112 = 0 then (if t106 = 3 then ((pinfoldlaw0_Num.f t107).bind fun t113 => (if t113 = 0 then (if bt108.1 = 0 then ((pinfoldlaw0_Num.f bt108.2).bind fun t114 => (if t114 = 0 then ((pinfoldlaw0_Num.f bt110.2).bind fun t115 => (some (t115 == 1000))) else (some false))) else (some false)) else (some false))) else (some false)) else (some false))) else (some false)))) = some r := H
  have A2 := Aside0.mk A20
  clear A20
  replace H := Option.bind_eq_some_iff.mp H
  obtain ⟨⟨t108, t109⟩, A30, H⟩ := H
  replace H : ((serial_Next.f (-1)).bind fun bt110 => (if t104 = 1 then ((pinfoldlaw0_Num.f t105).bind fun t112 => (if t112 = 0 then (if t106 = 3 then ((pinfoldlaw0_Num.f t107).bind fun t113 => (if t113 = 0 then (if t108 = 0 then ((pinfoldlaw0_Num.f t109).bind fun t114 => (if t114 = 0 then ((pinfoldlaw0_Num.f bt110.2).bind fun t115 => (some (t115 == 1000))) else (some false))) else (some false)) else (some false))) else (some false)) else (some false))) else (some false))) = some r := H
  have A3 := Aside0.mk A30
  clear A30
  replace H := Option.bind_eq_some_iff.mp H
  obtain ⟨⟨t110, t111⟩, A40, H⟩ := H
  replace H : (if t104 = 1 then ((pinfoldlaw0_Num.f t105).bind fun t112 => (if t112 = 0 then (if t106 = 3 then ((pinfoldlaw0_Num.f t107).bind fun t113 => (if t113 = 0 then (if t108 = 0 then ((pinfoldlaw0_Num.f t109).bind fun t114 => (if t114 = 0 then ((pinfoldlaw0_Num.f t111).bind fun t115 => (some (t115 == 1000))) else (some false))) else (some false)) else (some false))) else (some false)) else (some false))) else (some false)) = some r := H
  have A4 := Aside0.mk A40
  clear A40
  by_cases c5 : t104 = 1
  · rw [if_pos c5] at H
    have c5b0 : (t104 == 1) = true := beq_iff_eq.mpr c5
    have c5b1 : (t104 != 1) = false := bne_eq_false_iff_eq.mpr c5
    clear c5
    replace H := Option.bind_eq_some_iff.mp H
    obtain ⟨t112, A60, H⟩ := H
    replace H : (if t112 = 0 then (if t106 = 3 then ((pinfoldlaw0_Num.f t107).bind fun t113 => (if t113 = 0 then (if t108 = 0 then ((pinfoldlaw0_Num.f t109).bind fun t114 => (if t114 = 0 then ((pinfoldlaw0_Num.f t111).bind fun t115 => (some (t115 == 1000))) else (some false))) else (some false)) else (some false))) else (some false)) else (some false)) = some r := H
    have A6 := Aside0.mk A60
    clear A60
    by_cases c7 : t112 = 0
    · rw [if_pos c7] at H
      have c7b0 : (t112 == 0) = true := beq_iff_eq.mpr c7
      have c7b1 : (t112 != 0) = false := bne_eq_false_iff_eq.mpr c7
      clear c7
      by_cases c8 : t106 = 3
      · rw [if_pos c8] at H
        have c8b0 : (t106 == 3) = true := beq_iff_eq.mpr c8
        have c8b1 : (t106 != 3) = false := bne_eq_false_iff_eq.mpr c8
        clear c8
        replace H := Option.bind_eq_some_iff.mp H
        obtain ⟨t113, A90, H⟩ := H
        replace H : (if t113 = 0 then (if t108 = 0 then ((pinfoldlaw0_Num.f t109).bind fun t114 => (if t114 = 0 then ((pinfoldlaw0_Num.f t111).bind fun t115 => (some (t115 == 1000))) else (some false))) else (some false)) else (some false)) = some r := H
        have A9 := Aside0.mk A90
        clear A90
        by_cases c10 : t113 = 0
        · rw [if_pos c10] at H
          have c10b0 : (t113 == 0) = true := beq_iff_eq.mpr c10
          have c10b1 : (t113 != 0) = false := bne_eq_false_iff_eq.mpr c10
          clear c10
          by_cases c11 : t108 = 0
          · rw [if_pos c11] at H
            have c11b0 : (t108 == 0) = true := beq_iff_eq.mpr c11
            have c11b1 : (t108 != 0) = false := bne_eq_false_iff_eq.mpr c11
            clear c11
            replace H := Option.bind_eq_some_iff.mp H
            obtain ⟨t114, A120, H⟩ := H
            replace H : (if t114 = 0 then ((pinfoldlaw0_Num.f t111).bind fun t115 => (some (t115 == 1000))) else (some false)) = some r := H
            have A12 := Aside0.mk A120
            clear A120
            by_cases c13 : t114 = 0
            · rw [if_pos c13] at H
              have c13b0 : (t114 == 0) = true := beq_iff_eq.mpr c13
              have c13b1 : (t114 != 0) = false := bne_eq_false_iff_eq.mpr c13
              clear c13
              replace H := Option.bind_eq_some_iff.mp H
              obtain ⟨t115, A140, H⟩ := H
              replace H : (some (t115 == 1000)) = some r := H
              have A14 := Aside0.mk A140
              clear A140
              obtain rfl := Option.some.inj H
              go_enter Try.func28, Try.ntmps28
              go_wp2_with (first | ((with_reducible refine gate_callee (f := 23) rfl ?_); refine goesL_ (some 10) rfl rfl Try.func23 (by kernel_rfl) rfl #[.int .i64 4294967295, .int .i64 0] rfl (by (try simp only [List.map_toArray, List.map_cons, List.map_nil]); first | done | rfl | (simp only [List.length_drop, List.length_take]; rfl)) ?_; (with_reducible refine (serial_Order.calls k 4294967295 0 t104 t105 _ A1.out).mono ?_); rintro e w' ⟨rfl, ⟨nd, rfl⟩⟩; refine ⟨_, rfl, ?_⟩) | ((with_reducible refine gate_callee (f := 23) rfl ?_); refine goesL_ (some 14) rfl rfl Try.func23 (by kernel_rfl) rfl #[.int .i64 0, .int .i64 2147483648] rfl (by (try simp only [List.map_toArray, List.map_cons, List.map_nil]); first | done | rfl | (simp only [List.length_drop, List.length_take]; rfl)) ?_; (with_reducible refine (serial_Order.calls k 0 2147483648 t106 t107 _ A2.out).mono ?_); rintro e w' ⟨rfl, ⟨nd, rfl⟩⟩; refine ⟨_, rfl, ?_⟩) | ((with_reducible refine gate_callee (f := 25) rfl ?_); refine goesL_ (some 18) rfl rfl Try.func25 (by kernel_rfl) rfl #[.int .i64 4294967295] rfl (by (try simp only [List.map_toArray, List.map_cons, List.map_nil]); first | done | rfl | (simp only [List.length_drop, List.length_take]; rfl)) ?_; (with_reducible refine (serial_Next.calls 4294967295 t108 t109 _ A3.out).mono ?_); rintro e w' ⟨rfl, ⟨nd, rfl⟩⟩; refine ⟨_, rfl, ?_⟩) | ((with_reducible refine gate_callee (f := 25) rfl ?_); refine goesL_ (some 22) rfl rfl Try.func25 (by kernel_rfl) rfl #[.int .i64 (-1)] rfl (by (try simp only [List.map_toArray, List.map_cons, List.map_nil]); first | done | rfl | (simp only [List.length_drop, List.length_take]; rfl)) ?_; (with_reducible refine (serial_Next.calls (-1) t110 t111 _ A4.out).mono ?_); rintro e w' ⟨rfl, ⟨nd, rfl⟩⟩; refine ⟨_, rfl, ?_⟩) | (go_at_call 27; (with_reducible refine (pinfoldlaw0_Num.calls t105 t112 _ A6.out).mono ?_); rintro e w' ⟨rfl, ⟨nd, rfl⟩⟩) | (go_at_call 27; (with_reducible refine (pinfoldlaw0_Num.calls t107 t113 _ A9.out).mono ?_); rintro e w' ⟨rfl, ⟨nd, rfl⟩⟩) | (go_at_call 27; (with_reducible refine (pinfoldlaw0_Num.calls t109 t114 _ A12.out).mono ?_); rintro e w' ⟨rfl, ⟨nd, rfl⟩⟩) | (go_at_call 27; (with_reducible refine (pinfoldlaw0_Num.calls t111 t115 _ A14.out).mono ?_); rintro e w' ⟨rfl, ⟨nd, rfl⟩⟩))
              go_ret
              exact ⟨by first | rfl | (simp; done) | (simp [*]; done), by repeat (first | exact Drawn0.refl _ | apply Drawn0.step)⟩
            · rw [if_neg c13] at H
              have c13b0 : (t114 == 0) = false := beq_eq_false_iff_ne.mpr c13
              have c13b1 : (t114 != 0) = true := bne_iff_ne.mpr c13
              obtain rfl := Option.some.inj H
              go_enter Try.func28, Try.ntmps28
              go_wp2_with (first | ((with_reducible refine gate_callee (f := 23) rfl ?_); refine goesL_ (some 10) rfl rfl Try.func23 (by kernel_rfl) rfl #[.int .i64 4294967295, .int .i64 0] rfl (by (try simp only [List.map_toArray, List.map_cons, List.map_nil]); first | done | rfl | (simp only [List.length_drop, List.length_take]; rfl)) ?_; (with_reducible refine (serial_Order.calls k 4294967295 0 t104 t105 _ A1.out).mono ?_); rintro e w' ⟨rfl, ⟨nd, rfl⟩⟩; refine ⟨_, rfl, ?_⟩) | ((with_reducible refine gate_callee (f := 23) rfl ?_); refine goesL_ (some 14) rfl rfl Try.func23 (by kernel_rfl) rfl #[.int .i64 0, .int .i64 2147483648] rfl (by (try simp only [List.map_toArray, List.map_cons, List.map_nil]); first | done | rfl | (simp only [List.length_drop, List.length_take]; rfl)) ?_; (with_reducible refine (serial_Order.calls k 0 2147483648 t106 t107 _ A2.out).mono ?_); rintro e w' ⟨rfl, ⟨nd, rfl⟩⟩; refine ⟨_, rfl, ?_⟩) | ((with_reducible refine gate_callee (f := 25) rfl ?_); refine goesL_ (some 18) rfl rfl Try.func25 (by kernel_rfl) rfl #[.int .i64 4294967295] rfl (by (try simp only [List.map_toArray, List.map_cons, List.map_nil]); first | done | rfl | (simp only [List.length_drop, List.length_take]; rfl)) ?_; (with_reducible refine (serial_Next.calls 4294967295 t108 t109 _ A3.out).mono ?_); rintro e w' ⟨rfl, ⟨nd, rfl⟩⟩; refine ⟨_, rfl, ?_⟩) | ((with_reducible refine gate_callee (f := 25) rfl ?_); refine goesL_ (some 22) rfl rfl Try.func25 (by kernel_rfl) rfl #[.int .i64 (-1)] rfl (by (try simp only [List.map_toArray, List.map_cons, List.map_nil]); first | done | rfl | (simp only [List.length_drop, List.length_take]; rfl)) ?_; (with_reducible refine (serial_Next.calls (-1) t110 t111 _ A4.out).mono ?_); rintro e w' ⟨rfl, ⟨nd, rfl⟩⟩; refine ⟨_, rfl, ?_⟩) | (go_at_call 27; (with_reducible refine (pinfoldlaw0_Num.calls t105 t112 _ A6.out).mono ?_); rintro e w' ⟨rfl, ⟨nd, rfl⟩⟩) | (go_at_call 27; (with_reducible refine (pinfoldlaw0_Num.calls t107 t113 _ A9.out).mono ?_); rintro e w' ⟨rfl, ⟨nd, rfl⟩⟩) | (go_at_call 27; (with_reducible refine (pinfoldlaw0_Num.calls t109 t114 _ A12.out).mono ?_); rintro e w' ⟨rfl, ⟨nd, rfl⟩⟩))
              go_ret
              exact ⟨by first | rfl | (simp; done) | (simp [*]; done), by repeat (first | exact Drawn0.refl _ | apply Drawn0.step)⟩
          · rw [if_neg c11] at H
            have c11b0 : (t108 == 0) = false := beq_eq_false_iff_ne.mpr c11
            have c11b1 : (t108 != 0) = true := bne_iff_ne.mpr c11
            obtain rfl := Option.some.inj H
            go_enter Try.func28, Try.ntmps28
            go_wp2_with (first | ((with_reducible refine gate_callee (f := 23) rfl ?_); refine goesL_ (some 10) rfl rfl Try.func23 (by kernel_rfl) rfl #[.int .i64 4294967295, .int .i64 0] rfl (by (try simp only [List.map_toArray, List.map_cons, List.map_nil]); first | done | rfl | (simp only [List.length_drop, List.length_take]; rfl)) ?_; (with_reducible refine (serial_Order.calls k 4294967295 0 t104 t105 _ A1.out).mono ?_); rintro e w' ⟨rfl, ⟨nd, rfl⟩⟩; refine ⟨_, rfl, ?_⟩) | ((with_reducible refine gate_callee (f := 23) rfl ?_); refine goesL_ (some 14) rfl rfl Try.func23 (by kernel_rfl) rfl #[.int .i64 0, .int .i64 2147483648] rfl (by (try simp only [List.map_toArray, List.map_cons, List.map_nil]); first | done | rfl | (simp only [List.length_drop, List.length_take]; rfl)) ?_; (with_reducible refine (serial_Order.calls k 0 2147483648 t106 t107 _ A2.out).mono ?_); rintro e w' ⟨rfl, ⟨nd, rfl⟩⟩; refine ⟨_, rfl, ?_⟩) | ((with_reducible refine gate_callee (f := 25) rfl ?_); refine goesL_ (some 18) rfl rfl Try.func25 (by kernel_rfl) rfl #[.int .i64 4294967295] rfl (by (try simp only [List.map_toArray, List.map_cons, List.map_nil]); first | done | rfl | (simp only [List.length_drop, List.length_take]; rfl)) ?_; (with_reducible refine (serial_Next.calls 4294967295 t108 t109 _ A3.out).mono ?_); rintro e w' ⟨rfl, ⟨nd, rfl⟩⟩; refine ⟨_, rfl, ?_⟩) | ((with_reducible refine gate_callee (f := 25) rfl ?_); refine goesL_ (some 22) rfl rfl Try.func25 (by kernel_rfl) rfl #[.int .i64 (-1)] rfl (by (try simp only [List.map_toArray, List.map_cons, List.map_nil]); first | done | rfl | (simp only [List.length_drop, List.length_take]; rfl)) ?_; (with_reducible refine (serial_Next.calls (-1) t110 t111 _ A4.out).mono ?_); rintro e w' ⟨rfl, ⟨nd, rfl⟩⟩; refine ⟨_, rfl, ?_⟩) | (go_at_call 27; (with_reducible refine (pinfoldlaw0_Num.calls t105 t112 _ A6.out).mono ?_); rintro e w' ⟨rfl, ⟨nd, rfl⟩⟩) | (go_at_call 27; (with_reducible refine (pinfoldlaw0_Num.calls t107 t113 _ A9.out).mono ?_); rintro e w' ⟨rfl, ⟨nd, rfl⟩⟩))
            go_ret
            exact ⟨by first | rfl | (simp; done) | (simp [*]; done), by repeat (first | exact Drawn0.refl _ | apply Drawn0.step)⟩
        · rw [if_neg c10] at H
          have c10b0 : (t113 == 0) = false := beq_eq_false_iff_ne.mpr c10
          have c10b1 : (t113 != 0) = true := bne_iff_ne.mpr c10
          obtain rfl := Option.some.inj H
          go_enter Try.func28, Try.ntmps28
          go_wp2_with (first | ((with_reducible refine gate_callee (f := 23) rfl ?_); refine goesL_ (some 10) rfl rfl Try.func23 (by kernel_rfl) rfl #[.int .i64 4294967295, .int .i64 0] rfl (by (try simp only [List.map_toArray, List.map_cons, List.map_nil]); first | done | rfl | (simp only [List.length_drop, List.length_take]; rfl)) ?_; (with_reducible refine (serial_Order.calls k 4294967295 0 t104 t105 _ A1.out).mono ?_); rintro e w' ⟨rfl, ⟨nd, rfl⟩⟩; refine ⟨_, rfl, ?_⟩) | ((with_reducible refine gate_callee (f := 23) rfl ?_); refine goesL_ (some 14) rfl rfl Try.func23 (by kernel_rfl) rfl #[.int .i64 0, .int .i64 2147483648] rfl (by (try simp only [List.map_toArray, List.map_cons, List.map_nil]); first | done | rfl | (simp only [List.length_drop, List.length_take]; rfl)) ?_; (with_reducible refine (serial_Order.calls k 0 2147483648 t106 t107 _ A2.out).mono ?_); rintro e w' ⟨rfl, ⟨nd, rfl⟩⟩; refine ⟨_, rfl, ?_⟩) | ((with_reducible refine gate_callee (f := 25) rfl ?_); refine goesL_ (some 18) rfl rfl Try.func25 (by kernel_rfl) rfl #[.int .i64 4294967295] rfl (by (try simp only [List.map_toArray, List.map_cons, List.map_nil]); first | done | rfl | (simp only [List.length_drop, List.length_take]; rfl)) ?_; (with_reducible refine (serial_Next.calls 4294967295 t108 t109 _ A3.out).mono ?_); rintro e w' ⟨rfl, ⟨nd, rfl⟩⟩; refine ⟨_, rfl, ?_⟩) | ((with_reducible refine gate_callee (f := 25) rfl ?_); refine goesL_ (some 22) rfl rfl Try.func25 (by kernel_rfl) rfl #[.int .i64 (-1)] rfl (by (try simp only [List.map_toArray, List.map_cons, List.map_nil]); first | done | rfl | (simp only [List.length_drop, List.length_take]; rfl)) ?_; (with_reducible refine (serial_Next.calls (-1) t110 t111 _ A4.out).mono ?_); rintro e w' ⟨rfl, ⟨nd, rfl⟩⟩; refine ⟨_, rfl, ?_⟩) | (go_at_call 27; (with_reducible refine (pinfoldlaw0_Num.calls t105 t112 _ A6.out).mono ?_); rintro e w' ⟨rfl, ⟨nd, rfl⟩⟩) | (go_at_call 27; (with_reducible refine (pinfoldlaw0_Num.calls t107 t113 _ A9.out).mono ?_); rintro e w' ⟨rfl, ⟨nd, rfl⟩⟩))
          go_ret
          exact ⟨by first | rfl | (simp; done) | (simp [*]; done), by repeat (first | exact Drawn0.refl _ | apply Drawn0.step)⟩
      · rw [if_neg c8] at H
        have c8b0 : (t106 == 3) = false := beq_eq_false_iff_ne.mpr c8
        have c8b1 : (t106 != 3) = true := bne_iff_ne.mpr c8
        obtain rfl := Option.some.inj H
        go_enter Try.func28, Try.ntmps28
        go_wp2_with (first | ((with_reducible refine gate_callee (f := 23) rfl ?_); refine goesL_ (some 10) rfl rfl Try.func23 (by kernel_rfl) rfl #[.int .i64 4294967295, .int .i64 0] rfl (by (try simp only [List.map_toArray, List.map_cons, List.map_nil]); first | done | rfl | (simp only [List.length_drop, List.length_take]; rfl)) ?_; (with_reducible refine (serial_Order.calls k 4294967295 0 t104 t105 _ A1.out).mono ?_); rintro e w' ⟨rfl, ⟨nd, rfl⟩⟩; refine ⟨_, rfl, ?_⟩) | ((with_reducible refine gate_callee (f := 23) rfl ?_); refine goesL_ (some 14) rfl rfl Try.func23 (by kernel_rfl) rfl #[.int .i64 0, .int .i64 2147483648] rfl (by (try simp only [List.map_toArray, List.map_cons, List.map_nil]); first | done | rfl | (simp only [List.length_drop, List.length_take]; rfl)) ?_; (with_reducible refine (serial_Order.calls k 0 2147483648 t106 t107 _ A2.out).mono ?_); rintro e w' ⟨rfl, ⟨nd, rfl⟩⟩; refine ⟨_, rfl, ?_⟩) | ((with_reducible refine gate_callee (f := 25) rfl ?_); refine goesL_ (some 18) rfl rfl Try.func25 (by kernel_rfl) rfl #[.int .i64 4294967295] rfl (by (try simp only [List.map_toArray, List.map_cons, List.map_nil]); first | done | rfl | (simp only [List.length_drop, List.length_take]; rfl)) ?_; (with_reducible refine (serial_Next.calls 4294967295 t108 t109 _ A3.out).mono ?_); rintro e w' ⟨rfl, ⟨nd, rfl⟩⟩; refine ⟨_, rfl, ?_⟩) | ((with_reducible refine gate_callee (f := 25) rfl ?_); refine goesL_ (some 22) rfl rfl Try.func25 (by kernel_rfl) rfl #[.int .i64 (-1)] rfl (by (try simp only [List.map_toArray, List.map_cons, List.map_nil]); first | done | rfl | (simp only [List.length_drop, List.length_take]; rfl)) ?_; (with_reducible refine (serial_Next.calls (-1) t110 t111 _ A4.out).mono ?_); rintro e w' ⟨rfl, ⟨nd, rfl⟩⟩; refine ⟨_, rfl, ?_⟩) | (go_at_call 27; (with_reducible refine (pinfoldlaw0_Num.calls t105 t112 _ A6.out).mono ?_); rintro e w' ⟨rfl, ⟨nd, rfl⟩⟩))
        go_ret
        exact ⟨by first | rfl | (simp; done) | (simp [*]; done), by repeat (first | exact Drawn0.refl _ | apply Drawn0.step)⟩
    · rw [if_neg c7] at H
      have c7b0 : (t112 == 0) = false := beq_eq_false_iff_ne.mpr c7
      have c7b1 : (t112 != 0) = true := bne_iff_ne.mpr c7
      obtain rfl := Option.some.inj H
      go_enter Try.func28, Try.ntmps28
      go_wp2_with (first | ((with_reducible refine gate_callee (f := 23) rfl ?_); refine goesL_ (some 10) rfl rfl Try.func23 (by kernel_rfl) rfl #[.int .i64 4294967295, .int .i64 0] rfl (by (try simp only [List.map_toArray, List.map_cons, List.map_nil]); first | done | rfl | (simp only [List.length_drop, List.length_take]; rfl)) ?_; (with_reducible refine (serial_Order.calls k 4294967295 0 t104 t105 _ A1.out).mono ?_); rintro e w' ⟨rfl, ⟨nd, rfl⟩⟩; refine ⟨_, rfl, ?_⟩) | ((with_reducible refine gate_callee (f := 23) rfl ?_); refine goesL_ (some 14) rfl rfl Try.func23 (by kernel_rfl) rfl #[.int .i64 0, .int .i64 2147483648] rfl (by (try simp only [List.map_toArray, List.map_cons, List.map_nil]); first | done | rfl | (simp only [List.length_drop, List.length_take]; rfl)) ?_; (with_reducible refine (serial_Order.calls k 0 2147483648 t106 t107 _ A2.out).mono ?_); rintro e w' ⟨rfl, ⟨nd, rfl⟩⟩; refine ⟨_, rfl, ?_⟩) | ((with_reducible refine gate_callee (f := 25) rfl ?_); refine goesL_ (some 18) rfl rfl Try.func25 (by kernel_rfl) rfl #[.int .i64 4294967295] rfl (by (try simp only [List.map_toArray, List.map_cons, List.map_nil]); first | done | rfl | (simp only [List.length_drop, List.length_take]; rfl)) ?_; (with_reducible refine (serial_Next.calls 4294967295 t108 t109 _ A3.out).mono ?_); rintro e w' ⟨rfl, ⟨nd, rfl⟩⟩; refine ⟨_, rfl, ?_⟩) | ((with_reducible refine gate_callee (f := 25) rfl ?_); refine goesL_ (some 22) rfl rfl Try.func25 (by kernel_rfl) rfl #[.int .i64 (-1)] rfl (by (try simp only [List.map_toArray, List.map_cons, List.map_nil]); first | done | rfl | (simp only [List.length_drop, List.length_take]; rfl)) ?_; (with_reducible refine (serial_Next.calls (-1) t110 t111 _ A4.out).mono ?_); rintro e w' ⟨rfl, ⟨nd, rfl⟩⟩; refine ⟨_, rfl, ?_⟩) | (go_at_call 27; (with_reducible refine (pinfoldlaw0_Num.calls t105 t112 _ A6.out).mono ?_); rintro e w' ⟨rfl, ⟨nd, rfl⟩⟩))
      go_ret
      exact ⟨by first | rfl | (simp; done) | (simp [*]; done), by repeat (first | exact Drawn0.refl _ | apply Drawn0.step)⟩
  · rw [if_neg c5] at H
    have c5b0 : (t104 == 1) = false := beq_eq_false_iff_ne.mpr c5
    have c5b1 : (t104 != 1) = true := bne_iff_ne.mpr c5
    obtain rfl := Option.some.inj H
    go_enter Try.func28, Try.ntmps28
    go_wp2_with (first | ((with_reducible refine gate_callee (f := 23) rfl ?_); refine goesL_ (some 10) rfl rfl Try.func23 (by kernel_rfl) rfl #[.int .i64 4294967295, .int .i64 0] rfl (by (try simp only [List.map_toArray, List.map_cons, List.map_nil]); first | done | rfl | (simp only [List.length_drop, List.length_take]; rfl)) ?_; (with_reducible refine (serial_Order.calls k 4294967295 0 t104 t105 _ A1.out).mono ?_); rintro e w' ⟨rfl, ⟨nd, rfl⟩⟩; refine ⟨_, rfl, ?_⟩) | ((with_reducible refine gate_callee (f := 23) rfl ?_); refine goesL_ (some 14) rfl rfl Try.func23 (by kernel_rfl) rfl #[.int .i64 0, .int .i64 2147483648] rfl (by (try simp only [List.map_toArray, List.map_cons, List.map_nil]); first | done | rfl | (simp only [List.length_drop, List.length_take]; rfl)) ?_; (with_reducible refine (serial_Order.calls k 0 2147483648 t106 t107 _ A2.out).mono ?_); rintro e w' ⟨rfl, ⟨nd, rfl⟩⟩; refine ⟨_, rfl, ?_⟩) | ((with_reducible refine gate_callee (f := 25) rfl ?_); refine goesL_ (some 18) rfl rfl Try.func25 (by kernel_rfl) rfl #[.int .i64 4294967295] rfl (by (try simp only [List.map_toArray, List.map_cons, List.map_nil]); first | done | rfl | (simp only [List.length_drop, List.length_take]; rfl)) ?_; (with_reducible refine (serial_Next.calls 4294967295 t108 t109 _ A3.out).mono ?_); rintro e w' ⟨rfl, ⟨nd, rfl⟩⟩; refine ⟨_, rfl, ?_⟩) | ((with_reducible refine gate_callee (f := 25) rfl ?_); refine goesL_ (some 22) rfl rfl Try.func25 (by kernel_rfl) rfl #[.int .i64 (-1)] rfl (by (try simp only [List.map_toArray, List.map_cons, List.map_nil]); first | done | rfl | (simp only [List.length_drop, List.length_take]; rfl)) ?_; (with_reducible refine (serial_Next.calls (-1) t110 t111 _ A4.out).mono ?_); rintro e w' ⟨rfl, ⟨nd, rfl⟩⟩; refine ⟨_, rfl, ?_⟩))
    go_ret
    exact ⟨by first | rfl | (simp; done) | (simp [*]; done), by repeat (first | exact Drawn0.refl _ | apply Drawn0.step)⟩

/-! ### pinfoldlaw10_SerialTurns: function 5 -/
def pinfoldlaw10_SerialTurns.f (k : Nat) (a0 : Int) (a1 : Int) : Option (Bool) := (pinfoldlaw10_awake.f k).bind fun t116 => (if t116 = true then ((serial_Order.f k ((IntKind.u64.wrap (a0)) % 4294967296) (Int.tmod (wrap64 (((IntKind.u64.wrap (a0)) % 4294967296) + (wrap64 (1 + (wrap64 (Int.tmod (IntKind.u64.wrap (a1)) 2147483647)))))) 4294967296)).bind fun bt117 => ((serial_Order.f k (Int.tmod (wrap64 (((IntKind.u64.wrap (a0)) % 4294967296) + (wrap64 (1 + (wrap64 (Int.tmod (IntKind.u64.wrap (a1)) 2147483647)))))) 4294967296) ((IntKind.u64.wrap (a0)) % 4294967296)).bind fun bt119 => ((serial_Next.f ((IntKind.u64.wrap (a0)) % 4294967296)).bind fun bt121 => ((serial_Order.f k ((IntKind.u64.wrap (a0)) % 4294967296) bt121.1).bind fun bt123 => ((serial_Order.f k ((IntKind.u64.wrap (a0)) % 4294967296) ((IntKind.u64.wrap (a0)) % 4294967296)).bind fun bt125 => (if bt117.1 = 1 then (if bt119.1 = 2 then (if bt123.1 = 1 then (if bt125.1 = 0 then ((pinfoldlaw0_Num.f bt117.2).bind fun t127 => (if t127 = 0 then ((pinfoldlaw0_Num.f bt119.2).bind fun t128 => (if t128 = 0 then ((pinfoldlaw0_Num.f bt121.2).bind fun t129 => (if t129 = 0 then ((pinfoldlaw0_Num.f bt123.2).bind fun t130 => (if t130 = 0 then ((pinfoldlaw0_Num.f bt125.2).bind fun t131 => (some (t131 == 0))) else (some false))) else (some false))) else (some false))) else (some false))) else (some false)) else (some false)) else (some false)) else (some false))))))) else (some false))
theorem pinfoldlaw10_SerialTurns.mono : ∀ a0 a1 k, LeO (pinfoldlaw10_SerialTurns.f k a0 a1) (pinfoldlaw10_SerialTurns.f (k + 1) a0 a1) := by
  intro a0 a1 k
  unfold pinfoldlaw10_SerialTurns.f
  repeat' first
      | (with_reducible exact pinfoldlaw10_awake.mono _)
      | (with_reducible exact serial_Order.mono _ _ _)
      | (with_reducible exact LeO.refl _)
      | (with_reducible exact LeO.none _)
      | (with_reducible refine LeO.ite ?_ ?_)
      | (with_reducible refine LeO.bind ?_ (fun _ => ?_))
      | exact pinfoldlaw10_awake.mono _
      | exact serial_Order.mono _ _ _
      | exact LeO.none _
      | refine LeO.ite ?_ ?_
      | refine LeO.bind ?_ (fun _ => ?_)
set_option maxHeartbeats 8000000 in
set_option maxRecDepth 100000 in
theorem pinfoldlaw10_SerialTurns.calls (k : Nat) (a0 : Int) (a1 : Int) (r : Bool) (w : World) (h : pinfoldlaw10_SerialTurns.f k a0 a1 = some r) :
    Calls Try.prog 5 #[.int .i64 a0, .int .i64 a1] w fun e w' => e = .returned (.bool r) ∧ Drawn0 w w' := by
  have H : ((pinfoldlaw10_awake.f k).bind fun t116 => (if t116 = true then ((serial_Order.f k ((IntKind.u64.wrap (a0)) % 4294967296) (Int.tmod (wrap64 (((IntKind.u64.wrap (a0)) % 4294967296) + (wrap64 (1 + (wrap64 (Int.tmod (IntKind.u64.wrap (a1)) 2147483647)))))) 4294967296)).bind fun bt117 => ((serial_Order.f k (Int.tmod (wrap64 (((IntKind.u64.wrap (a0)) % 4294967296) + (wrap64 (1 + (wrap64 (Int.tmod (IntKind.u64.wrap (a1)) 2147483647)))))) 4294967296) ((IntKind.u64.wrap (a0)) % 4294967296)).bind fun bt119 => ((serial_Next.f ((IntKind.u64.wrap (a0)) % 4294967296)).bind fun bt121 => ((serial_Order.f k ((IntKind.u64.wrap (a0)) % 4294967296) bt121.1).bind fun bt123 => ((serial_Order.f k ((IntKind.u64.wrap (a0)) % 4294967296) ((IntKind.u64.wrap (a0)) % 4294967296)).bind fun bt125 => (if bt117.1 = 1 then (if bt119.1 = 2 then (if bt123.1 = 1 then (if bt125.1 = 0 then ((pinfoldlaw0_Num.f bt117.2).bind fun t127 => (if t127 = 0 then ((pinfoldlaw0_Num.f bt119.2).bind fun t128 => (if t128 = 0 then ((pinfoldlaw0_Num.f bt121.2).bind fun t129 => (if t129 = 0 then ((pinfoldlaw0_Num.f bt123.2).bind fun t130 => (if t130 = 0 then ((pinfoldlaw0_Num.f bt125.2).bind fun t131 => (some (t131 == 0))) else (some false))) else (some false))) else (some false))) else (some false))) else (some false)) else (some false)) else (some false)) else (some false))))))) else (some false))) = some r := h
  clear h
  replace H := Option.bind_eq_some_iff.mp H
  obtain ⟨t116, A30, H⟩ := H
  replace H : (if t116 = true then ((serial_Order.f k ((IntKind.u64.wrap (a0)) % 4294967296) (Int.tmod (wrap64 (((IntKind.u64.wrap (a0)) % 4294967296) + (wrap64 (1 + (wrap64 (Int.tmod (IntKind.u64.wrap (a1)) 2147483647)))))) 4294967296)).bind fun bt117 => ((serial_Order.f k (Int.tmod (wrap64 (((IntKind.u64.wrap (a0)) % 4294967296) + (wrap64 (1 + (wrap64 (Int.tmod (IntKind.u64.wrap (a1)) 2147483647)))))) 4294967296) ((IntKind.u64.wrap (a0)) % 4294967296)).bind fun bt119 => ((serial_Next.f ((IntKind.u64.wrap (a0)) % 4294967296)).bind fun bt121 => ((serial_Order.f k ((IntKind.u64.wrap (a0)) % 4294967296) bt121.1).bind fun bt123 => ((serial_Order.f k ((IntKind.u64.wrap (a0)) % 4294967296) ((IntKind.u64.wrap (a0)) % 4294967296)).bind fun bt125 => (if bt117.1 = 1 then (if bt119.1 = 2 then (if bt123.1 = 1 then (if bt125.1 = 0 then ((pinfoldlaw0_Num.f bt117.2).bind fun t127 => (if t127 = 0 then ((pinfoldlaw0_Num.f bt119.2).bind fun t128 => (if t128 = 0 then ((pinfoldlaw0_Num.f bt121.2).bind fun t129 => (if t129 = 0 then ((pinfoldlaw0_Num.f bt123.2).bind fun t130 => (if t130 = 0 then ((pinfoldlaw0_Num.f bt125.2).bind fun t131 => (some (t131 == 0))) else (some false))) else (some false))) else (some false))) else (some false))) else (some false)) else (some false)) else (some false)) else (some false))))))) else (some false)) = some r := H
  have A3 := Aside0.mk A30
  clear A30
  by_cases c4 : t116 = true
  · subst c4
    have H1 : ((serial_Order.f k ((IntKind.u64.wrap (a0)) % 4294967296) (Int.tmod (wrap64 (((IntKind.u64.wrap (a0)) % 4294967296) + (wrap64 (1 + (wrap64 (Int.tmod (IntKind.u64.wrap (a1)) 2147483647)))))) 4294967296)).bind fun bt117 => ((serial_Order.f k (Int.tmod (wrap64 (((IntKind.u64.wrap (a0)) % 4294967296) + (wrap64 (1 + (wrap64 (Int.tmod (IntKind.u64.wrap (a1)) 2147483647)))))) 4294967296) ((IntKind.u64.wrap (a0)) % 4294967296)).bind fun bt119 => ((serial_Next.f ((IntKind.u64.wrap (a0)) % 4294967296)).bind fun bt121 => ((serial_Order.f k ((IntKind.u64.wrap (a0)) % 4294967296) bt121.1).bind fun bt123 => ((serial_Order.f k ((IntKind.u64.wrap (a0)) % 4294967296) ((IntKind.u64.wrap (a0)) % 4294967296)).bind fun bt125 => (if bt117.1 = 1 then (if bt119.1 = 2 then (if bt123.1 = 1 then (if bt125.1 = 0 then ((pinfoldlaw0_Num.f bt117.2).bind fun t127 => (if t127 = 0 then ((pinfoldlaw0_Num.f bt119.2).bind fun t128 => (if t128 = 0 then ((pinfoldlaw0_Num.f bt121.2).bind fun t129 => (if t129 = 0 then ((pinfoldlaw0_Num.f bt123.2).bind fun t130 => (if t130 = 0 then ((pinfoldlaw0_Num.f bt125.2).bind fun t131 => (some (t131 == 0))) else (some false))) else (some false))) else (some false))) else (some false))) else (some false)) else (some false)) else (some false)) else (some false))))))) = some r := by rw [if_pos rfl] at H; exact H
    clear H
    have H := H1
    clear H1
    replace H := Option.bind_eq_some_iff.mp H
    obtain ⟨⟨t117, t118⟩, A50, H⟩ := H
    replace H : ((serial_Order.f k (Int.tmod (wrap64 (((IntKind.u64.wrap (a0)) % 4294967296) + (wrap64 (1 + (wrap64 (Int.tmod (IntKind.u64.wrap (a1)) 2147483647)))))) 4294967296) ((IntKind.u64.wrap (a0)) % 4294967296)).bind fun bt119 => ((serial_Next.f ((IntKind.u64.wrap (a0)) % 4294967296)).bind fun bt121 => ((serial_Order.f k ((IntKind.u64.wrap (a0)) % 4294967296) bt121.1).bind fun bt123 => ((serial_Order.f k ((IntKind.u64.wrap (a0)) % 4294967296) ((IntKind.u64.wrap (a0)) % 4294967296)).bind fun bt125 => (if t117 = 1 then (if bt119.1 = 2 then (if bt123.1 = 1 then (if bt125.1 = 0 then ((pinfoldlaw0_Num.f t118).bind fun t127 => (if t127 = 0 then ((pinfoldlaw0_Num.f bt119.2).bind fun t128 => (if t128 = 0 then ((pinfoldlaw0_Num.f bt121.2).bind fun t129 => (if t129 = 0 then ((pinfoldlaw0_Num.f bt123.2).bind fun t130 => (if t130 = 0 then ((pinfoldlaw0_Num.f bt125.2).bind fun t131 => (some (t131 == 0))) else (some false))) else (some false))) else (some false))) else (some false))) else (some false)) else (some false)) else (some false)) else (some false)))))) = some r := H
    have A5 := Aside0.mk A50
    clear A50
    replace H := Option.bind_eq_some_iff.mp H
    obtain ⟨⟨t119, t120⟩, A60, H⟩ := H
    replace H : ((serial_Next.f ((IntKind.u64.wrap (a0)) % 4294967296)).bind fun bt121 => ((serial_Order.f k ((IntKind.u64.wrap (a0)) % 4294967296) bt121.1).bind fun bt123 => ((serial_Order.f k ((IntKind.u64.wrap (a0)) % 4294967296) ((IntKind.u64.wrap (a0)) % 4294967296)).bind fun bt125 => (if t117 = 1 then (if t119 = 2 then (if bt123.1 = 1 then (if bt125.1 = 0 then ((pinfoldlaw0_Num.f t118).bind fun t127 => (if t127 = 0 then ((pinfoldlaw0_Num.f t120).bind fun t128 => (if t128 = 0 then ((pinfoldlaw0_Num.f bt121.2).bind fun t129 => (if t129 = 0 then ((pinfoldlaw0_Num.f bt123.2).bind fun t130 => (if t130 = 0 then ((pinfoldlaw0_Num.f bt125.2).bind fun t131 => (some (t131 == 0))) else (some false))) else (some false))) else (some false))) else (some false))) else (some false)) else (some false)) else (some false)) else (some false))))) = some r := H
    have A6 := Aside0.mk A60
    clear A60
    replace H := Option.bind_eq_some_iff.mp H
    obtain ⟨⟨t121, t122⟩, A70, H⟩ := H
    replace H : ((serial_Order.f k ((IntKind.u64.wrap (a0)) % 4294967296) t121).bind fun bt123 => ((serial_Order.f k ((IntKind.u64.wrap (a0)) % 4294967296) ((IntKind.u64.wrap (a0)) % 4294967296)).bind fun bt125 => (if t117 = 1 then (if t119 = 2 then (if bt123.1 = 1 then (if bt125.1 = 0 then ((pinfoldlaw0_Num.f t118).bind fun t127 => (if t127 = 0 then ((pinfoldlaw0_Num.f t120).bind fun t128 => (if t128 = 0 then ((pinfoldlaw0_Num.f t122).bind fun t129 => (if t129 = 0 then ((pinfoldlaw0_Num.f bt123.2).bind fun t130 => (if t130 = 0 then ((pinfoldlaw0_Num.f bt125.2).bind fun t131 => (some (t131 == 0))) else (some false))) else (some false))) else (some false))) else (some false))) else (some false)) else (some false)) else (some false)) else (some false)))) = some r := H
    have A7 := Aside0.mk A70
    clear A70
    replace H := Option.bind_eq_some_iff.mp H
    obtain ⟨⟨t123, t124⟩, A80, H⟩ := H
    replace H : ((serial_Order.f k ((IntKind.u64.wrap (a0)) % 4294967296) ((IntKind.u64.wrap (a0)) % 4294967296)).bind fun bt125 => (if t117 = 1 then (if t119 = 2 then (if t123 = 1 then (if bt125.1 = 0 then ((pinfoldlaw0_Num.f t118).bind fun t127 => (if t127 = 0 then ((pinfoldlaw0_Num.f t120).bind fun t128 => (if t128 = 0 then ((pinfoldlaw0_Num.f t122).bind fun t129 => (if t129 = 0 then ((pinfoldlaw0_Num.f t124).bind fun t130 => (if t130 = 0 then ((pinfoldlaw0_Num.f bt125.2).bind fun t131 => (some (t131 == 0))) else (some false))) else (some false))) else (some false))) else (some false))) else (some false)) else (some false)) else (some false)) else (some false))) = some r := H
    have A8 := Aside0.mk A80
    clear A80
    replace H := Option.bind_eq_some_iff.mp H
    obtain ⟨⟨t125, t126⟩, A90, H⟩ := H
    replace H : (if t117 = 1 then (if t119 = 2 then (if t123 = 1 then (if t125 = 0 then ((pinfoldlaw0_Num.f t118).bind fun t127 => (if t127 = 0 then ((pinfoldlaw0_Num.f t120).bind fun t128 => (if t128 = 0 then ((pinfoldlaw0_Num.f t122).bind fun t129 => (if t129 = 0 then ((pinfoldlaw0_Num.f t124).bind fun t130 => (if t130 = 0 then ((pinfoldlaw0_Num.f t126).bind fun t131 => (some (t131 == 0))) else (some false))) else (some false))) else (some false))) else (some false))) else (some false)) else (some false)) else (some false)) else (some false)) = some r := H
    have A9 := Aside0.mk A90
    clear A90
    by_cases c10 : t117 = 1
    · rw [if_pos c10] at H
      have c10b0 : (t117 == 1) = true := beq_iff_eq.mpr c10
      have c10b1 : (t117 != 1) = false := bne_eq_false_iff_eq.mpr c10
      clear c10
      by_cases c11 : t119 = 2
      · rw [if_pos c11] at H
        have c11b0 : (t119 == 2) = true := beq_iff_eq.mpr c11
        have c11b1 : (t119 != 2) = false := bne_eq_false_iff_eq.mpr c11
        clear c11
        by_cases c12 : t123 = 1
        · rw [if_pos c12] at H
          have c12b0 : (t123 == 1) = true := beq_iff_eq.mpr c12
          have c12b1 : (t123 != 1) = false := bne_eq_false_iff_eq.mpr c12
          clear c12
          by_cases c13 : t125 = 0
          · rw [if_pos c13] at H
            have c13b0 : (t125 == 0) = true := beq_iff_eq.mpr c13
            have c13b1 : (t125 != 0) = false := bne_eq_false_iff_eq.mpr c13
            clear c13
            replace H := Option.bind_eq_some_iff.mp H
            obtain ⟨t127, A140, H⟩ := H
            replace H : (if t127 = 0 then ((pinfoldlaw0_Num.f t120).bind fun t128 => (if t128 = 0 then ((pinfoldlaw0_Num.f t122).bind fun t129 => (if t129 = 0 then ((pinfoldlaw0_Num.f t124).bind fun t130 => (if t130 = 0 then ((pinfoldlaw0_Num.f t126).bind fun t131 => (some (t131 == 0))) else (some false))) else (some false))) else (some false))) else (some false)) = some r := H
            have A14 := Aside0.mk A140
            clear A140
            by_cases c15 : t127 = 0
            · rw [if_pos c15] at H
              have c15b0 : (t127 == 0) = true := beq_iff_eq.mpr c15
              have c15b1 : (t127 != 0) = false := bne_eq_false_iff_eq.mpr c15
              clear c15
              replace H := Option.bind_eq_some_iff.mp H
              obtain ⟨t128, A160, H⟩ := H
              replace H : (if t128 = 0 then ((pinfoldlaw0_Num.f t122).bind fun t129 => (if t129 = 0 then ((pinfoldlaw0_Num.f t124).bind fun t130 => (if t130 = 0 then ((pinfoldlaw0_Num.f t126).bind fun t131 => (some (t131 == 0))) else (some false))) else (some false))) else (some false)) = some r := H
              have A16 := Aside0.mk A160
              clear A160
              by_cases c17 : t128 = 0
              · rw [if_pos c17] at H
                have c17b0 : (t128 == 0) = true := beq_iff_eq.mpr c17
                have c17b1 : (t128 != 0) = false := bne_eq_false_iff_eq.mpr c17
                clear c17
                replace H := Option.bind_eq_some_iff.mp H
                obtain ⟨t129, A180, H⟩ := H
                replace H : (if t129 = 0 then ((pinfoldlaw0_Num.f t124).bind fun t130 => (if t130 = 0 then ((pinfoldlaw0_Num.f t126).bind fun t131 => (some (t131 == 0))) else (some false))) else (some false)) = some r := H
                have A18 := Aside0.mk A180
                clear A180
                by_cases c19 : t129 = 0
                · rw [if_pos c19] at H
                  have c19b0 : (t129 == 0) = true := beq_iff_eq.mpr c19
                  have c19b1 : (t129 != 0) = false := bne_eq_false_iff_eq.mpr c19
                  clear c19
                  replace H := Option.bind_eq_some_iff.mp H
                  obtain ⟨t130, A200, H⟩ := H
                  replace H : (if t130 = 0 then ((pinfoldlaw0_Num.f t126).bind fun t131 => (some (t131 == 0))) else (some false)) = some r := H
                  have A20 := Aside0.mk A200
                  clear A200
                  by_cases c21 : t130 = 0
                  · rw [if_pos c21] at H
                    have c21b0 : (t130 == 0) = true := beq_iff_eq.mpr c21
                    have c21b1 : (t130 != 0) = false := bne_eq_false_iff_eq.mpr c21
                    clear c21
                    replace H := Option.bind_eq_some_iff.mp H
                    obtain ⟨t131, A220, H⟩ := H
                    replace H : (some (t131 == 0)) = some r := H
                    have A22 := Aside0.mk A220
                    clear A220
                    obtain rfl := Option.some.inj H
                    go_enter Try.func5, Try.ntmps5
                    go_wp2_with (first | ((with_reducible refine gate_callee (f := 28) rfl ?_); refine goesL_ (some 18) rfl rfl Try.func28 (by kernel_rfl) rfl #[] rfl (by (try simp only [List.map_toArray, List.map_cons, List.map_nil]); first | done | rfl | (simp only [List.length_drop, List.length_take]; rfl)) ?_; (with_reducible refine (pinfoldlaw10_awake.calls k  true _ A3.out).mono ?_); rintro e w' ⟨rfl, ⟨nd, rfl⟩⟩; refine ⟨_, rfl, ?_⟩) | ((with_reducible refine gate_callee (f := 23) rfl ?_); refine goesL_ (some 36) rfl rfl Try.func23 (by kernel_rfl) rfl #[.int .i64 ((IntKind.u64.wrap (a0)) % 4294967296), .int .i64 (Int.tmod (wrap64 (((IntKind.u64.wrap (a0)) % 4294967296) + (wrap64 (1 + (wrap64 (Int.tmod (IntKind.u64.wrap (a1)) 2147483647)))))) 4294967296)] rfl (by (try simp only [List.map_toArray, List.map_cons, List.map_nil]); first | done | rfl | (simp only [List.length_drop, List.length_take]; rfl)) ?_; (with_reducible refine (serial_Order.calls k ((IntKind.u64.wrap (a0)) % 4294967296) (Int.tmod (wrap64 (((IntKind.u64.wrap (a0)) % 4294967296) + (wrap64 (1 + (wrap64 (Int.tmod (IntKind.u64.wrap (a1)) 2147483647)))))) 4294967296) t117 t118 _ A5.out).mono ?_); rintro e w' ⟨rfl, ⟨nd, rfl⟩⟩; refine ⟨_, rfl, ?_⟩) | ((with_reducible refine gate_callee (f := 23) rfl ?_); refine goesL_ (some 42) rfl rfl Try.func23 (by kernel_rfl) rfl #[.int .i64 (Int.tmod (wrap64 (((IntKind.u64.wrap (a0)) % 4294967296) + (wrap64 (1 + (wrap64 (Int.tmod (IntKind.u64.wrap (a1)) 2147483647)))))) 4294967296), .int .i64 ((IntKind.u64.wrap (a0)) % 4294967296)] rfl (by (try simp only [List.map_toArray, List.map_cons, List.map_nil]); first | done | rfl | (simp only [List.length_drop, List.length_take]; rfl)) ?_; (with_reducible refine (serial_Order.calls k (Int.tmod (wrap64 (((IntKind.u64.wrap (a0)) % 4294967296) + (wrap64 (1 + (wrap64 (Int.tmod (IntKind.u64.wrap (a1)) 2147483647)))))) 4294967296) ((IntKind.u64.wrap (a0)) % 4294967296) t119 t120 _ A6.out).mono ?_); rintro e w' ⟨rfl, ⟨nd, rfl⟩⟩; refine ⟨_, rfl, ?_⟩) | ((with_reducible refine gate_callee (f := 25) rfl ?_); refine goesL_ (some 47) rfl rfl Try.func25 (by kernel_rfl) rfl #[.int .i64 ((IntKind.u64.wrap (a0)) % 4294967296)] rfl (by (try simp only [List.map_toArray, List.map_cons, List.map_nil]); first | done | rfl | (simp only [List.length_drop, List.length_take]; rfl)) ?_; (with_reducible refine (serial_Next.calls ((IntKind.u64.wrap (a0)) % 4294967296) t121 t122 _ A7.out).mono ?_); rintro e w' ⟨rfl, ⟨nd, rfl⟩⟩; refine ⟨_, rfl, ?_⟩) | ((with_reducible refine gate_callee (f := 23) rfl ?_); refine goesL_ (some 53) rfl rfl Try.func23 (by kernel_rfl) rfl #[.int .i64 ((IntKind.u64.wrap (a0)) % 4294967296), .int .i64 t121] rfl (by (try simp only [List.map_toArray, List.map_cons, List.map_nil]); first | done | rfl | (simp only [List.length_drop, List.length_take]; rfl)) ?_; (with_reducible refine (serial_Order.calls k ((IntKind.u64.wrap (a0)) % 4294967296) t121 t123 t124 _ A8.out).mono ?_); rintro e w' ⟨rfl, ⟨nd, rfl⟩⟩; refine ⟨_, rfl, ?_⟩) | ((with_reducible refine gate_callee (f := 23) rfl ?_); refine goesL_ (some 59) rfl rfl Try.func23 (by kernel_rfl) rfl #[.int .i64 ((IntKind.u64.wrap (a0)) % 4294967296), .int .i64 ((IntKind.u64.wrap (a0)) % 4294967296)] rfl (by (try simp only [List.map_toArray, List.map_cons, List.map_nil]); first | done | rfl | (simp only [List.length_drop, List.length_take]; rfl)) ?_; (with_reducible refine (serial_Order.calls k ((IntKind.u64.wrap (a0)) % 4294967296) ((IntKind.u64.wrap (a0)) % 4294967296) t125 t126 _ A9.out).mono ?_); rintro e w' ⟨rfl, ⟨nd, rfl⟩⟩; refine ⟨_, rfl, ?_⟩) | (go_at_call 27; (with_reducible refine (pinfoldlaw0_Num.calls t118 t127 _ A14.out).mono ?_); rintro e w' ⟨rfl, ⟨nd, rfl⟩⟩) | (go_at_call 27; (with_reducible refine (pinfoldlaw0_Num.calls t120 t128 _ A16.out).mono ?_); rintro e w' ⟨rfl, ⟨nd, rfl⟩⟩) | (go_at_call 27; (with_reducible refine (pinfoldlaw0_Num.calls t122 t129 _ A18.out).mono ?_); rintro e w' ⟨rfl, ⟨nd, rfl⟩⟩) | (go_at_call 27; (with_reducible refine (pinfoldlaw0_Num.calls t124 t130 _ A20.out).mono ?_); rintro e w' ⟨rfl, ⟨nd, rfl⟩⟩) | (go_at_call 27; (with_reducible refine (pinfoldlaw0_Num.calls t126 t131 _ A22.out).mono ?_); rintro e w' ⟨rfl, ⟨nd, rfl⟩⟩))
                    go_ret
                    exact ⟨by first | rfl | (simp; done) | (simp [*]; done), by repeat (first | exact Drawn0.refl _ | apply Drawn0.step)⟩
                  · rw [if_neg c21] at H
                    have c21b0 : (t130 == 0) = false := beq_eq_false_iff_ne.mpr c21
                    have c21b1 : (t130 != 0) = true := bne_iff_ne.mpr c21
                    obtain rfl := Option.some.inj H
                    go_enter Try.func5, Try.ntmps5
                    go_wp2_with (first | ((with_reducible refine gate_callee (f := 28) rfl ?_); refine goesL_ (some 18) rfl rfl Try.func28 (by kernel_rfl) rfl #[] rfl (by (try simp only [List.map_toArray, List.map_cons, List.map_nil]); first | done | rfl | (simp only [List.length_drop, List.length_take]; rfl)) ?_; (with_reducible refine (pinfoldlaw10_awake.calls k  true _ A3.out).mono ?_); rintro e w' ⟨rfl, ⟨nd, rfl⟩⟩; refine ⟨_, rfl, ?_⟩) | ((with_reducible refine gate_callee (f := 23) rfl ?_); refine goesL_ (some 36) rfl rfl Try.func23 (by kernel_rfl) rfl #[.int .i64 ((IntKind.u64.wrap (a0)) % 4294967296), .int .i64 (Int.tmod (wrap64 (((IntKind.u64.wrap (a0)) % 4294967296) + (wrap64 (1 + (wrap64 (Int.tmod (IntKind.u64.wrap (a1)) 2147483647)))))) 4294967296)] rfl (by (try simp only [List.map_toArray, List.map_cons, List.map_nil]); first | done | rfl | (simp only [List.length_drop, List.length_take]; rfl)) ?_; (with_reducible refine (serial_Order.calls k ((IntKind.u64.wrap (a0)) % 4294967296) (Int.tmod (wrap64 (((IntKind.u64.wrap (a0)) % 4294967296) + (wrap64 (1 + (wrap64 (Int.tmod (IntKind.u64.wrap (a1)) 2147483647)))))) 4294967296) t117 t118 _ A5.out).mono ?_); rintro e w' ⟨rfl, ⟨nd, rfl⟩⟩; refine ⟨_, rfl, ?_⟩) | ((with_reducible refine gate_callee (f := 23) rfl ?_); refine goesL_ (some 42) rfl rfl Try.func23 (by kernel_rfl) rfl #[.int .i64 (Int.tmod (wrap64 (((IntKind.u64.wrap (a0)) % 4294967296) + (wrap64 (1 + (wrap64 (Int.tmod (IntKind.u64.wrap (a1)) 2147483647)))))) 4294967296), .int .i64 ((IntKind.u64.wrap (a0)) % 4294967296)] rfl (by (try simp only [List.map_toArray, List.map_cons, List.map_nil]); first | done | rfl | (simp only [List.length_drop, List.length_take]; rfl)) ?_; (with_reducible refine (serial_Order.calls k (Int.tmod (wrap64 (((IntKind.u64.wrap (a0)) % 4294967296) + (wrap64 (1 + (wrap64 (Int.tmod (IntKind.u64.wrap (a1)) 2147483647)))))) 4294967296) ((IntKind.u64.wrap (a0)) % 4294967296) t119 t120 _ A6.out).mono ?_); rintro e w' ⟨rfl, ⟨nd, rfl⟩⟩; refine ⟨_, rfl, ?_⟩) | ((with_reducible refine gate_callee (f := 25) rfl ?_); refine goesL_ (some 47) rfl rfl Try.func25 (by kernel_rfl) rfl #[.int .i64 ((IntKind.u64.wrap (a0)) % 4294967296)] rfl (by (try simp only [List.map_toArray, List.map_cons, List.map_nil]); first | done | rfl | (simp only [List.length_drop, List.length_take]; rfl)) ?_; (with_reducible refine (serial_Next.calls ((IntKind.u64.wrap (a0)) % 4294967296) t121 t122 _ A7.out).mono ?_); rintro e w' ⟨rfl, ⟨nd, rfl⟩⟩; refine ⟨_, rfl, ?_⟩) | ((with_reducible refine gate_callee (f := 23) rfl ?_); refine goesL_ (some 53) rfl rfl Try.func23 (by kernel_rfl) rfl #[.int .i64 ((IntKind.u64.wrap (a0)) % 4294967296), .int .i64 t121] rfl (by (try simp only [List.map_toArray, List.map_cons, List.map_nil]); first | done | rfl | (simp only [List.length_drop, List.length_take]; rfl)) ?_; (with_reducible refine (serial_Order.calls k ((IntKind.u64.wrap (a0)) % 4294967296) t121 t123 t124 _ A8.out).mono ?_); rintro e w' ⟨rfl, ⟨nd, rfl⟩⟩; refine ⟨_, rfl, ?_⟩) | ((with_reducible refine gate_callee (f := 23) rfl ?_); refine goesL_ (some 59) rfl rfl Try.func23 (by kernel_rfl) rfl #[.int .i64 ((IntKind.u64.wrap (a0)) % 4294967296), .int .i64 ((IntKind.u64.wrap (a0)) % 4294967296)] rfl (by (try simp only [List.map_toArray, List.map_cons, List.map_nil]); first | done | rfl | (simp only [List.length_drop, List.length_take]; rfl)) ?_; (with_reducible refine (serial_Order.calls k ((IntKind.u64.wrap (a0)) % 4294967296) ((IntKind.u64.wrap (a0)) % 4294967296) t125 t126 _ A9.out).mono ?_); rintro e w' ⟨rfl, ⟨nd, rfl⟩⟩; refine ⟨_, rfl, ?_⟩) | (go_at_call 27; (with_reducible refine (pinfoldlaw0_Num.calls t118 t127 _ A14.out).mono ?_); rintro e w' ⟨rfl, ⟨nd, rfl⟩⟩) | (go_at_call 27; (with_reducible refine (pinfoldlaw0_Num.calls t120 t128 _ A16.out).mono ?_); rintro e w' ⟨rfl, ⟨nd, rfl⟩⟩) | (go_at_call 27; (with_reducible refine (pinfoldlaw0_Num.calls t122 t129 _ A18.out).mono ?_); rintro e w' ⟨rfl, ⟨nd, rfl⟩⟩) | (go_at_call 27; (with_reducible refine (pinfoldlaw0_Num.calls t124 t130 _ A20.out).mono ?_); rintro e w' ⟨rfl, ⟨nd, rfl⟩⟩))
                    go_ret
                    exact ⟨by first | rfl | (simp; done) | (simp [*]; done), by repeat (first | exact Drawn0.refl _ | apply Drawn0.step)⟩
                · rw [if_neg c19] at H
                  have c19b0 : (t129 == 0) = false := beq_eq_false_iff_ne.mpr c19
                  have c19b1 : (t129 != 0) = true := bne_iff_ne.mpr c19
                  obtain rfl := Option.some.inj H
                  go_enter Try.func5, Try.ntmps5
                  go_wp2_with (first | ((with_reducible refine gate_callee (f := 28) rfl ?_); refine goesL_ (some 18) rfl rfl Try.func28 (by kernel_rfl) rfl #[] rfl (by (try simp only [List.map_toArray, List.map_cons, List.map_nil]); first | done | rfl | (simp only [List.length_drop, List.length_take]; rfl)) ?_; (with_reducible refine (pinfoldlaw10_awake.calls k  true _ A3.out).mono ?_); rintro e w' ⟨rfl, ⟨nd, rfl⟩⟩; refine ⟨_, rfl, ?_⟩) | ((with_reducible refine gate_callee (f := 23) rfl ?_); refine goesL_ (some 36) rfl rfl Try.func23 (by kernel_rfl) rfl #[.int .i64 ((IntKind.u64.wrap (a0)) % 4294967296), .int .i64 (Int.tmod (wrap64 (((IntKind.u64.wrap (a0)) % 4294967296) + (wrap64 (1 + (wrap64 (Int.tmod (IntKind.u64.wrap (a1)) 2147483647)))))) 4294967296)] rfl (by (try simp only [List.map_toArray, List.map_cons, List.map_nil]); first | done | rfl | (simp only [List.length_drop, List.length_take]; rfl)) ?_; (with_reducible refine (serial_Order.calls k ((IntKind.u64.wrap (a0)) % 4294967296) (Int.tmod (wrap64 (((IntKind.u64.wrap (a0)) % 4294967296) + (wrap64 (1 + (wrap64 (Int.tmod (IntKind.u64.wrap (a1)) 2147483647)))))) 4294967296) t117 t118 _ A5.out).mono ?_); rintro e w' ⟨rfl, ⟨nd, rfl⟩⟩; refine ⟨_, rfl, ?_⟩) | ((with_reducible refine gate_callee (f := 23) rfl ?_); refine goesL_ (some 42) rfl rfl Try.func23 (by kernel_rfl) rfl #[.int .i64 (Int.tmod (wrap64 (((IntKind.u64.wrap (a0)) % 4294967296) + (wrap64 (1 + (wrap64 (Int.tmod (IntKind.u64.wrap (a1)) 2147483647)))))) 4294967296), .int .i64 ((IntKind.u64.wrap (a0)) % 4294967296)] rfl (by (try simp only [List.map_toArray, List.map_cons, List.map_nil]); first | done | rfl | (simp only [List.length_drop, List.length_take]; rfl)) ?_; (with_reducible refine (serial_Order.calls k (Int.tmod (wrap64 (((IntKind.u64.wrap (a0)) % 4294967296) + (wrap64 (1 + (wrap64 (Int.tmod (IntKind.u64.wrap (a1)) 2147483647)))))) 4294967296) ((IntKind.u64.wrap (a0)) % 4294967296) t119 t120 _ A6.out).mono ?_); rintro e w' ⟨rfl, ⟨nd, rfl⟩⟩; refine ⟨_, rfl, ?_⟩) | ((with_reducible refine gate_callee (f := 25) rfl ?_); refine goesL_ (some 47) rfl rfl Try.func25 (by kernel_rfl) rfl #[.int .i64 ((IntKind.u64.wrap (a0)) % 4294967296)] rfl (by (try simp only [List.map_toArray, List.map_cons, List.map_nil]); first | done | rfl | (simp only [List.length_drop, List.length_take]; rfl)) ?_; (with_reducible refine (serial_Next.calls ((IntKind.u64.wrap (a0)) % 4294967296) t121 t122 _ A7.out).mono ?_); rintro e w' ⟨rfl, ⟨nd, rfl⟩⟩; refine ⟨_, rfl, ?_⟩) | ((with_reducible refine gate_callee (f := 23) rfl ?_); refine goesL_ (some 53) rfl rfl Try.func23 (by kernel_rfl) rfl #[.int .i64 ((IntKind.u64.wrap (a0)) % 4294967296), .int .i64 t121] rfl (by (try simp only [List.map_toArray, List.map_cons, List.map_nil]); first | done | rfl | (simp only [List.length_drop, List.length_take]; rfl)) ?_; (with_reducible refine (serial_Order.calls k ((IntKind.u64.wrap (a0)) % 4294967296) t121 t123 t124 _ A8.out).mono ?_); rintro e w' ⟨rfl, ⟨nd, rfl⟩⟩; refine ⟨_, rfl, ?_⟩) | ((with_reducible refine gate_callee (f := 23) rfl ?_); refine goesL_ (some 59) rfl rfl Try.func23 (by kernel_rfl) rfl #[.int .i64 ((IntKind.u64.wrap (a0)) % 4294967296), .int .i64 ((IntKind.u64.wrap (a0)) % 4294967296)] rfl (by (try simp only [List.map_toArray, List.map_cons, List.map_nil]); first | done | rfl | (simp only [List.length_drop, List.length_take]; rfl)) ?_; (with_reducible refine (serial_Order.calls k ((IntKind.u64.wrap (a0)) % 4294967296) ((IntKind.u64.wrap (a0)) % 4294967296) t125 t126 _ A9.out).mono ?_); rintro e w' ⟨rfl, ⟨nd, rfl⟩⟩; refine ⟨_, rfl, ?_⟩) | (go_at_call 27; (with_reducible refine (pinfoldlaw0_Num.calls t118 t127 _ A14.out).mono ?_); rintro e w' ⟨rfl, ⟨nd, rfl⟩⟩) | (go_at_call 27; (with_reducible refine (pinfoldlaw0_Num.calls t120 t128 _ A16.out).mono ?_); rintro e w' ⟨rfl, ⟨nd, rfl⟩⟩) | (go_at_call 27; (with_reducible refine (pinfoldlaw0_Num.calls t122 t129 _ A18.out).mono ?_); rintro e w' ⟨rfl, ⟨nd, rfl⟩⟩))
                  go_ret
                  exact ⟨by first | rfl | (simp; done) | (simp [*]; done), by repeat (first | exact Drawn0.refl _ | apply Drawn0.step)⟩
              · rw [if_neg c17] at H
                have c17b0 : (t128 == 0) = false := beq_eq_false_iff_ne.mpr c17
                have c17b1 : (t128 != 0) = true := bne_iff_ne.mpr c17
                obtain rfl := Option.some.inj H
                go_enter Try.func5, Try.ntmps5
                go_wp2_with (first | ((with_reducible refine gate_callee (f := 28) rfl ?_); refine goesL_ (some 18) rfl rfl Try.func28 (by kernel_rfl) rfl #[] rfl (by (try simp only [List.map_toArray, List.map_cons, List.map_nil]); first | done | rfl | (simp only [List.length_drop, List.length_take]; rfl)) ?_; (with_reducible refine (pinfoldlaw10_awake.calls k  true _ A3.out).mono ?_); rintro e w' ⟨rfl, ⟨nd, rfl⟩⟩; refine ⟨_, rfl, ?_⟩) | ((with_reducible refine gate_callee (f := 23) rfl ?_); refine goesL_ (some 36) rfl rfl Try.func23 (by kernel_rfl) rfl #[.int .i64 ((IntKind.u64.wrap (a0)) % 4294967296), .int .i64 (Int.tmod (wrap64 (((IntKind.u64.wrap (a0)) % 4294967296) + (wrap64 (1 + (wrap64 (Int.tmod (IntKind.u64.wrap (a1)) 2147483647)))))) 4294967296)] rfl (by (try simp only [List.map_toArray, List.map_cons, List.map_nil]); first | done | rfl | (simp only [List.length_drop, List.length_take]; rfl)) ?_; (with_reducible refine (serial_Order.calls k ((IntKind.u64.wrap (a0)) % 4294967296) (Int.tmod (wrap64 (((IntKind.u64.wrap (a0)) % 4294967296) + (wrap64 (1 + (wrap64 (Int.tmod (IntKind.u64.wrap (a1)) 2147483647)))))) 4294967296) t117 t118 _ A5.out).mono ?_); rintro e w' ⟨rfl, ⟨nd, rfl⟩⟩; refine ⟨_, rfl, ?_⟩) | ((with_reducible refine gate_callee (f := 23) rfl ?_); refine goesL_ (some 42) rfl rfl Try.func23 (by kernel_rfl) rfl #[.int .i64 (Int.tmod (wrap64 (((IntKind.u64.wrap (a0)) % 4294967296) + (wrap64 (1 + (wrap64 (Int.tmod (IntKind.u64.wrap (a1)) 2147483647)))))) 4294967296), .int .i64 ((IntKind.u64.wrap (a0)) % 4294967296)] rfl (by (try simp only [List.map_toArray, List.map_cons, List.map_nil]); first | done | rfl | (simp only [List.length_drop, List.length_take]; rfl)) ?_; (with_reducible refine (serial_Order.calls k (Int.tmod (wrap64 (((IntKind.u64.wrap (a0)) % 4294967296) + (wrap64 (1 + (wrap64 (Int.tmod (IntKind.u64.wrap (a1)) 2147483647)))))) 4294967296) ((IntKind.u64.wrap (a0)) % 4294967296) t119 t120 _ A6.out).mono ?_); rintro e w' ⟨rfl, ⟨nd, rfl⟩⟩; refine ⟨_, rfl, ?_⟩) | ((with_reducible refine gate_callee (f := 25) rfl ?_); refine goesL_ (some 47) rfl rfl Try.func25 (by kernel_rfl) rfl #[.int .i64 ((IntKind.u64.wrap (a0)) % 4294967296)] rfl (by (try simp only [List.map_toArray, List.map_cons, List.map_nil]); first | done | rfl | (simp only [List.length_drop, List.length_take]; rfl)) ?_; (with_reducible refine (serial_Next.calls ((IntKind.u64.wrap (a0)) % 4294967296) t121 t122 _ A7.out).mono ?_); rintro e w' ⟨rfl, ⟨nd, rfl⟩⟩; refine ⟨_, rfl, ?_⟩) | ((with_reducible refine gate_callee (f := 23) rfl ?_); refine goesL_ (some 53) rfl rfl Try.func23 (by kernel_rfl) rfl #[.int .i64 ((IntKind.u64.wrap (a0)) % 4294967296), .int .i64 t121] rfl (by (try simp only [List.map_toArray, List.map_cons, List.map_nil]); first | done | rfl | (simp only [List.length_drop, List.length_take]; rfl)) ?_; (with_reducible refine (serial_Order.calls k ((IntKind.u64.wrap (a0)) % 4294967296) t121 t123 t124 _ A8.out).mono ?_); rintro e w' ⟨rfl, ⟨nd, rfl⟩⟩; refine ⟨_, rfl, ?_⟩) | ((with_reducible refine gate_callee (f := 23) rfl ?_); refine goesL_ (some 59) rfl rfl Try.func23 (by kernel_rfl) rfl #[.int .i64 ((IntKind.u64.wrap (a0)) % 4294967296), .int .i64 ((IntKind.u64.wrap (a0)) % 4294967296)] rfl (by (try simp only [List.map_toArray, List.map_cons, List.map_nil]); first | done | rfl | (simp only [List.length_drop, List.length_take]; rfl)) ?_; (with_reducible refine (serial_Order.calls k ((IntKind.u64.wrap (a0)) % 4294967296) ((IntKind.u64.wrap (a0)) % 4294967296) t125 t126 _ A9.out).mono ?_); rintro e w' ⟨rfl, ⟨nd, rfl⟩⟩; refine ⟨_, rfl, ?_⟩) | (go_at_call 27; (with_reducible refine (pinfoldlaw0_Num.calls t118 t127 _ A14.out).mono ?_); rintro e w' ⟨rfl, ⟨nd, rfl⟩⟩) | (go_at_call 27; (with_reducible refine (pinfoldlaw0_Num.calls t120 t128 _ A16.out).mono ?_); rintro e w' ⟨rfl, ⟨nd, rfl⟩⟩))
                go_ret
                exact ⟨by first | rfl | (simp; done) | (simp [*]; done), by repeat (first | exact Drawn0.refl _ | apply Drawn0.step)⟩
            · rw [if_neg c15] at H
              have c15b0 : (t127 == 0) = false := beq_eq_false_iff_ne.mpr c15
              have c15b1 : (t127 != 0) = true := bne_iff_ne.mpr c15
              obtain rfl := Option.some.inj H
              go_enter Try.func5, Try.ntmps5
              go_wp2_with (first | ((with_reducible refine gate_callee (f := 28) rfl ?_); refine goesL_ (some 18) rfl rfl Try.func28 (by kernel_rfl) rfl #[] rfl (by (try simp only [List.map_toArray, List.map_cons, List.map_nil]); first | done | rfl | (simp only [List.length_drop, List.length_take]; rfl)) ?_; (with_reducible refine (pinfoldlaw10_awake.calls k  true _ A3.out).mono ?_); rintro e w' ⟨rfl, ⟨nd, rfl⟩⟩; refine ⟨_, rfl, ?_⟩) | ((with_reducible refine gate_callee (f := 23) rfl ?_); refine goesL_ (some 36) rfl rfl Try.func23 (by kernel_rfl) rfl #[.int .i64 ((IntKind.u64.wrap (a0)) % 4294967296), .int .i64 (Int.tmod (wrap64 (((IntKind.u64.wrap (a0)) % 4294967296) + (wrap64 (1 + (wrap64 (Int.tmod (IntKind.u64.wrap (a1)) 2147483647)))))) 4294967296)] rfl (by (try simp only [List.map_toArray, List.map_cons, List.map_nil]); first | done | rfl | (simp only [List.length_drop, List.length_take]; rfl)) ?_; (with_reducible refine (serial_Order.calls k ((IntKind.u64.wrap (a0)) % 4294967296) (Int.tmod (wrap64 (((IntKind.u64.wrap (a0)) % 4294967296) + (wrap64 (1 + (wrap64 (Int.tmod (IntKind.u64.wrap (a1)) 2147483647)))))) 4294967296) t117 t118 _ A5.out).mono ?_); rintro e w' ⟨rfl, ⟨nd, rfl⟩⟩; refine ⟨_, rfl, ?_⟩) | ((with_reducible refine gate_callee (f := 23) rfl ?_); refine goesL_ (some 42) rfl rfl Try.func23 (by kernel_rfl) rfl #[.int .i64 (Int.tmod (wrap64 (((IntKind.u64.wrap (a0)) % 4294967296) + (wrap64 (1 + (wrap64 (Int.tmod (IntKind.u64.wrap (a1)) 2147483647)))))) 4294967296), .int .i64 ((IntKind.u64.wrap (a0)) % 4294967296)] rfl (by (try simp only [List.map_toArray, List.map_cons, List.map_nil]); first | done | rfl | (simp only [List.length_drop, List.length_take]; rfl)) ?_; (with_reducible refine (serial_Order.calls k (Int.tmod (wrap64 (((IntKind.u64.wrap (a0)) % 4294967296) + (wrap64 (1 + (wrap64 (Int.tmod (IntKind.u64.wrap (a1)) 2147483647)))))) 4294967296) ((IntKind.u64.wrap (a0)) % 4294967296) t119 t120 _ A6.out).mono ?_); rintro e w' ⟨rfl, ⟨nd, rfl⟩⟩; refine ⟨_, rfl, ?_⟩) | ((with_reducible refine gate_callee (f := 25) rfl ?_); refine goesL_ (some 47) rfl rfl Try.func25 (by kernel_rfl) rfl #[.int .i64 ((IntKind.u64.wrap (a0)) % 4294967296)] rfl (by (try simp only [List.map_toArray, List.map_cons, List.map_nil]); first | done | rfl | (simp only [List.length_drop, List.length_take]; rfl)) ?_; (with_reducible refine (serial_Next.calls ((IntKind.u64.wrap (a0)) % 4294967296) t121 t122 _ A7.out).mono ?_); rintro e w' ⟨rfl, ⟨nd, rfl⟩⟩; refine ⟨_, rfl, ?_⟩) | ((with_reducible refine gate_callee (f := 23) rfl ?_); refine goesL_ (some 53) rfl rfl Try.func23 (by kernel_rfl) rfl #[.int .i64 ((IntKind.u64.wrap (a0)) % 4294967296), .int .i64 t121] rfl (by (try simp only [List.map_toArray, List.map_cons, List.map_nil]); first | done | rfl | (simp only [List.length_drop, List.length_take]; rfl)) ?_; (with_reducible refine (serial_Order.calls k ((IntKind.u64.wrap (a0)) % 4294967296) t121 t123 t124 _ A8.out).mono ?_); rintro e w' ⟨rfl, ⟨nd, rfl⟩⟩; refine ⟨_, rfl, ?_⟩) | ((with_reducible refine gate_callee (f := 23) rfl ?_); refine goesL_ (some 59) rfl rfl Try.func23 (by kernel_rfl) rfl #[.int .i64 ((IntKind.u64.wrap (a0)) % 4294967296), .int .i64 ((IntKind.u64.wrap (a0)) % 4294967296)] rfl (by (try simp only [List.map_toArray, List.map_cons, List.map_nil]); first | done | rfl | (simp only [List.length_drop, List.length_take]; rfl)) ?_; (with_reducible refine (serial_Order.calls k ((IntKind.u64.wrap (a0)) % 4294967296) ((IntKind.u64.wrap (a0)) % 4294967296) t125 t126 _ A9.out).mono ?_); rintro e w' ⟨rfl, ⟨nd, rfl⟩⟩; refine ⟨_, rfl, ?_⟩) | (go_at_call 27; (with_reducible refine (pinfoldlaw0_Num.calls t118 t127 _ A14.out).mono ?_); rintro e w' ⟨rfl, ⟨nd, rfl⟩⟩))
              go_ret
              exact ⟨by first | rfl | (simp; done) | (simp [*]; done), by repeat (first | exact Drawn0.refl _ | apply Drawn0.step)⟩
          · rw [if_neg c13] at H
            have c13b0 : (t125 == 0) = false := beq_eq_false_iff_ne.mpr c13
            have c13b1 : (t125 != 0) = true := bne_iff_ne.mpr c13
            obtain rfl := Option.some.inj H
            go_enter Try.func5, Try.ntmps5
            go_wp2_with (first | ((with_reducible refine gate_callee (f := 28) rfl ?_); refine goesL_ (some 18) rfl rfl Try.func28 (by kernel_rfl) rfl #[] rfl (by (try simp only [List.map_toArray, List.map_cons, List.map_nil]); first | done | rfl | (simp only [List.length_drop, List.length_take]; rfl)) ?_; (with_reducible refine (pinfoldlaw10_awake.calls k  true _ A3.out).mono ?_); rintro e w' ⟨rfl, ⟨nd, rfl⟩⟩; refine ⟨_, rfl, ?_⟩) | ((with_reducible refine gate_callee (f := 23) rfl ?_); refine goesL_ (some 36) rfl rfl Try.func23 (by kernel_rfl) rfl #[.int .i64 ((IntKind.u64.wrap (a0)) % 4294967296), .int .i64 (Int.tmod (wrap64 (((IntKind.u64.wrap (a0)) % 4294967296) + (wrap64 (1 + (wrap64 (Int.tmod (IntKind.u64.wrap (a1)) 2147483647)))))) 4294967296)] rfl (by (try simp only [List.map_toArray, List.map_cons, List.map_nil]); first | done | rfl | (simp only [List.length_drop, List.length_take]; rfl)) ?_; (with_reducible refine (serial_Order.calls k ((IntKind.u64.wrap (a0)) % 4294967296) (Int.tmod (wrap64 (((IntKind.u64.wrap (a0)) % 4294967296) + (wrap64 (1 + (wrap64 (Int.tmod (IntKind.u64.wrap (a1)) 2147483647)))))) 4294967296) t117 t118 _ A5.out).mono ?_); rintro e w' ⟨rfl, ⟨nd, rfl⟩⟩; refine ⟨_, rfl, ?_⟩) | ((with_reducible refine gate_callee (f := 23) rfl ?_); refine goesL_ (some 42) rfl rfl Try.func23 (by kernel_rfl) rfl #[.int .i64 (Int.tmod (wrap64 (((IntKind.u64.wrap (a0)) % 4294967296) + (wrap64 (1 + (wrap64 (Int.tmod (IntKind.u64.wrap (a1)) 2147483647)))))) 4294967296), .int .i64 ((IntKind.u64.wrap (a0)) % 4294967296)] rfl (by (try simp only [List.map_toArray, List.map_cons, List.map_nil]); first | done | rfl | (simp only [List.length_drop, List.length_take]; rfl)) ?_; (with_reducible refine (serial_Order.calls k (Int.tmod (wrap64 (((IntKind.u64.wrap (a0)) % 4294967296) + (wrap64 (1 + (wrap64 (Int.tmod (IntKind.u64.wrap (a1)) 2147483647)))))) 4294967296) ((IntKind.u64.wrap (a0)) % 4294967296) t119 t120 _ A6.out).mono ?_); rintro e w' ⟨rfl, ⟨nd, rfl⟩⟩; refine ⟨_, rfl, ?_⟩) | ((with_reducible refine gate_callee (f := 25) rfl ?_); refine goesL_ (some 47) rfl rfl Try.func25 (by kernel_rfl) rfl #[.int .i64 ((IntKind.u64.wrap (a0)) % 4294967296)] rfl (by (try simp only [List.map_toArray, List.map_cons, List.map_nil]); first | done | rfl | (simp only [List.length_drop, List.length_take]; rfl)) ?_; (with_reducible refine (serial_Next.calls ((IntKind.u64.wrap (a0)) % 4294967296) t121 t122 _ A7.out).mono ?_); rintro e w' ⟨rfl, ⟨nd, rfl⟩⟩; refine ⟨_, rfl, ?_⟩) | ((with_reducible refine gate_callee (f := 23) rfl ?_); refine goesL_ (some 53) rfl rfl Try.func23 (by kernel_rfl) rfl #[.int .i64 ((IntKind.u64.wrap (a0)) % 4294967296), .int .i64 t121] rfl (by (try simp only [List.map_toArray, List.map_cons, List.map_nil]); first | done | rfl | (simp only [List.length_drop, List.length_take]; rfl)) ?_; (with_reducible refine (serial_Order.calls k ((IntKind.u64.wrap (a0)) % 4294967296) t121 t123 t124 _ A8.out).mono ?_); rintro e w' ⟨rfl, ⟨nd, rfl⟩⟩; refine ⟨_, rfl, ?_⟩) | ((with_reducible refine gate_callee (f := 23) rfl ?_); refine goesL_ (some 59) rfl rfl Try.func23 (by kernel_rfl) rfl #[.int .i64 ((IntKind.u64.wrap (a0)) % 4294967296), .int .i64 ((IntKind.u64.wrap (a0)) % 4294967296)] rfl (by (try simp only [List.map_toArray, List.map_cons, List.map_nil]); first | done | rfl | (simp only [List.length_drop, List.length_take]; rfl)) ?_; (with_reducible refine (serial_Order.calls k ((IntKind.u64.wrap (a0)) % 4294967296) ((IntKind.u64.wrap (a0)) % 4294967296) t125 t126 _ A9.out).mono ?_); rintro e w' ⟨rfl, ⟨nd, rfl⟩⟩; refine ⟨_, rfl, ?_⟩))
            go_ret
            exact ⟨by first | rfl | (simp; done) | (simp [*]; done), by repeat (first | exact Drawn0.refl _ | apply Drawn0.step)⟩
        · rw [if_neg c12] at H
          have c12b0 : (t123 == 1) = false := beq_eq_false_iff_ne.mpr c12
          have c12b1 : (t123 != 1) = true := bne_iff_ne.mpr c12
          obtain rfl := Option.some.inj H
          go_enter Try.func5, Try.ntmps5
          go_wp2_with (first | ((with_reducible refine gate_callee (f := 28) rfl ?_); refine goesL_ (some 18) rfl rfl Try.func28 (by kernel_rfl) rfl #[] rfl (by (try simp only [List.map_toArray, List.map_cons, List.map_nil]); first | done | rfl | (simp only [List.length_drop, List.length_take]; rfl)) ?_; (with_reducible refine (pinfoldlaw10_awake.calls k  true _ A3.out).mono ?_); rintro e w' ⟨rfl, ⟨nd, rfl⟩⟩; refine ⟨_, rfl, ?_⟩) | ((with_reducible refine gate_callee (f := 23) rfl ?_); refine goesL_ (some 36) rfl rfl Try.func23 (by kernel_rfl) rfl #[.int .i64 ((IntKind.u64.wrap (a0)) % 4294967296), .int .i64 (Int.tmod (wrap64 (((IntKind.u64.wrap (a0)) % 4294967296) + (wrap64 (1 + (wrap64 (Int.tmod (IntKind.u64.wrap (a1)) 2147483647)))))) 4294967296)] rfl (by (try simp only [List.map_toArray, List.map_cons, List.map_nil]); first | done | rfl | (simp only [List.length_drop, List.length_take]; rfl)) ?_; (with_reducible refine (serial_Order.calls k ((IntKind.u64.wrap (a0)) % 4294967296) (Int.tmod (wrap64 (((IntKind.u64.wrap (a0)) % 4294967296) + (wrap64 (1 + (wrap64 (Int.tmod (IntKind.u64.wrap (a1)) 2147483647)))))) 4294967296) t117 t118 _ A5.out).mono ?_); rintro e w' ⟨rfl, ⟨nd, rfl⟩⟩; refine ⟨_, rfl, ?_⟩) | ((with_reducible refine gate_callee (f := 23) rfl ?_); refine goesL_ (some 42) rfl rfl Try.func23 (by kernel_rfl) rfl #[.int .i64 (Int.tmod (wrap64 (((IntKind.u64.wrap (a0)) % 4294967296) + (wrap64 (1 + (wrap64 (Int.tmod (IntKind.u64.wrap (a1)) 2147483647)))))) 4294967296), .int .i64 ((IntKind.u64.wrap (a0)) % 4294967296)] rfl (by (try simp only [List.map_toArray, List.map_cons, List.map_nil]); first | done | rfl | (simp only [List.length_drop, List.length_take]; rfl)) ?_; (with_reducible refine (serial_Order.calls k (Int.tmod (wrap64 (((IntKind.u64.wrap (a0)) % 4294967296) + (wrap64 (1 + (wrap64 (Int.tmod (IntKind.u64.wrap (a1)) 2147483647)))))) 4294967296) ((IntKind.u64.wrap (a0)) % 4294967296) t119 t120 _ A6.out).mono ?_); rintro e w' ⟨rfl, ⟨nd, rfl⟩⟩; refine ⟨_, rfl, ?_⟩) | ((with_reducible refine gate_callee (f := 25) rfl ?_); refine goesL_ (some 47) rfl rfl Try.func25 (by kernel_rfl) rfl #[.int .i64 ((IntKind.u64.wrap (a0)) % 4294967296)] rfl (by (try simp only [List.map_toArray, List.map_cons, List.map_nil]); first | done | rfl | (simp only [List.length_drop, List.length_take]; rfl)) ?_; (with_reducible refine (serial_Next.calls ((IntKind.u64.wrap (a0)) % 4294967296) t121 t122 _ A7.out).mono ?_); rintro e w' ⟨rfl, ⟨nd, rfl⟩⟩; refine ⟨_, rfl, ?_⟩) | ((with_reducible refine gate_callee (f := 23) rfl ?_); refine goesL_ (some 53) rfl rfl Try.func23 (by kernel_rfl) rfl #[.int .i64 ((IntKind.u64.wrap (a0)) % 4294967296), .int .i64 t121] rfl (by (try simp only [List.map_toArray, List.map_cons, List.map_nil]); first | done | rfl | (simp only [List.length_drop, List.length_take]; rfl)) ?_; (with_reducible refine (serial_Order.calls k ((IntKind.u64.wrap (a0)) % 4294967296) t121 t123 t124 _ A8.out).mono ?_); rintro e w' ⟨rfl, ⟨nd, rfl⟩⟩; refine ⟨_, rfl, ?_⟩) | ((with_reducible refine gate_callee (f := 23) rfl ?_); refine goesL_ (some 59) rfl rfl Try.func23 (by kernel_rfl) rfl #[.int .i64 ((IntKind.u64.wrap (a0)) % 4294967296), .int .i64 ((IntKind.u64.wrap (a0)) % 4294967296)] rfl (by (try simp only [List.map_toArray, List.map_cons, List.map_nil]); first | done | rfl | (simp only [List.length_drop, List.length_take]; rfl)) ?_; (with_reducible refine (serial_Order.calls k ((IntKind.u64.wrap (a0)) % 4294967296) ((IntKind.u64.wrap (a0)) % 4294967296) t125 t126 _ A9.out).mono ?_); rintro e w' ⟨rfl, ⟨nd, rfl⟩⟩; refine ⟨_, rfl, ?_⟩))
          go_ret
          exact ⟨by first | rfl | (simp; done) | (simp [*]; done), by repeat (first | exact Drawn0.refl _ | apply Drawn0.step)⟩
      · rw [if_neg c11] at H
        have c11b0 : (t119 == 2) = false := beq_eq_false_iff_ne.mpr c11
        have c11b1 : (t119 != 2) = true := bne_iff_ne.mpr c11
        obtain rfl := Option.some.inj H
        go_enter Try.func5, Try.ntmps5
        go_wp2_with (first | ((with_reducible refine gate_callee (f := 28) rfl ?_); refine goesL_ (some 18) rfl rfl Try.func28 (by kernel_rfl) rfl #[] rfl (by (try simp only [List.map_toArray, List.map_cons, List.map_nil]); first | done | rfl | (simp only [List.length_drop, List.length_take]; rfl)) ?_; (with_reducible refine (pinfoldlaw10_awake.calls k  true _ A3.out).mono ?_); rintro e w' ⟨rfl, ⟨nd, rfl⟩⟩; refine ⟨_, rfl, ?_⟩) | ((with_reducible refine gate_callee (f := 23) rfl ?_); refine goesL_ (some 36) rfl rfl Try.func23 (by kernel_rfl) rfl #[.int .i64 ((IntKind.u64.wrap (a0)) % 4294967296), .int .i64 (Int.tmod (wrap64 (((IntKind.u64.wrap (a0)) % 4294967296) + (wrap64 (1 + (wrap64 (Int.tmod (IntKind.u64.wrap (a1)) 2147483647)))))) 4294967296)] rfl (by (try simp only [List.map_toArray, List.map_cons, List.map_nil]); first | done | rfl | (simp only [List.length_drop, List.length_take]; rfl)) ?_; (with_reducible refine (serial_Order.calls k ((IntKind.u64.wrap (a0)) % 4294967296) (Int.tmod (wrap64 (((IntKind.u64.wrap (a0)) % 4294967296) + (wrap64 (1 + (wrap64 (Int.tmod (IntKind.u64.wrap (a1)) 2147483647)))))) 4294967296) t117 t118 _ A5.out).mono ?_); rintro e w' ⟨rfl, ⟨nd, rfl⟩⟩; refine ⟨_, rfl, ?_⟩) | ((with_reducible refine gate_callee (f := 23) rfl ?_); refine goesL_ (some 42) rfl rfl Try.func23 (by kernel_rfl) rfl #[.int .i64 (Int.tmod (wrap64 (((IntKind.u64.wrap (a0)) % 4294967296) + (wrap64 (1 + (wrap64 (Int.tmod (IntKind.u64.wrap (a1)) 2147483647)))))) 4294967296), .int .i64 ((IntKind.u64.wrap (a0)) % 4294967296)] rfl (by (try simp only [List.map_toArray, List.map_cons, List.map_nil]); first | done | rfl | (simp only [List.length_drop, List.length_take]; rfl)) ?_; (with_reducible refine (serial_Order.calls k (Int.tmod (wrap64 (((IntKind.u64.wrap (a0)) % 4294967296) + (wrap64 (1 + (wrap64 (Int.tmod (IntKind.u64.wrap (a1)) 2147483647)))))) 4294967296) ((IntKind.u64.wrap (a0)) % 4294967296) t119 t120 _ A6.out).mono ?_); rintro e w' ⟨rfl, ⟨nd, rfl⟩⟩; refine ⟨_, rfl, ?_⟩) | ((with_reducible refine gate_callee (f := 25) rfl ?_); refine goesL_ (some 47) rfl rfl Try.func25 (by kernel_rfl) rfl #[.int .i64 ((IntKind.u64.wrap (a0)) % 4294967296)] rfl (by (try simp only [List.map_toArray, List.map_cons, List.map_nil]); first | done | rfl | (simp only [List.length_drop, List.length_take]; rfl)) ?_; (with_reducible refine (serial_Next.calls ((IntKind.u64.wrap (a0)) % 4294967296) t121 t122 _ A7.out).mono ?_); rintro e w' ⟨rfl, ⟨nd, rfl⟩⟩; refine ⟨_, rfl, ?_⟩) | ((with_reducible refine gate_callee (f := 23) rfl ?_); refine goesL_ (some 53) rfl rfl Try.func23 (by kernel_rfl) rfl #[.int .i64 ((IntKind.u64.wrap (a0)) % 4294967296), .int .i64 t121] rfl (by (try simp only [List.map_toArray, List.map_cons, List.map_nil]); first | done | rfl | (simp only [List.length_drop, List.length_take]; rfl)) ?_; (with_reducible refine (serial_Order.calls k ((IntKind.u64.wrap (a0)) % 4294967296) t121 t123 t124 _ A8.out).mono ?_); rintro e w' ⟨rfl, ⟨nd, rfl⟩⟩; refine ⟨_, rfl, ?_⟩) | ((with_reducible refine gate_callee (f := 23) rfl ?_); refine goesL_ (some 59) rfl rfl Try.func23 (by kernel_rfl) rfl #[.int .i64 ((IntKind.u64.wrap (a0)) % 4294967296), .int .i64 ((IntKind.u64.wrap (a0)) % 4294967296)] rfl (by (try simp only [List.map_toArray, List.map_cons, List.map_nil]); first | done | rfl | (simp only [List.length_drop, List.length_take]; rfl)) ?_; (with_reducible refine (serial_Order.calls k ((IntKind.u64.wrap (a0)) % 4294967296) ((IntKind.u64.wrap (a0)) % 4294967296) t125 t126 _ A9.out).mono ?_); rintro e w' ⟨rfl, ⟨nd, rfl⟩⟩; refine ⟨_, rfl, ?_⟩))
        go_ret
        exact ⟨by first | rfl | (simp; done) | (simp [*]; done), by repeat (first | exact Drawn0.refl _ | apply Drawn0.step)⟩
    · rw [if_neg c10] at H
      have c10b0 : (t117 == 1) = false := beq_eq_false_iff_ne.mpr c10
      have c10b1 : (t117 != 1) = true := bne_iff_ne.mpr c10
      obtain rfl := Option.some.inj H
      go_enter Try.func5, Try.ntmps5
      go_wp2_with (first | ((with_reducible refine gate_callee (f := 28) rfl ?_); refine goesL_ (some 18) rfl rfl Try.func28 (by kernel_rfl) rfl #[] rfl (by (try simp only [List.map_toArray, List.map_cons, List.map_nil]); first | done | rfl | (simp only [List.length_drop, List.length_take]; rfl)) ?_; (with_reducible refine (pinfoldlaw10_awake.calls k  true _ A3.out).mono ?_); rintro e w' ⟨rfl, ⟨nd, rfl⟩⟩; refine ⟨_, rfl, ?_⟩) | ((with_reducible refine gate_callee (f := 23) rfl ?_); refine goesL_ (some 36) rfl rfl Try.func23 (by kernel_rfl) rfl #[.int .i64 ((IntKind.u64.wrap (a0)) % 4294967296), .int .i64 (Int.tmod (wrap64 (((IntKind.u64.wrap (a0)) % 4294967296) + (wrap64 (1 + (wrap64 (Int.tmod (IntKind.u64.wrap (a1)) 2147483647)))))) 4294967296)] rfl (by (try simp only [List.map_toArray, List.map_cons, List.map_nil]); first | done | rfl | (simp only [List.length_drop, List.length_take]; rfl)) ?_; (with_reducible refine (serial_Order.calls k ((IntKind.u64.wrap (a0)) % 4294967296) (Int.tmod (wrap64 (((IntKind.u64.wrap (a0)) % 4294967296) + (wrap64 (1 + (wrap64 (Int.tmod (IntKind.u64.wrap (a1)) 2147483647)))))) 4294967296) t117 t118 _ A5.out).mono ?_); rintro e w' ⟨rfl, ⟨nd, rfl⟩⟩; refine ⟨_, rfl, ?_⟩) | ((with_reducible refine gate_callee (f := 23) rfl ?_); refine goesL_ (some 42) rfl rfl Try.func23 (by kernel_rfl) rfl #[.int .i64 (Int.tmod (wrap64 (((IntKind.u64.wrap (a0)) % 4294967296) + (wrap64 (1 + (wrap64 (Int.tmod (IntKind.u64.wrap (a1)) 2147483647)))))) 4294967296), .int .i64 ((IntKind.u64.wrap (a0)) % 4294967296)] rfl (by (try simp only [List.map_toArray, List.map_cons, List.map_nil]); first | done | rfl | (simp only [List.length_drop, List.length_take]; rfl)) ?_; (with_reducible refine (serial_Order.calls k (Int.tmod (wrap64 (((IntKind.u64.wrap (a0)) % 4294967296) + (wrap64 (1 + (wrap64 (Int.tmod (IntKind.u64.wrap (a1)) 2147483647)))))) 4294967296) ((IntKind.u64.wrap (a0)) % 4294967296) t119 t120 _ A6.out).mono ?_); rintro e w' ⟨rfl, ⟨nd, rfl⟩⟩; refine ⟨_, rfl, ?_⟩) | ((with_reducible refine gate_callee (f := 25) rfl ?_); refine goesL_ (some 47) rfl rfl Try.func25 (by kernel_rfl) rfl #[.int .i64 ((IntKind.u64.wrap (a0)) % 4294967296)] rfl (by (try simp only [List.map_toArray, List.map_cons, List.map_nil]); first | done | rfl | (simp only [List.length_drop, List.length_take]; rfl)) ?_; (with_reducible refine (serial_Next.calls ((IntKind.u64.wrap (a0)) % 4294967296) t121 t122 _ A7.out).mono ?_); rintro e w' ⟨rfl, ⟨nd, rfl⟩⟩; refine ⟨_, rfl, ?_⟩) | ((with_reducible refine gate_callee (f := 23) rfl ?_); refine goesL_ (some 53) rfl rfl Try.func23 (by kernel_rfl) rfl #[.int .i64 ((IntKind.u64.wrap (a0)) % 4294967296), .int .i64 t121] rfl (by (try simp only [List.map_toArray, List.map_cons, List.map_nil]); first | done | rfl | (simp only [List.length_drop, List.length_take]; rfl)) ?_; (with_reducible refine (serial_Order.calls k ((IntKind.u64.wrap (a0)) % 4294967296) t121 t123 t124 _ A8.out).mono ?_); rintro e w' ⟨rfl, ⟨nd, rfl⟩⟩; refine ⟨_, rfl, ?_⟩) | ((with_reducible refine gate_callee (f := 23) rfl ?_); refine goesL_ (some 59) rfl rfl Try.func23 (by kernel_rfl) rfl #[.int .i64 ((IntKind.u64.wrap (a0)) % 4294967296), .int .i64 ((IntKind.u64.wrap (a0)) % 4294967296)] rfl (by (try simp only [List.map_toArray, List.map_cons, List.map_nil]); first | done | rfl | (simp only [List.length_drop, List.length_take]; rfl)) ?_; (with_reducible refine (serial_Order.calls k ((IntKind.u64.wrap (a0)) % 4294967296) ((IntKind.u64.wrap (a0)) % 4294967296) t125 t126 _ A9.out).mono ?_); rintro e w' ⟨rfl, ⟨nd, rfl⟩⟩; refine ⟨_, rfl, ?_⟩))
      go_ret
      exact ⟨by first | rfl | (simp; done) | (simp [*]; done), by repeat (first | exact Drawn0.refl _ | apply Drawn0.step)⟩
  · replace c4 := Bool.eq_false_iff.mpr c4
    subst c4
    have H1 : (some false) = some r := by rw [if_neg (show ¬ (false = true) by decide)] at H; exact H
    clear H
    have H := H1
    clear H1
    obtain rfl := Option.some.inj H
    go_enter Try.func5, Try.ntmps5
    go_wp2_with (first | ((with_reducible refine gate_callee (f := 28) rfl ?_); refine goesL_ (some 18) rfl rfl Try.func28 (by kernel_rfl) rfl #[] rfl (by (try simp only [List.map_toArray, List.map_cons, List.map_nil]); first | done | rfl | (simp only [List.length_drop, List.length_take]; rfl)) ?_; (with_reducible refine (pinfoldlaw10_awake.calls k  false _ A3.out).mono ?_); rintro e w' ⟨rfl, ⟨nd, rfl⟩⟩; refine ⟨_, rfl, ?_⟩))
    go_ret
    exact ⟨by first | rfl | (simp; done) | (simp [*]; done), by repeat (first | exact Drawn0.refl _ | apply Drawn0.step)⟩

/-- THE ONE PURE STATEMENT of pinfoldlaw10_SerialTurns: yours. -/
def pinfoldlaw10_SerialTurns.Pure : Prop := ∀ (a0 : Int) (a1 : Int), (Lit.int .i64 a0).wf = true → (Lit.int .i64 a1).wf = true → ∃ k, pinfoldlaw10_SerialTurns.f k a0 a1 = some true
theorem pinfoldlaw10_SerialTurns.walk (P : pinfoldlaw10_SerialTurns.Pure) (a0 : Int) (a1 : Int) (w : World) (w0 : (Lit.int .i64 a0).wf = true) (w1 : (Lit.int .i64 a1).wf = true) :
    Calls Try.prog 5 #[.int .i64 a0, .int .i64 a1] w fun e w' => e = .returned (.bool true) ∧ Below w.heap.size w w' := by
  obtain ⟨k, h⟩ := P a0 a1 w0 w1
  refine (pinfoldlaw10_SerialTurns.calls k a0 a1 true w h).mono ?_
  rintro e w' ⟨rfl, hd⟩
  exact ⟨rfl, hd.below⟩

end Go.Proofs.Ytfjbcdalbmealaa.PSerialTurns
