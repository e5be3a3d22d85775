-- Made by wip/pr.py out of the translation (a turned copy of the kit's print; contracts by hand where said).
import Derived.Test.YtfkgfjllgiblhaaDoorPNameZonesx0
import Derived.Test.YtfkgfjllgiblhaaDoorPNameZonesx1
import Derived.Test.YtfkgfjllgiblhaaDoorPNameZonesx2
namespace Go.Proofs.YtfkgfjllgiblhaaDoor.PNameZones
open Go.RowKit Go.Proofs.YtfkgfjllgiblhaaDoorW.PrintWords Go.Proofs.YtfkgfjllgiblhaaDoorW.PrintLast Go.Proofs.YtfkgfjllgiblhaaDoorW.PrintMore
attribute [local go_sem] max2_int min2_int max_two min_two max_three min_three max_four min_four   -- for this text's walks alone
set_option linter.unusedVariables false
set_option linter.unusedSimpArgs false

/-! ### pinfoldlaw2_NameZones: function 8 -/
def pinfoldlaw2_NameZones.j0 : Nat → ByteArray → ByteArray → Bool → Option (Bool)
  | 0, _, _, _ => none
  | k + 1, x1, x2, x18 => if x18 = true then (some true) else ((name_Under.f k x1 x2).bind fun t138 => (if t138 = true then ((name_Under.f k x1 x2).bind fun t139 => (if t139 = true then ((name_Under.f k x2 x1).bind fun t140 => (if t140 = true then (if x1.toList = x2.toList then ((pinfoldlaw0_Num.f 0).bind fun t141 => (some (t141 == 0))) else (some false)) else ((pinfoldlaw0_Num.f 0).bind fun t142 => (some (t142 == 0))))) else ((pinfoldlaw0_Num.f 0).bind fun t143 => (some (t143 == 0))))) else ((name_Under.f k x2 x1).bind fun t144 => (if t144 = true then ((name_Under.f k x1 x2).bind fun t145 => (if t145 = true then ((name_Under.f k x2 x1).bind fun t146 => (if t146 = true then (if x1.toList = x2.toList then ((pinfoldlaw0_Num.f 0).bind fun t147 => (some (t147 == 0))) else (some false)) else ((pinfoldlaw0_Num.f 0).bind fun t148 => (some (t148 == 0))))) else ((pinfoldlaw0_Num.f 0).bind fun t149 => (some (t149 == 0))))) else (some false)))))
def pinfoldlaw2_NameZones.f (k : Nat) (a0 : ByteArray) (a1 : ByteArray) (a2 : ByteArray) : Option (Bool) := (pinfoldlaw2_awake.f k).bind fun t135 => (if t135 = true then ((name_Under.f k a0 a1).bind fun t136 => (if t136 = true then ((name_Under.f k a0 a2).bind fun t137 => (pinfoldlaw2_NameZones.j0 k a1 a2 (!t137))) else (pinfoldlaw2_NameZones.j0 k a1 a2 true))) else (some false))
theorem pinfoldlaw2_NameZones.mono_l : ∀ k, (∀ y0 y1 y2, LeO (pinfoldlaw2_NameZones.j0 k y0 y1 y2) (pinfoldlaw2_NameZones.j0 (k + 1) y0 y1 y2))
  | 0 => fun _ _ _ r h => by simp [pinfoldlaw2_NameZones.j0] at h
  | k + 1 => by
    have ih0 := pinfoldlaw2_NameZones.mono_l k
    · intro y0 y1 y2
      unfold pinfoldlaw2_NameZones.j0
      repeat' first
      | (with_reducible exact ih0 _ _ _)
      | (with_reducible exact name_Under.mono _ _ _)
      | (with_reducible exact pinfoldlaw2_awake.mono _)
      | (with_reducible exact LeO.refl _)
      | (with_reducible exact LeO.none _)
      | (with_reducible refine LeO.ite ?_ ?_)
      | (with_reducible refine LeO.bind ?_ (fun _ => ?_))
      | exact ih0 _ _ _
      | exact name_Under.mono _ _ _
      | exact pinfoldlaw2_awake.mono _
      | exact LeO.none _
      | refine LeO.ite ?_ ?_
      | refine LeO.bind ?_ (fun _ => ?_)
theorem pinfoldlaw2_NameZones.mono : ∀ a0 a1 a2 k, LeO (pinfoldlaw2_NameZones.f k a0 a1 a2) (pinfoldlaw2_NameZones.f (k + 1) a0 a1 a2) := by
  intro a0 a1 a2 k
  have ih0 := pinfoldlaw2_NameZones.mono_l k
  unfold pinfoldlaw2_NameZones.f
  repeat' first
      | (with_reducible exact ih0 _ _ _)
      | (with_reducible exact name_Under.mono _ _ _)
      | (with_reducible exact pinfoldlaw2_awake.mono _)
      | (with_reducible exact LeO.refl _)
      | (with_reducible exact LeO.none _)
      | (with_reducible refine LeO.ite ?_ ?_)
      | (with_reducible refine LeO.bind ?_ (fun _ => ?_))
      | exact ih0 _ _ _
      | exact name_Under.mono _ _ _
      | exact pinfoldlaw2_awake.mono _
      | exact LeO.none _
      | refine LeO.ite ?_ ?_
      | refine LeO.bind ?_ (fun _ => ?_)
set_option maxHeartbeats 8000000 in
set_option maxRecDepth 100000 in
theorem pinfoldlaw2_NameZones.calls (k : Nat) (a0 : ByteArray) (a1 : ByteArray) (a2 : ByteArray) (r : Bool) (w : World) (h : pinfoldlaw2_NameZones.f k a0 a1 a2 = some r) :
    Calls Tryd.prog 8 #[.string a0, .string a1, .string a2] w fun e w' => e = .returned (.bool r) ∧ Below w.heap.size w w' := by
  have HB := Aside0.mk (Below.refl w.heap.size w)
  have H : ((pinfoldlaw2_awake.f k).bind fun t135 => (if t135 = true then ((name_Under.f k a0 a1).bind fun t136 => (if t136 = true then ((name_Under.f k a0 a2).bind fun t137 => (pinfoldlaw2_NameZones.j0 k a1 a2 (!t137))) else (pinfoldlaw2_NameZones.j0 k a1 a2 true))) else (some false))) = some r := h
  clear h
  replace H := Option.bind_eq_some_iff.mp H
  obtain ⟨t135, A40, H⟩ := H
  replace H : (if t135 = true then ((name_Under.f k a0 a1).bind fun t136 => (if t136 = true then ((name_Under.f k a0 a2).bind fun t137 => (pinfoldlaw2_NameZones.j0 k a1 a2 (!t137))) else (pinfoldlaw2_NameZones.j0 k a1 a2 true))) else (some false)) = some r := H
  have A4 := Aside0.mk A40
  clear A40
  by_cases c5 : t135 = true
  · subst c5
    have H1 : ((name_Under.f k a0 a1).bind fun t136 => (if t136 = true then ((name_Under.f k a0 a2).bind fun t137 => (pinfoldlaw2_NameZones.j0 k a1 a2 (!t137))) else (pinfoldlaw2_NameZones.j0 k a1 a2 true))) = some r := by rw [if_pos rfl] at H; exact H
    clear H
    have H := H1
    clear H1
    have HC6 := Aside0.mk H
    clear H
    go_enter Tryd.func8, Tryd.ntmps8
    go_upto_region 3 with (first | ((with_reducible refine gate_callee (f := 19) rfl ?_); refine goesL_ (some 7) rfl rfl Tryd.func19 (by kernel_rfl) rfl #[] rfl (by (try simp only [List.map_toArray, List.map_cons, List.map_nil]); first | done | rfl | (simp only [List.length_drop, List.length_take]; rfl)) ?_; (with_reducible refine (pinfoldlaw2_awake.calls k  true _ A4.out).mono ?_); rintro e w7 ⟨rfl, hb⟩; refine ⟨_, rfl, ?_⟩; have n0_ := Aside0.mk (below_step (by repeat (with_reducible first | exact HB.out | apply below_alloc | apply pw_below_drewN | apply below_drew1)) hb); clear HB; have HB := n0_; clear n0_; (try clear hb)))
    (try simp only [Act.put, List.setIfInBounds_toArray, List.set_cons_zero, List.set_cons_succ])
    go_cut [18] (fun v18 wc => ∃ (kq : Nat) (x18_5 : Bool), v18 = .bool x18_5 ∧ Aside0 (pinfoldlaw2_NameZones.j0 kq a1 a2 x18_5 = some r) ∧ Aside0 (kq ≤ k) ∧ Aside0 (Below w.heap.size w wc))
    case first =>
      have H := HC6.out
      clear HC6
      replace H := Option.bind_eq_some_iff.mp H
      obtain ⟨t136, A80, H⟩ := H
      replace H : (if t136 = true then ((name_Under.f k a0 a2).bind fun t137 => (pinfoldlaw2_NameZones.j0 k a1 a2 (!t137))) else (pinfoldlaw2_NameZones.j0 k a1 a2 true)) = some r := H
      have A8 := Aside0.mk A80
      clear A80
      by_cases c9 : t136 = true
      · subst c9
        have H1 : ((name_Under.f k a0 a2).bind fun t137 => (pinfoldlaw2_NameZones.j0 k a1 a2 (!t137))) = some r := by rw [if_pos rfl] at H; exact H
        clear H
        have H := H1
        clear H1
        replace H := Option.bind_eq_some_iff.mp H
        obtain ⟨t137, A100, H⟩ := H
        replace H : (pinfoldlaw2_NameZones.j0 k a1 a2 (!t137)) = some r := H
        have A10 := Aside0.mk A100
        clear A100
        have H' := Aside0.mk H
        clear H
        go_wp2_with (first | ((with_reducible refine gate_callee (f := 16) rfl ?_); refine goesL_ (some 11) rfl rfl Tryd.func16 (by kernel_rfl) rfl #[.string a0, .string a1] rfl (by (try simp only [List.map_toArray, List.map_cons, List.map_nil]); first | done | rfl | (simp only [List.length_drop, List.length_take]; rfl)) ?_; (with_reducible refine (name_Under.calls k a0 a1 true _ A8.out).mono ?_); rintro e w' ⟨rfl, ⟨nd, rfl⟩⟩; refine ⟨_, rfl, ?_⟩) | (go_at_call 16; (with_reducible refine (name_Under.calls k a0 a2 t137 _ A10.out).mono ?_); rintro e w' ⟨rfl, ⟨nd, rfl⟩⟩))
        go_meet
        case rel => exact ⟨_, (!t137), (by first | rfl | (simp; done) | (simp [*]; done)), H', ⟨by first | omega | exact Nat.le_refl _⟩, ⟨by repeat (with_reducible first | exact HB.out | apply below_alloc | apply pw_below_drewN | apply below_drew1)⟩⟩
      replace c9 := Bool.eq_false_iff.mpr c9
      subst c9
      have H1 : (pinfoldlaw2_NameZones.j0 k a1 a2 true) = some r := by rw [if_neg (show ¬ (false = true) by decide)] at H; exact H
      clear H
      have H := H1
      clear H1
      have H' := Aside0.mk H
      clear H
      go_wp2_with (first | ((with_reducible refine gate_callee (f := 16) rfl ?_); refine goesL_ (some 11) rfl rfl Tryd.func16 (by kernel_rfl) rfl #[.string a0, .string a1] rfl (by (try simp only [List.map_toArray, List.map_cons, List.map_nil]); first | done | rfl | (simp only [List.length_drop, List.length_take]; rfl)) ?_; (with_reducible refine (name_Under.calls k a0 a1 false _ A8.out).mono ?_); rintro e w' ⟨rfl, ⟨nd, rfl⟩⟩; refine ⟨_, rfl, ?_⟩))
      go_meet
      case rel => exact ⟨_, (true), (by first | rfl | (simp; done) | (simp [*]; done)), H', ⟨by first | omega | exact Nat.le_refl _⟩, ⟨by repeat (with_reducible first | exact HB.out | apply below_alloc | apply pw_below_drewN | apply below_drew1)⟩⟩
    case rest =>
      clear HC6
      try clear c5
      obtain ⟨kq, x18_5, rfl, HA, HJ5, HB⟩ := hcut
      cases kq with
      | zero => exact absurd HA.out (by simp [pinfoldlaw2_NameZones.j0])
      | succ kj5 =>
        have H := HA.out
        clear HA
        simp only [pinfoldlaw2_NameZones.j0] at H
        by_cases c11 : x18_5 = true
        · subst c11
          have H1 : (some true) = some r := by rw [if_pos rfl] at H; exact H
          clear H
          have H := H1
          clear H1
          obtain rfl := Option.some.inj H
          go_wp2
          go_ret
          exact ⟨by first | rfl | (simp [errW_none, errW_some] <;> rfl) | (simp [*, errW_none, errW_some] <;> rfl), by repeat (with_reducible first | exact HB.out | apply below_alloc | apply pw_below_drewN | apply below_drew1)⟩
        replace c11 := Bool.eq_false_iff.mpr c11
        subst c11
        have H1 : ((name_Under.f kj5 a1 a2).bind fun t138 => (if t138 = true then ((name_Under.f kj5 a1 a2).bind fun t139 => (if t139 = true then ((name_Under.f kj5 a2 a1).bind fun t140 => (if t140 = true then (if a1.toList = a2.toList then ((pinfoldlaw0_Num.f 0).bind fun t141 => (some (t141 == 0))) else (some false)) else ((pinfoldlaw0_Num.f 0).bind fun t142 => (some (t142 == 0))))) else ((pinfoldlaw0_Num.f 0).bind fun t143 => (some (t143 == 0))))) else ((name_Under.f kj5 a2 a1).bind fun t144 => (if t144 = true then ((name_Under.f kj5 a1 a2).bind fun t145 => (if t145 = true then ((name_Under.f kj5 a2 a1).bind fun t146 => (if t146 = true then (if a1.toList = a2.toList then ((pinfoldlaw0_Num.f 0).bind fun t147 => (some (t147 == 0))) else (some false)) else ((pinfoldlaw0_Num.f 0).bind fun t148 => (some (t148 == 0))))) else ((pinfoldlaw0_Num.f 0).bind fun t149 => (some (t149 == 0))))) else (some false))))) = some r := by rw [if_neg (show ¬ (false = true) by decide)] at H; exact H
        clear H
        have H := H1
        clear H1
        replace H := Option.bind_eq_some_iff.mp H
        obtain ⟨t138, A120, H⟩ := H
        replace H : (if t138 = true then ((name_Under.f kj5 a1 a2).bind fun t139 => (if t139 = true then ((name_Under.f kj5 a2 a1).bind fun t140 => (if t140 = true then (if a1.toList = a2.toList then ((pinfoldlaw0_Num.f 0).bind fun t141 => (some (t141 == 0))) else (some false)) else ((pinfoldlaw0_Num.f 0).bind fun t142 => (some (t142 == 0))))) else ((pinfoldlaw0_Num.f 0).bind fun t143 => (some (t143 == 0))))) else ((name_Under.f kj5 a2 a1).bind fun t144 => (if t144 = true then ((name_Under.f kj5 a1 a2).bind fun t145 => (if t145 = true then ((name_Under.f kj5 a2 a1).bind fun t146 => (if t146 = true then (if a1.toList = a2.toList then ((pinfoldlaw0_Num.f 0).bind fun t147 => (some (t147 == 0))) else (some false)) else ((pinfoldlaw0_Num.f 0).bind fun t148 => (some (t148 == 0))))) else ((pinfoldlaw0_Num.f 0).bind fun t149 => (some (t149 == 0))))) else (some false)))) = some r := H
        have A12 := Aside0.mk A120
        clear A120
        by_cases c13 : t138 = true
        · subst c13
          have H1 : ((name_Under.f kj5 a1 a2).bind fun t139 => (if t139 = true then ((name_Under.f kj5 a2 a1).bind fun t140 => (if t140 = true then (if a1.toList = a2.toList then ((pinfoldlaw0_Num.f 0).bind fun t141 => (some (t141 == 0))) else (some false)) else ((pinfoldlaw0_Num.f 0).bind fun t142 => (some (t142 == 0))))) else ((pinfoldlaw0_Num.f 0).bind fun t143 => (some (t143 == 0))))) = some r := by rw [if_pos rfl] at H; exact H
          clear H
          have H := H1
          clear H1
          replace H := Option.bind_eq_some_iff.mp H
          obtain ⟨t139, A140, H⟩ := H
          replace H : (if t139 = true then ((name_Under.f kj5 a2 a1).bind fun t140 => (if t140 = true then (if a1.toList = a2.toList then ((pinfoldlaw0_Num.f 0).bind fun t141 => (some (t141 == 0))) else (some false)) else ((pinfoldlaw0_Num.f 0).bind fun t142 => (some (t142 == 0))))) else ((pinfoldlaw0_Num.f 0).bind fun t143 => (some (t143 == 0)))) = some r := H
          have A14 := Aside0.mk A140
          clear A140
          by_cases c15 : t139 = true
          · subst c15
            have H1 : ((name_Under.f kj5 a2 a1).bind fun t140 => (if t140 = true then (if a1.toList = a2.toList then ((pinfoldlaw0_Num.f 0).bind fun t141 => (some (t141 == 0))) else (some false)) else ((pinfoldlaw0_Num.f 0).bind fun t142 => (some (t142 == 0))))) = some r := by rw [if_pos rfl] at H; exact H
            clear H
            have H := H1
            clear H1
            replace H := Option.bind_eq_some_iff.mp H
            obtain ⟨t140, A160, H⟩ := H
            replace H : (if t140 = true then (if a1.toList = a2.toList then ((pinfoldlaw0_Num.f 0).bind fun t141 => (some (t141 == 0))) else (some false)) else ((pinfoldlaw0_Num.f 0).bind fun t142 => (some (t142 == 0)))) = some r := H
            have A16 := Aside0.mk A160
            clear A160
            by_cases c17 : t140 = true
            · subst c17
              have H1 : (if a1.toList = a2.toList then ((pinfoldlaw0_Num.f 0).bind fun t141 => (some (t141 == 0))) else (some false)) = some r := by rw [if_pos rfl] at H; exact H
              clear H
              have H := H1
              clear H1
              by_cases c18 : a1.toList = a2.toList
              · rw [if_pos c18] at H
                have c18b0 : (a1.toList == a2.toList) = true := beq_iff_eq.mpr c18
                have c18b1 : (a1.toList != a2.toList) = false := bne_eq_false_iff_eq.mpr c18
                clear c18
                replace H := Option.bind_eq_some_iff.mp H
                obtain ⟨t141, A190, H⟩ := H
                replace H : (some (t141 == 0)) = some r := H
                have A19 := Aside0.mk A190
                clear A190
                obtain rfl := Option.some.inj H
                go_wp2_with (first | ((with_reducible refine gate_callee (f := 16) rfl ?_); refine goesL_ (some 21) rfl rfl Tryd.func16 (by kernel_rfl) rfl #[.string a1, .string a2] rfl (by (try simp only [List.map_toArray, List.map_cons, List.map_nil]); first | done | rfl | (simp only [List.length_drop, List.length_take]; rfl)) ?_; (with_reducible refine (name_Under.calls kj5 a1 a2 true _ A12.out).mono ?_); rintro e w' ⟨rfl, ⟨nd, rfl⟩⟩; refine ⟨_, rfl, ?_⟩) | (go_at_call 16; (with_reducible refine (name_Under.calls kj5 a1 a2 true _ A14.out).mono ?_); rintro e w' ⟨rfl, ⟨nd, rfl⟩⟩) | (go_at_call 16; (with_reducible refine (name_Under.calls kj5 a2 a1 true _ A16.out).mono ?_); rintro e w' ⟨rfl, ⟨nd, rfl⟩⟩) | (go_at_call 20; (with_reducible refine (pinfoldlaw0_Num.calls 0 t141 _ A19.out).mono ?_); rintro e w' ⟨rfl, ⟨nd, rfl⟩⟩))
                go_ret
                exact ⟨by first | rfl | (simp [errW_none, errW_some] <;> rfl) | (simp [*, errW_none, errW_some] <;> rfl), by repeat (with_reducible first | exact HB.out | apply below_alloc | apply pw_below_drewN | apply below_drew1)⟩
              rw [if_neg c18] at H
              have c18b0 : (a1.toList == a2.toList) = false := beq_eq_false_iff_ne.mpr c18
              have c18b1 : (a1.toList != a2.toList) = true := bne_iff_ne.mpr c18
              obtain rfl := Option.some.inj H
              go_wp2_with (first | ((with_reducible refine gate_callee (f := 16) rfl ?_); refine goesL_ (some 21) rfl rfl Tryd.func16 (by kernel_rfl) rfl #[.string a1, .string a2] rfl (by (try simp only [List.map_toArray, List.map_cons, List.map_nil]); first | done | rfl | (simp only [List.length_drop, List.length_take]; rfl)) ?_; (with_reducible refine (name_Under.calls kj5 a1 a2 true _ A12.out).mono ?_); rintro e w' ⟨rfl, ⟨nd, rfl⟩⟩; refine ⟨_, rfl, ?_⟩) | (go_at_call 16; (with_reducible refine (name_Under.calls kj5 a1 a2 true _ A14.out).mono ?_); rintro e w' ⟨rfl, ⟨nd, rfl⟩⟩) | (go_at_call 16; (with_reducible refine (name_Under.calls kj5 a2 a1 true _ A16.out).mono ?_); rintro e w' ⟨rfl, ⟨nd, rfl⟩⟩))
              go_ret
              exact ⟨by first | rfl | (simp [errW_none, errW_some] <;> rfl) | (simp [*, errW_none, errW_some] <;> rfl), by repeat (with_reducible first | exact HB.out | apply below_alloc | apply pw_below_drewN | apply below_drew1)⟩
            replace c17 := Bool.eq_false_iff.mpr c17
            subst c17
            have H1 : ((pinfoldlaw0_Num.f 0).bind fun t142 => (some (t142 == 0))) = some r := by rw [if_neg (show ¬ (false = true) by decide)] at H; exact H
            clear H
            have H := H1
            clear H1
            replace H := Option.bind_eq_some_iff.mp H
            obtain ⟨t142, A200, H⟩ := H
            replace H : (some (t142 == 0)) = some r := H
            have A20 := Aside0.mk A200
            clear A200
            obtain rfl := Option.some.inj H
            go_wp2_with (first | ((with_reducible refine gate_callee (f := 16) rfl ?_); refine goesL_ (some 21) rfl rfl Tryd.func16 (by kernel_rfl) rfl #[.string a1, .string a2] rfl (by (try simp only [List.map_toArray, List.map_cons, List.map_nil]); first | done | rfl | (simp only [List.length_drop, List.length_take]; rfl)) ?_; (with_reducible refine (name_Under.calls kj5 a1 a2 true _ A12.out).mono ?_); rintro e w' ⟨rfl, ⟨nd, rfl⟩⟩; refine ⟨_, rfl, ?_⟩) | (go_at_call 16; (with_reducible refine (name_Under.calls kj5 a1 a2 true _ A14.out).mono ?_); rintro e w' ⟨rfl, ⟨nd, rfl⟩⟩) | (go_at_call 16; (with_reducible refine (name_Under.calls kj5 a2 a1 false _ A16.out).mono ?_); rintro e w' ⟨rfl, ⟨nd, rfl⟩⟩) | (go_at_call 20; (with_reducible refine (pinfoldlaw0_Num.calls 0 t142 _ A20.out).mono ?_); rintro e w' ⟨rfl, ⟨nd, rfl⟩⟩))
            go_ret
            exact ⟨by first | rfl | (simp [errW_none, errW_some] <;> rfl) | (simp [*, errW_none, errW_some] <;> rfl), by repeat (with_reducible first | exact HB.out | apply below_alloc | apply pw_below_drewN | apply below_drew1)⟩
          exact absurd (Option.some.inj (A14.out.symm.trans A12.out)) c15
        replace c13 := Bool.eq_false_iff.mpr c13
        subst c13
        have H1 : ((name_Under.f kj5 a2 a1).bind fun t144 => (if t144 = true then ((name_Under.f kj5 a1 a2).bind fun t145 => (if t145 = true then ((name_Under.f kj5 a2 a1).bind fun t146 => (if t146 = true then (if a1.toList = a2.toList then ((pinfoldlaw0_Num.f 0).bind fun t147 => (some (t147 == 0))) else (some false)) else ((pinfoldlaw0_Num.f 0).bind fun t148 => (some (t148 == 0))))) else ((pinfoldlaw0_Num.f 0).bind fun t149 => (some (t149 == 0))))) else (some false))) = some r := by rw [if_neg (show ¬ (false = true) by decide)] at H; exact H
        clear H
        have H := H1
        clear H1
        replace H := Option.bind_eq_some_iff.mp H
        obtain ⟨t144, A220, H⟩ := H
        replace H : (if t144 = true then ((name_Under.f kj5 a1 a2).bind fun t145 => (if t145 = true then ((name_Under.f kj5 a2 a1).bind fun t146 => (if t146 = true then (if a1.toList = a2.toList then ((pinfoldlaw0_Num.f 0).bind fun t147 => (some (t147 == 0))) else (some false)) else ((pinfoldlaw0_Num.f 0).bind fun t148 => (some (t148 == 0))))) else ((pinfoldlaw0_Num.f 0).bind fun t149 => (some (t149 == 0))))) else (some false)) = some r := H
        have A22 := Aside0.mk A220
        clear A220
        by_cases c23 : t144 = true
        · subst c23
          have H1 : ((name_Under.f kj5 a1 a2).bind fun t145 => (if t145 = true then ((name_Under.f kj5 a2 a1).bind fun t146 => (if t146 = true then (if a1.toList = a2.toList then ((pinfoldlaw0_Num.f 0).bind fun t147 => (some (t147 == 0))) else (some false)) else ((pinfoldlaw0_Num.f 0).bind fun t148 => (some (t148 == 0))))) else ((pinfoldlaw0_Num.f 0).bind fun t149 => (some (t149 == 0))))) = some r := by rw [if_pos rfl] at H; exact H
          clear H
          have H := H1
          clear H1
          replace H := Option.bind_eq_some_iff.mp H
          obtain ⟨t145, A240, H⟩ := H
          replace H : (if t145 = true then ((name_Under.f kj5 a2 a1).bind fun t146 => (if t146 = true then (if a1.toList = a2.toList then ((pinfoldlaw0_Num.f 0).bind fun t147 => (some (t147 == 0))) else (some false)) else ((pinfoldlaw0_Num.f 0).bind fun t148 => (some (t148 == 0))))) else ((pinfoldlaw0_Num.f 0).bind fun t149 => (some (t149 == 0)))) = some r := H
          have A24 := Aside0.mk A240
          clear A240
          by_cases c25 : t145 = true
          · subst c25
            exact absurd (A24.out.symm.trans A12.out) (by simp)
          replace c25 := Bool.eq_false_iff.mpr c25
          subst c25
          have H1 : ((pinfoldlaw0_Num.f 0).bind fun t149 => (some (t149 == 0))) = some r := by rw [if_neg (show ¬ (false = true) by decide)] at H; exact H
          clear H
          have H := H1
          clear H1
          replace H := Option.bind_eq_some_iff.mp H
          obtain ⟨t149, A310, H⟩ := H
          replace H : (some (t149 == 0)) = some r := H
          have A31 := Aside0.mk A310
          clear A310
          obtain rfl := Option.some.inj H
          go_wp2_with (first | ((with_reducible refine gate_callee (f := 16) rfl ?_); refine goesL_ (some 21) rfl rfl Tryd.func16 (by kernel_rfl) rfl #[.string a1, .string a2] rfl (by (try simp only [List.map_toArray, List.map_cons, List.map_nil]); first | done | rfl | (simp only [List.length_drop, List.length_take]; rfl)) ?_; (with_reducible refine (name_Under.calls kj5 a1 a2 false _ A12.out).mono ?_); rintro e w' ⟨rfl, ⟨nd, rfl⟩⟩; refine ⟨_, rfl, ?_⟩) | (go_at_call 16; (with_reducible refine (name_Under.calls kj5 a2 a1 true _ A22.out).mono ?_); rintro e w' ⟨rfl, ⟨nd, rfl⟩⟩) | (go_at_call 16; (with_reducible refine (name_Under.calls kj5 a1 a2 false _ A24.out).mono ?_); rintro e w' ⟨rfl, ⟨nd, rfl⟩⟩) | (go_at_call 20; (with_reducible refine (pinfoldlaw0_Num.calls 0 t149 _ A31.out).mono ?_); rintro e w' ⟨rfl, ⟨nd, rfl⟩⟩))
          go_ret
          exact ⟨by first | rfl | (simp [errW_none, errW_some] <;> rfl) | (simp [*, errW_none, errW_some] <;> rfl), by repeat (with_reducible first | exact HB.out | apply below_alloc | apply pw_below_drewN | apply below_drew1)⟩
        replace c23 := Bool.eq_false_iff.mpr c23
        subst c23
        have H1 : (some false) = some r := by rw [if_neg (show ¬ (false = true) by decide)] at H; exact H
        clear H
        have H := H1
        clear H1
        obtain rfl := Option.some.inj H
        go_wp2_with (first | ((with_reducible refine gate_callee (f := 16) rfl ?_); refine goesL_ (some 21) rfl rfl Tryd.func16 (by kernel_rfl) rfl #[.string a1, .string a2] rfl (by (try simp only [List.map_toArray, List.map_cons, List.map_nil]); first | done | rfl | (simp only [List.length_drop, List.length_take]; rfl)) ?_; (with_reducible refine (name_Under.calls kj5 a1 a2 false _ A12.out).mono ?_); rintro e w' ⟨rfl, ⟨nd, rfl⟩⟩; refine ⟨_, rfl, ?_⟩) | (go_at_call 16; (with_reducible refine (name_Under.calls kj5 a2 a1 false _ A22.out).mono ?_); rintro e w' ⟨rfl, ⟨nd, rfl⟩⟩))
        go_ret
        exact ⟨by first | rfl | (simp [errW_none, errW_some] <;> rfl) | (simp [*, errW_none, errW_some] <;> rfl), by repeat (with_reducible first | exact HB.out | apply below_alloc | apply pw_below_drewN | apply below_drew1)⟩
  replace c5 := Bool.eq_false_iff.mpr c5
  subst c5
  have H1 : (some false) = some r := by rw [if_neg (show ¬ (false = true) by decide)] at H; exact H
  clear H
  have H := H1
  clear H1
  obtain rfl := Option.some.inj H
  go_enter Tryd.func8, Tryd.ntmps8
  go_wp2_with (first | ((with_reducible refine gate_callee (f := 19) rfl ?_); refine goesL_ (some 7) rfl rfl Tryd.func19 (by kernel_rfl) rfl #[] rfl (by (try simp only [List.map_toArray, List.map_cons, List.map_nil]); first | done | rfl | (simp only [List.length_drop, List.length_take]; rfl)) ?_; (with_reducible refine (pinfoldlaw2_awake.calls k  false _ A4.out).mono ?_); rintro e w32 ⟨rfl, hb⟩; refine ⟨_, rfl, ?_⟩; have n0_ := Aside0.mk (below_step (by repeat (with_reducible first | exact HB.out | apply below_alloc | apply pw_below_drewN | apply below_drew1)) hb); clear HB; have HB := n0_; clear n0_; (try clear hb)))
  go_ret
  exact ⟨by first | rfl | (simp [errW_none, errW_some] <;> rfl) | (simp [*, errW_none, errW_some] <;> rfl), by repeat (with_reducible first | exact HB.out | apply below_alloc | apply pw_below_drewN | apply below_drew1)⟩

/-- THE ONE PURE STATEMENT of pinfoldlaw2_NameZones. -/
def pinfoldlaw2_NameZones.Pure : Prop := ∀ (a0 : ByteArray) (a1 : ByteArray) (a2 : ByteArray), a0.size ≤ 140737488351232 → a1.size ≤ 140737488351232 → a2.size ≤ 140737488351232 → ∃ k, pinfoldlaw2_NameZones.f k a0 a1 a2 = some true
theorem pinfoldlaw2_NameZones.walk (P : pinfoldlaw2_NameZones.Pure) (a0 : ByteArray) (a1 : ByteArray) (a2 : ByteArray) (w : World)  (w0 : a0.size ≤ 140737488351232) (w1 : a1.size ≤ 140737488351232) (w2 : a2.size ≤ 140737488351232) :
    Calls Tryd.prog 8 #[.string a0, .string a1, .string a2] w fun e w' => e = .returned (.bool true) ∧ Below w.heap.size w w' := by
  obtain ⟨k, h⟩ := P a0 a1 a2 w0 w1 w2
  refine (pinfoldlaw2_NameZones.calls k a0 a1 a2 true w  h).mono ?_
  rintro e w' ⟨rfl, hd⟩
  exact ⟨rfl, hd⟩

end Go.Proofs.YtfkgfjllgiblhaaDoor.PNameZones
