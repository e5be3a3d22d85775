-- Made by wip/pr.py out of the translation (a turned copy of the kit's print; contracts by hand where said).
import Derived.Test.YtfkgfjllgiblhaaDoorPNameUnderx0
import Derived.Test.YtfkgfjllgiblhaaDoorPNameUnderx1
import Derived.Test.YtfkgfjllgiblhaaDoorPNameUnderx2
namespace Go.Proofs.YtfkgfjllgiblhaaDoor.PNameUnder
open Go.RowKit Go.Proofs.YtfkgfjllgiblhaaDoorW.PrintWords Go.Proofs.YtfkgfjllgiblhaaDoorW.PrintLast Go.Proofs.YtfkgfjllgiblhaaDoorW.PrintMore
attribute [local go_sem] max2_int min2_int max_two min_two max_three min_three max_four min_four   -- for this text's walks alone
set_option linter.unusedVariables false
set_option linter.unusedSimpArgs false

/-! ### pinfoldlaw2_NameUnder: function 4 -/
mutual
def pinfoldlaw2_NameUnder.j0 : Nat → ByteArray → ByteArray → ByteArray → Bool → Option (Bool)
  | 0, _, _, _, _ => none
  | k + 1, x0, x1, x2, x24 => if x24 = true then ((name_Under.f k x0 x1).bind fun t139 => (if t139 = true then ((name_May.f k x0).bind fun t140 => (if t140 = true then ((name_May.f k x1).bind fun t141 => (some t141)) else (some false))) else (some true))) else ((name_Labels.f k x0).bind fun t142 => (pinfoldlaw2_NameUnder.l0 k x0 x1 x2 t142 (⟨#[]⟩ : ByteArray) (wrap64 ((t142.length : Int) - 1))))
def pinfoldlaw2_NameUnder.l0 : Nat → ByteArray → ByteArray → ByteArray → List ByteArray → ByteArray → Int → Option (Bool)
  | 0, _, _, _, _, _, _ => none
  | k + 1, x0, x1, x2, x7, x8, x9 => if x9 ≥ 0 then (if x8.toList = ([] : List UInt8) then (if 0 ≤ x9 then (if x9 < (x7.length : Int) then (pinfoldlaw2_NameUnder.j2 k x0 x1 x2 x7 (rdOf ByteArray.empty x7 x9) x9) else (none)) else (none)) else (if 0 ≤ x9 then (if x9 < (x7.length : Int) then (if (rdOf ByteArray.empty x7 x9).size + 1 ≤ 9223372036854775807 then (if ((rdOf ByteArray.empty x7 x9) ++ (⟨#[46]⟩ : ByteArray)).size + x8.size ≤ 9223372036854775807 then (pinfoldlaw2_NameUnder.j2 k x0 x1 x2 x7 (((rdOf ByteArray.empty x7 x9) ++ (⟨#[46]⟩ : ByteArray)) ++ x8) x9) else (none)) else (none)) else (none)) else (none))) else (if x8.toList = x0.toList then ((name_Under.f k x0 x0).bind fun t149 => (if t149 = true then ((name_Under.f k x0 (⟨#[]⟩ : ByteArray)).bind fun t150 => (if t150 = true then ((name_Fold.f x0).bind fun t151 => (if t151.toList = x0.toList then ((name_Under.f k x0 x1).bind fun t152 => (if t152 = true then ((name_Under.f k x1 x2).bind fun t153 => (if t153 = true then ((name_Under.f k x0 x2).bind fun t154 => (some t154)) else (some true))) else (some true))) else (some false))) else (some false))) else (some false))) else (some false))
def pinfoldlaw2_NameUnder.j2 : Nat → ByteArray → ByteArray → ByteArray → List ByteArray → ByteArray → Int → Option (Bool)
  | 0, _, _, _, _, _, _ => none
  | k + 1, x0, x1, x2, x7, x8, x9 => (name_Under.f k x0 x8).bind fun t147 => (if t147 = true then (if x8.toList = x0.toList then (pinfoldlaw2_NameUnder.l0 k x0 x1 x2 x7 x8 (wrap64 (x9 - 1))) else ((name_Under.f k x8 x0).bind fun t148 => (if t148 = true then (some false) else (pinfoldlaw2_NameUnder.l0 k x0 x1 x2 x7 x8 (wrap64 (x9 - 1)))))) else (some false))
end
def pinfoldlaw2_NameUnder.f (k : Nat) (a0 : ByteArray) (a1 : ByteArray) (a2 : ByteArray) : Option (Bool) := (pinfoldlaw2_awake.f k).bind fun t135 => (if t135 = true then ((name_May.f k a0).bind fun t136 => (if t136 = true then ((name_May.f k a1).bind fun t137 => (if t137 = true then ((name_May.f k a2).bind fun t138 => (pinfoldlaw2_NameUnder.j0 k a0 a1 a2 (!t138))) else (pinfoldlaw2_NameUnder.j0 k a0 a1 a2 true))) else (pinfoldlaw2_NameUnder.j0 k a0 a1 a2 true))) else (some false))
theorem pinfoldlaw2_NameUnder.mono_l : ∀ k, (∀ y0 y1 y2 y3, LeO (pinfoldlaw2_NameUnder.j0 k y0 y1 y2 y3) (pinfoldlaw2_NameUnder.j0 (k + 1) y0 y1 y2 y3)) ∧ (∀ y0 y1 y2 y3 y4 y5, LeO (pinfoldlaw2_NameUnder.l0 k y0 y1 y2 y3 y4 y5) (pinfoldlaw2_NameUnder.l0 (k + 1) y0 y1 y2 y3 y4 y5)) ∧ (∀ y0 y1 y2 y3 y4 y5, LeO (pinfoldlaw2_NameUnder.j2 k y0 y1 y2 y3 y4 y5) (pinfoldlaw2_NameUnder.j2 (k + 1) y0 y1 y2 y3 y4 y5))
  | 0 => ⟨fun _ _ _ _ r h => by simp [pinfoldlaw2_NameUnder.j0] at h, fun _ _ _ _ _ _ r h => by simp [pinfoldlaw2_NameUnder.l0] at h, fun _ _ _ _ _ _ r h => by simp [pinfoldlaw2_NameUnder.j2] at h⟩
  | k + 1 => by
    obtain ⟨ih0, ih1, ih2⟩ := pinfoldlaw2_NameUnder.mono_l k
    refine ⟨?_, ?_, ?_⟩
    · intro y0 y1 y2 y3
      unfold pinfoldlaw2_NameUnder.j0
      repeat' first
      | (with_reducible exact ih0 _ _ _ _)
      | (with_reducible exact ih1 _ _ _ _ _ _)
      | (with_reducible exact ih2 _ _ _ _ _ _)
      | (with_reducible exact name_Labels.mono _ _)
      | (with_reducible exact name_May.mono _ _)
      | (with_reducible exact name_Under.mono _ _ _)
      | (with_reducible exact pinfoldlaw2_awake.mono _)
      | (with_reducible exact LeO.refl _)
      | (with_reducible exact LeO.none _)
      | (with_reducible refine LeO.ite ?_ ?_)
      | (with_reducible refine LeO.bind ?_ (fun _ => ?_))
      | exact ih0 _ _ _ _
      | exact ih1 _ _ _ _ _ _
      | exact ih2 _ _ _ _ _ _
      | exact name_Labels.mono _ _
      | exact name_May.mono _ _
      | exact name_Under.mono _ _ _
      | exact pinfoldlaw2_awake.mono _
      | exact LeO.none _
      | refine LeO.ite ?_ ?_
      | refine LeO.bind ?_ (fun _ => ?_)
    · intro y0 y1 y2 y3 y4 y5
      unfold pinfoldlaw2_NameUnder.l0
      repeat' first
      | (with_reducible exact ih0 _ _ _ _)
      | (with_reducible exact ih1 _ _ _ _ _ _)
      | (with_reducible exact ih2 _ _ _ _ _ _)
      | (with_reducible exact name_Labels.mono _ _)
      | (with_reducible exact name_May.mono _ _)
      | (with_reducible exact name_Under.mono _ _ _)
      | (with_reducible exact pinfoldlaw2_awake.mono _)
      | (with_reducible exact LeO.refl _)
      | (with_reducible exact LeO.none _)
      | (with_reducible refine LeO.ite ?_ ?_)
      | (with_reducible refine LeO.bind ?_ (fun _ => ?_))
      | exact ih0 _ _ _ _
      | exact ih1 _ _ _ _ _ _
      | exact ih2 _ _ _ _ _ _
      | exact name_Labels.mono _ _
      | exact name_May.mono _ _
      | exact name_Under.mono _ _ _
      | exact pinfoldlaw2_awake.mono _
      | exact LeO.none _
      | refine LeO.ite ?_ ?_
      | refine LeO.bind ?_ (fun _ => ?_)
    · intro y0 y1 y2 y3 y4 y5
      unfold pinfoldlaw2_NameUnder.j2
      repeat' first
      | (with_reducible exact ih0 _ _ _ _)
      | (with_reducible exact ih1 _ _ _ _ _ _)
      | (with_reducible exact ih2 _ _ _ _ _ _)
      | (with_reducible exact name_Labels.mono _ _)
      | (with_reducible exact name_May.mono _ _)
      | (with_reducible exact name_Under.mono _ _ _)
      | (with_reducible exact pinfoldlaw2_awake.mono _)
      | (with_reducible exact LeO.refl _)
      | (with_reducible exact LeO.none _)
      | (with_reducible refine LeO.ite ?_ ?_)
      | (with_reducible refine LeO.bind ?_ (fun _ => ?_))
      | exact ih0 _ _ _ _
      | exact ih1 _ _ _ _ _ _
      | exact ih2 _ _ _ _ _ _
      | exact name_Labels.mono _ _
      | exact name_May.mono _ _
      | exact name_Under.mono _ _ _
      | exact pinfoldlaw2_awake.mono _
      | exact LeO.none _
      | refine LeO.ite ?_ ?_
      | refine LeO.bind ?_ (fun _ => ?_)
theorem pinfoldlaw2_NameUnder.mono : ∀ a0 a1 a2 k, LeO (pinfoldlaw2_NameUnder.f k a0 a1 a2) (pinfoldlaw2_NameUnder.f (k + 1) a0 a1 a2) := by
  intro a0 a1 a2 k
  obtain ⟨ih0, ih1, ih2⟩ := pinfoldlaw2_NameUnder.mono_l k
  unfold pinfoldlaw2_NameUnder.f
  repeat' first
      | (with_reducible exact ih0 _ _ _ _)
      | (with_reducible exact ih1 _ _ _ _ _ _)
      | (with_reducible exact ih2 _ _ _ _ _ _)
      | (with_reducible exact name_Labels.mono _ _)
      | (with_reducible exact name_May.mono _ _)
      | (with_reducible exact name_Under.mono _ _ _)
      | (with_reducible exact pinfoldlaw2_awake.mono _)
      | (with_reducible exact LeO.refl _)
      | (with_reducible exact LeO.none _)
      | (with_reducible refine LeO.ite ?_ ?_)
      | (with_reducible refine LeO.bind ?_ (fun _ => ?_))
      | exact ih0 _ _ _ _
      | exact ih1 _ _ _ _ _ _
      | exact ih2 _ _ _ _ _ _
      | exact name_Labels.mono _ _
      | exact name_May.mono _ _
      | exact name_Under.mono _ _ _
      | exact pinfoldlaw2_awake.mono _
      | exact LeO.none _
      | refine LeO.ite ?_ ?_
      | refine LeO.bind ?_ (fun _ => ?_)
set_option maxHeartbeats 8000000 in
set_option maxRecDepth 100000 in
theorem pinfoldlaw2_NameUnder.calls (k : Nat) (a0 : ByteArray) (a1 : ByteArray) (a2 : ByteArray) (r : Bool) (w : World) (h : pinfoldlaw2_NameUnder.f k a0 a1 a2 = some r) :
    Calls Tryd.prog 4 #[.string a0, .string a1, .string a2] w fun e w' => e = .returned (.bool r) ∧ Below w.heap.size w w' := by
  have HB := Aside0.mk (Below.refl w.heap.size w)
  have H : ((pinfoldlaw2_awake.f k).bind fun t135 => (if t135 = true then ((name_May.f k a0).bind fun t136 => (if t136 = true then ((name_May.f k a1).bind fun t137 => (if t137 = true then ((name_May.f k a2).bind fun t138 => (pinfoldlaw2_NameUnder.j0 k a0 a1 a2 (!t138))) else (pinfoldlaw2_NameUnder.j0 k a0 a1 a2 true))) else (pinfoldlaw2_NameUnder.j0 k a0 a1 a2 true))) else (some false))) = some r := h
  clear h
  replace H := Option.bind_eq_some_iff.mp H
  obtain ⟨t135, A40, H⟩ := H
  replace H : (if t135 = true then ((name_May.f k a0).bind fun t136 => (if t136 = true then ((name_May.f k a1).bind fun t137 => (if t137 = true then ((name_May.f k a2).bind fun t138 => (pinfoldlaw2_NameUnder.j0 k a0 a1 a2 (!t138))) else (pinfoldlaw2_NameUnder.j0 k a0 a1 a2 true))) else (pinfoldlaw2_NameUnder.j0 k a0 a1 a2 true))) else (some false)) = some r := H
  have A4 := Aside0.mk A40
  clear A40
  by_cases c5 : t135 = true
  · subst c5
    have H1 : ((name_May.f k a0).bind fun t136 => (if t136 = true then ((name_May.f k a1).bind fun t137 => (if t137 = true then ((name_May.f k a2).bind fun t138 => (pinfoldlaw2_NameUnder.j0 k a0 a1 a2 (!t138))) else (pinfoldlaw2_NameUnder.j0 k a0 a1 a2 true))) else (pinfoldlaw2_NameUnder.j0 k a0 a1 a2 true))) = some r := by rw [if_pos rfl] at H; exact H
    clear H
    have H := H1
    clear H1
    have HC6 := Aside0.mk H
    clear H
    go_enter Tryd.func4, Tryd.ntmps4
    go_upto_region 3 with (first | ((with_reducible refine gate_callee (f := 19) rfl ?_); refine goesL_ (some 10) rfl rfl Tryd.func19 (by kernel_rfl) rfl #[] rfl (by (try simp only [List.map_toArray, List.map_cons, List.map_nil]); first | done | rfl | (simp only [List.length_drop, List.length_take]; rfl)) ?_; (with_reducible refine (pinfoldlaw2_awake.calls k  true _ A4.out).mono ?_); rintro e w7 ⟨rfl, hb⟩; refine ⟨_, rfl, ?_⟩; have n0_ := Aside0.mk (below_step (by repeat (with_reducible first | exact HB.out | apply below_alloc | apply pw_below_drewN | apply below_drew1)) hb); clear HB; have HB := n0_; clear n0_; (try clear hb)))
    (try simp only [Act.put, List.setIfInBounds_toArray, List.set_cons_zero, List.set_cons_succ])
    go_cut [24] (fun v24 wc => ∃ (kq : Nat) (x24_5 : Bool), v24 = .bool x24_5 ∧ Aside0 (pinfoldlaw2_NameUnder.j0 kq a0 a1 a2 x24_5 = some r) ∧ Aside0 (kq ≤ k) ∧ Aside0 (Below w.heap.size w wc))
    case first =>
      have H := HC6.out
      clear HC6
      replace H := Option.bind_eq_some_iff.mp H
      obtain ⟨t136, A80, H⟩ := H
      replace H : (if t136 = true then ((name_May.f k a1).bind fun t137 => (if t137 = true then ((name_May.f k a2).bind fun t138 => (pinfoldlaw2_NameUnder.j0 k a0 a1 a2 (!t138))) else (pinfoldlaw2_NameUnder.j0 k a0 a1 a2 true))) else (pinfoldlaw2_NameUnder.j0 k a0 a1 a2 true)) = some r := H
      have A8 := Aside0.mk A80
      clear A80
      by_cases c9 : t136 = true
      · subst c9
        have H1 : ((name_May.f k a1).bind fun t137 => (if t137 = true then ((name_May.f k a2).bind fun t138 => (pinfoldlaw2_NameUnder.j0 k a0 a1 a2 (!t138))) else (pinfoldlaw2_NameUnder.j0 k a0 a1 a2 true))) = some r := by rw [if_pos rfl] at H; exact H
        clear H
        have H := H1
        clear H1
        replace H := Option.bind_eq_some_iff.mp H
        obtain ⟨t137, A100, H⟩ := H
        replace H : (if t137 = true then ((name_May.f k a2).bind fun t138 => (pinfoldlaw2_NameUnder.j0 k a0 a1 a2 (!t138))) else (pinfoldlaw2_NameUnder.j0 k a0 a1 a2 true)) = some r := H
        have A10 := Aside0.mk A100
        clear A100
        by_cases c11 : t137 = true
        · subst c11
          have H1 : ((name_May.f k a2).bind fun t138 => (pinfoldlaw2_NameUnder.j0 k a0 a1 a2 (!t138))) = some r := by rw [if_pos rfl] at H; exact H
          clear H
          have H := H1
          clear H1
          replace H := Option.bind_eq_some_iff.mp H
          obtain ⟨t138, A120, H⟩ := H
          replace H : (pinfoldlaw2_NameUnder.j0 k a0 a1 a2 (!t138)) = some r := H
          have A12 := Aside0.mk A120
          clear A120
          have H' := Aside0.mk H
          clear H
          go_wp2_with (first | ((with_reducible refine gate_callee (f := 10) rfl ?_); refine goesL_ (some 13) rfl rfl Tryd.func10 (by kernel_rfl) rfl #[.string a0] rfl (by (try simp only [List.map_toArray, List.map_cons, List.map_nil]); first | done | rfl | (simp only [List.length_drop, List.length_take]; rfl)) ?_; (with_reducible refine (name_May.calls k a0 true _ A8.out).mono ?_); rintro e w' ⟨rfl, ⟨nd, rfl⟩⟩; refine ⟨_, rfl, ?_⟩) | (go_at_call 10; (with_reducible refine (name_May.calls k a1 true _ A10.out).mono ?_); rintro e w' ⟨rfl, ⟨nd, rfl⟩⟩) | (go_at_call 10; (with_reducible refine (name_May.calls k a2 t138 _ A12.out).mono ?_); rintro e w' ⟨rfl, ⟨nd, rfl⟩⟩))
          go_meet
          case rel => exact ⟨_, (!t138), (by first | rfl | (simp; done) | (simp [*]; done) | (simp only [str_ne_]; rfl) | (simp only [str_eq_]; rfl)), H', ⟨by first | omega | exact Nat.le_refl _⟩, ⟨by repeat (with_reducible first | exact HB.out | apply below_alloc | apply pw_below_drewN | apply below_drew1)⟩⟩
        replace c11 := Bool.eq_false_iff.mpr c11
        subst c11
        have H1 : (pinfoldlaw2_NameUnder.j0 k a0 a1 a2 true) = some r := by rw [if_neg (show ¬ (false = true) by decide)] at H; exact H
        clear H
        have H := H1
        clear H1
        have H' := Aside0.mk H
        clear H
        go_wp2_with (first | ((with_reducible refine gate_callee (f := 10) rfl ?_); refine goesL_ (some 13) rfl rfl Tryd.func10 (by kernel_rfl) rfl #[.string a0] rfl (by (try simp only [List.map_toArray, List.map_cons, List.map_nil]); first | done | rfl | (simp only [List.length_drop, List.length_take]; rfl)) ?_; (with_reducible refine (name_May.calls k a0 true _ A8.out).mono ?_); rintro e w' ⟨rfl, ⟨nd, rfl⟩⟩; refine ⟨_, rfl, ?_⟩) | (go_at_call 10; (with_reducible refine (name_May.calls k a1 false _ A10.out).mono ?_); rintro e w' ⟨rfl, ⟨nd, rfl⟩⟩))
        go_meet
        case rel => exact ⟨_, (true), (by first | rfl | (simp; done) | (simp [*]; done) | (simp only [str_ne_]; rfl) | (simp only [str_eq_]; rfl)), H', ⟨by first | omega | exact Nat.le_refl _⟩, ⟨by repeat (with_reducible first | exact HB.out | apply below_alloc | apply pw_below_drewN | apply below_drew1)⟩⟩
      replace c9 := Bool.eq_false_iff.mpr c9
      subst c9
      have H1 : (pinfoldlaw2_NameUnder.j0 k a0 a1 a2 true) = some r := by rw [if_neg (show ¬ (false = true) by decide)] at H; exact H
      clear H
      have H := H1
      clear H1
      have H' := Aside0.mk H
      clear H
      go_wp2_with (first | ((with_reducible refine gate_callee (f := 10) rfl ?_); refine goesL_ (some 13) rfl rfl Tryd.func10 (by kernel_rfl) rfl #[.string a0] rfl (by (try simp only [List.map_toArray, List.map_cons, List.map_nil]); first | done | rfl | (simp only [List.length_drop, List.length_take]; rfl)) ?_; (with_reducible refine (name_May.calls k a0 false _ A8.out).mono ?_); rintro e w' ⟨rfl, ⟨nd, rfl⟩⟩; refine ⟨_, rfl, ?_⟩))
      go_meet
      case rel => exact ⟨_, (true), (by first | rfl | (simp; done) | (simp [*]; done) | (simp only [str_ne_]; rfl) | (simp only [str_eq_]; rfl)), H', ⟨by first | omega | exact Nat.le_refl _⟩, ⟨by repeat (with_reducible first | exact HB.out | apply below_alloc | apply pw_below_drewN | apply below_drew1)⟩⟩
    case rest =>
      clear HC6
      try clear c5
      obtain ⟨kq, x24_5, rfl, HA, HJ5, HB⟩ := hcut
      cases kq with
      | zero => exact absurd HA.out (by simp [pinfoldlaw2_NameUnder.j0])
      | succ kj5 =>
        have H := HA.out
        clear HA
        simp only [pinfoldlaw2_NameUnder.j0] at H
        by_cases c13 : x24_5 = true
        · subst c13
          have H1 : ((name_Under.f kj5 a0 a1).bind fun t139 => (if t139 = true then ((name_May.f kj5 a0).bind fun t140 => (if t140 = true then ((name_May.f kj5 a1).bind fun t141 => (some t141)) else (some false))) else (some true))) = some r := by rw [if_pos rfl] at H; exact H
          clear H
          have H := H1
          clear H1
          replace H := Option.bind_eq_some_iff.mp H
          obtain ⟨t139, A140, H⟩ := H
          replace H : (if t139 = true then ((name_May.f kj5 a0).bind fun t140 => (if t140 = true then ((name_May.f kj5 a1).bind fun t141 => (some t141)) else (some false))) else (some true)) = some r := H
          have A14 := Aside0.mk A140
          clear A140
          by_cases c15 : t139 = true
          · subst c15
            have H1 : ((name_May.f kj5 a0).bind fun t140 => (if t140 = true then ((name_May.f kj5 a1).bind fun t141 => (some t141)) else (some false))) = some r := by rw [if_pos rfl] at H; exact H
            clear H
            have H := H1
            clear H1
            replace H := Option.bind_eq_some_iff.mp H
            obtain ⟨t140, A160, H⟩ := H
            replace H : (if t140 = true then ((name_May.f kj5 a1).bind fun t141 => (some t141)) else (some false)) = some r := H
            have A16 := Aside0.mk A160
            clear A160
            by_cases c17 : t140 = true
            · subst c17
              have H1 : ((name_May.f kj5 a1).bind fun t141 => (some t141)) = some r := by rw [if_pos rfl] at H; exact H
              clear H
              have H := H1
              clear H1
              replace H := Option.bind_eq_some_iff.mp H
              obtain ⟨t141, A180, H⟩ := H
              replace H : (some t141) = some r := H
              have A18 := Aside0.mk A180
              clear A180
              obtain rfl := Option.some.inj H
              go_wp2_with (first | ((with_reducible refine gate_callee (f := 16) rfl ?_); refine goesL_ (some 27) rfl rfl Tryd.func16 (by kernel_rfl) rfl #[.string a0, .string a1] rfl (by (try simp only [List.map_toArray, List.map_cons, List.map_nil]); first | done | rfl | (simp only [List.length_drop, List.length_take]; rfl)) ?_; (with_reducible refine (name_Under.calls kj5 a0 a1 true _ A14.out).mono ?_); rintro e w' ⟨rfl, ⟨nd, rfl⟩⟩; refine ⟨_, rfl, ?_⟩) | (go_at_call 10; (with_reducible refine (name_May.calls kj5 a0 true _ A16.out).mono ?_); rintro e w' ⟨rfl, ⟨nd, rfl⟩⟩) | (go_at_call 10; (with_reducible refine (name_May.calls kj5 a1 t141 _ A18.out).mono ?_); rintro e w' ⟨rfl, ⟨nd, rfl⟩⟩))
              go_ret
              exact ⟨by first | rfl | (simp [errW_none, errW_some] <;> rfl) | (simp [*, errW_none, errW_some] <;> rfl) | (simp only [str_ne_]; rfl) | (simp only [str_eq_]; rfl), by repeat (with_reducible first | exact HB.out | apply below_alloc | apply pw_below_drewN | apply below_drew1)⟩
            replace c17 := Bool.eq_false_iff.mpr c17
            subst c17
            have H1 : (some false) = some r := by rw [if_neg (show ¬ (false = true) by decide)] at H; exact H
            clear H
            have H := H1
            clear H1
            obtain rfl := Option.some.inj H
            go_wp2_with (first | ((with_reducible refine gate_callee (f := 16) rfl ?_); refine goesL_ (some 27) rfl rfl Tryd.func16 (by kernel_rfl) rfl #[.string a0, .string a1] rfl (by (try simp only [List.map_toArray, List.map_cons, List.map_nil]); first | done | rfl | (simp only [List.length_drop, List.length_take]; rfl)) ?_; (with_reducible refine (name_Under.calls kj5 a0 a1 true _ A14.out).mono ?_); rintro e w' ⟨rfl, ⟨nd, rfl⟩⟩; refine ⟨_, rfl, ?_⟩) | (go_at_call 10; (with_reducible refine (name_May.calls kj5 a0 false _ A16.out).mono ?_); rintro e w' ⟨rfl, ⟨nd, rfl⟩⟩))
            go_ret
            exact ⟨by first | rfl | (simp [errW_none, errW_some] <;> rfl) | (simp [*, errW_none, errW_some] <;> rfl) | (simp only [str_ne_]; rfl) | (simp only [str_eq_]; rfl), by repeat (with_reducible first | exact HB.out | apply below_alloc | apply pw_below_drewN | apply below_drew1)⟩
          replace c15 := Bool.eq_false_iff.mpr c15
          subst c15
          have H1 : (some true) = some r := by rw [if_neg (show ¬ (false = true) by decide)] at H; exact H
          clear H
          have H := H1
          clear H1
          obtain rfl := Option.some.inj H
          go_wp2_with (first | ((with_reducible refine gate_callee (f := 16) rfl ?_); refine goesL_ (some 27) rfl rfl Tryd.func16 (by kernel_rfl) rfl #[.string a0, .string a1] rfl (by (try simp only [List.map_toArray, List.map_cons, List.map_nil]); first | done | rfl | (simp only [List.length_drop, List.length_take]; rfl)) ?_; (with_reducible refine (name_Under.calls kj5 a0 a1 false _ A14.out).mono ?_); rintro e w' ⟨rfl, ⟨nd, rfl⟩⟩; refine ⟨_, rfl, ?_⟩))
          go_ret
          exact ⟨by first | rfl | (simp [errW_none, errW_some] <;> rfl) | (simp [*, errW_none, errW_some] <;> rfl) | (simp only [str_ne_]; rfl) | (simp only [str_eq_]; rfl), by repeat (with_reducible first | exact HB.out | apply below_alloc | apply pw_below_drewN | apply below_drew1)⟩
        replace c13 := Bool.eq_false_iff.mpr c13
        subst c13
        have H1 : ((name_Labels.f kj5 a0).bind fun t142 => (pinfoldlaw2_NameUnder.l0 kj5 a0 a1 a2 t142 (⟨#[]⟩ : ByteArray) (wrap64 ((t142.length : Int) - 1)))) = some r := by rw [if_neg (show ¬ (false = true) by decide)] at H; exact H
        clear H
        have H := H1
        clear H1
        replace H := Option.bind_eq_some_iff.mp H
        obtain ⟨t142, A190, H⟩ := H
        replace H : (pinfoldlaw2_NameUnder.l0 kj5 a0 a1 a2 t142 (⟨#[]⟩ : ByteArray) (wrap64 ((t142.length : Int) - 1))) = some r := H
        have A19 := Aside0.mk A190
        clear A190
        have H' := Aside0.mk H
        clear H
        go_wp2_with (first | ((with_reducible refine gate_callee (f := 9) rfl ?_); refine goesL_ (some 38) rfl rfl Tryd.func9 (by kernel_rfl) rfl #[.string a0] rfl (by (try simp only [List.map_toArray, List.map_cons, List.map_nil]); first | done | rfl | (simp only [List.length_drop, List.length_take]; rfl)) ?_; (with_reducible refine (name_Labels.calls kj5 a0 t142 _ A19.out).mono ?_); rintro e w20 ⟨v143, rfl, ho0, hb⟩; refine ⟨_, rfl, ?_⟩; have n0_ := Aside0.mk (Kd.R_lower ho0 (below_size (by repeat (with_reducible first | exact HB.out | apply below_alloc | apply pw_below_drewN | apply below_drew1)))); have n1_ := Aside0.mk (below_step (by repeat (with_reducible first | exact HB.out | apply below_alloc | apply pw_below_drewN | apply below_drew1)) hb); clear HB; have HO144 := n0_; have HB := n1_; clear n0_ n1_; (try clear hb); (try clear ho0); obtain ⟨Ao21, co21, eo21⟩ := Kd.R_slice HO144.out; subst eo21))
        go_loopg [8, 9] kj5 (fun kq v8 v9 w' => ∃ (x8_2 : ByteArray) (x9_2 : Int), v8 = .string x8_2 ∧ v9 = .int .i64 x9_2 ∧ Aside0 (pinfoldlaw2_NameUnder.l0 kq a0 a1 a2 t142 x8_2 x9_2 = some r) ∧ Aside0 (kq ≤ kj5) ∧ Aside0 (Kd.R Kd.string 9 w' w.heap.size (fun _ => True) (.slice Ao21 t142.length co21) t142) ∧ Aside0 (Below w.heap.size w w'))
        case atStart => exact ⟨((⟨#[]⟩ : ByteArray)), (wrap64 ((t142.length : Int) - 1)), (by first | rfl | (simp; done) | (simp [*]; done) | (simp only [str_ne_]; rfl) | (simp only [str_eq_]; rfl)), (by first | rfl | (simp; done) | (simp [*]; done) | (simp only [str_ne_]; rfl) | (simp only [str_eq_]; rfl)), H', ⟨Nat.le_refl _⟩, ⟨by (with_reducible repeat (first | apply Kd.R_alloc | apply Kd.R_drewN | apply Kd.R_drew)); exact HO144.out⟩, ⟨by repeat (with_reducible first | exact HB.out | apply below_alloc | apply pw_below_drewN | apply below_drew1)⟩⟩
        case round =>
          clear H'
          (try clear c5); (try clear c13)
          obtain ⟨x8_2, x9_2, rfl, rfl, HA, HK2, HO_7, HB⟩ := hrel
          cases gk with
          | zero => exact absurd HA.out (by simp [pinfoldlaw2_NameUnder.l0])
          | succ k2 =>
            have H := HA.out
            clear HA
            simp only [pinfoldlaw2_NameUnder.l0] at H
            by_cases c22 : x9_2 ≥ 0
            · rw [if_pos c22] at H
              have c22b0 : decide (0 ≤ x9_2) = true := decide_eq_true c22
              clear c22
              have HC23 := Aside0.mk H
              clear H
              go_upto_if 47 with (fail)
              go_cut [8] (fun v8 wc => ∃ (kq : Nat) (x8_22 : ByteArray), v8 = .string x8_22 ∧ Aside0 (pinfoldlaw2_NameUnder.j2 kq a0 a1 a2 t142 x8_22 x9_2 = some r) ∧ Aside0 (kq ≤ k2) ∧ Aside0 (Kd.R Kd.string 9 wc w.heap.size (fun _ => True) (.slice Ao21 t142.length co21) t142) ∧ Aside0 (Below w.heap.size w wc))
              case first =>
                have H := HC23.out
                clear HC23
                by_cases c24 : x8_2.toList = ([] : List UInt8)
                · rw [if_pos c24] at H
                  have c24b0 : (x8_2.toList == ([] : List UInt8)) = true := beq_iff_eq.mpr c24
                  have c24b1 : (x8_2.toList != ([] : List UInt8)) = false := bne_eq_false_iff_eq.mpr c24
                  have c24b9 : (x8_2.toList).isEmpty = true := by rw [List.isEmpty_iff]; exact c24
                  clear c24
                  (first | rw [c24b0] | (simp only [i64_w, i32_w]; rw [c24b0]) | skip)
                  by_cases c25 : 0 ≤ x9_2
                  rotate_left
                  · rw [if_neg c25] at H
                    exact absurd H (by simp)
                  rw [if_pos c25] at H
                  have c25b0 : decide (0 ≤ x9_2) = true := decide_eq_true c25
                  clear c25
                  by_cases c26 : x9_2 < (t142.length : Int)
                  rotate_left
                  · rw [if_neg c26] at H
                    exact absurd H (by simp)
                  rw [if_pos c26] at H
                  have c26b0 : decide (x9_2 < (t142.length : Int)) = true := decide_eq_true c26
                  clear c26
                  have H' := Aside0.mk H
                  clear H
                  have p145 : 0 ≤ (x9_2 : Int) := of_decide_eq_true (by first | (with_reducible assumption) | assumption)
                  have q145 : x9_2 < (t142.length : Int) := of_decide_eq_true (by first | (with_reducible assumption) | assumption)
                  obtain ⟨ad145, e145, hx145_0⟩ := Kd.at_string (Kd.R_reads' HO_7.out).2.2 x9_2 p145 q145
                  cases e145
                  replace p145 := eq_true p145
                  replace q145 := eq_true q145
                  go_wp2
                  (try any_goals (exact absurd ‹x8_2.toList.isEmpty = false› (by rw [c24b9]; decide))); (try any_goals (exact absurd ‹x8_2.toList.isEmpty = true› (by rw [c24b9]; decide)))
                  go_meet
                  case rel => exact ⟨_, (rdOf ByteArray.empty t142 x9_2), (by first | rfl | (simp; done) | (simp [*]; done) | (simp only [str_ne_]; rfl) | (simp only [str_eq_]; rfl)), H', ⟨by have := HJ5.out; have := HK2.out; first | omega | exact Nat.le_refl _⟩, ⟨by (with_reducible repeat (first | apply Kd.R_alloc | apply Kd.R_drewN | apply Kd.R_drew)); exact HO_7.out⟩, ⟨by repeat (with_reducible first | exact HB.out | apply below_alloc | apply pw_below_drewN | apply below_drew1)⟩⟩
                rw [if_neg c24] at H
                have c24b0 : (x8_2.toList == ([] : List UInt8)) = false := beq_eq_false_iff_ne.mpr c24
                have c24b1 : (x8_2.toList != ([] : List UInt8)) = true := bne_iff_ne.mpr c24
                have c24b9 : (x8_2.toList).isEmpty = false := by rw [Bool.eq_false_iff, ne_eq, List.isEmpty_iff]; exact c24
                (first | rw [c24b0] | (simp only [i64_w, i32_w]; rw [c24b0]) | skip)
                by_cases c27 : 0 ≤ x9_2
                rotate_left
                · rw [if_neg c27] at H
                  exact absurd H (by simp)
                rw [if_pos c27] at H
                have c27b0 : decide (0 ≤ x9_2) = true := decide_eq_true c27
                clear c27
                by_cases c28 : x9_2 < (t142.length : Int)
                rotate_left
                · rw [if_neg c28] at H
                  exact absurd H (by simp)
                rw [if_pos c28] at H
                have c28b0 : decide (x9_2 < (t142.length : Int)) = true := decide_eq_true c28
                clear c28
                by_cases c29 : (rdOf ByteArray.empty t142 x9_2).size + 1 ≤ 9223372036854775807
                rotate_left
                · rw [if_neg c29] at H
                  exact absurd H (by simp)
                rw [if_pos c29] at H
                have c29b0 := eq_true c29
                have c29b1 : decide ((rdOf ByteArray.empty t142 x9_2).size + 1 ≤ 9223372036854775807) = true := decide_eq_true c29
                try have c29b2 : (9223372036854775807 < (rdOf ByteArray.empty t142 x9_2).size + 1) = False := eq_false (Nat.not_lt.2 c29)
                by_cases c30 : ((rdOf ByteArray.empty t142 x9_2) ++ (⟨#[46]⟩ : ByteArray)).size + x8_2.size ≤ 9223372036854775807
                rotate_left
                · rw [if_neg c30] at H
                  exact absurd H (by simp)
                rw [if_pos c30] at H
                have c30b0 := eq_true c30
                have c30b1 : decide (((rdOf ByteArray.empty t142 x9_2) ++ (⟨#[46]⟩ : ByteArray)).size + x8_2.size ≤ 9223372036854775807) = true := decide_eq_true c30
                try have c30b2 : (9223372036854775807 < ((rdOf ByteArray.empty t142 x9_2) ++ (⟨#[46]⟩ : ByteArray)).size + x8_2.size) = False := eq_false (Nat.not_lt.2 c30)
                have H' := Aside0.mk H
                clear H
                have p146 : 0 ≤ (x9_2 : Int) := of_decide_eq_true (by first | (with_reducible assumption) | assumption)
                have q146 : x9_2 < (t142.length : Int) := of_decide_eq_true (by first | (with_reducible assumption) | assumption)
                obtain ⟨ad146, e146, hx146_0⟩ := Kd.at_string (Kd.R_reads' HO_7.out).2.2 x9_2 p146 q146
                cases e146
                replace p146 := eq_true p146
                replace q146 := eq_true q146
                go_wp2
                (try any_goals (exact absurd ‹x8_2.toList.isEmpty = false› (by rw [c24b9]; decide))); (try any_goals (exact absurd ‹x8_2.toList.isEmpty = true› (by rw [c24b9]; decide)))
                go_meet
                case rel => exact ⟨_, (((rdOf ByteArray.empty t142 x9_2) ++ (⟨#[46]⟩ : ByteArray)) ++ x8_2), (by first | rfl | (simp; done) | (simp [*]; done) | (simp only [str_ne_]; rfl) | (simp only [str_eq_]; rfl)), H', ⟨by have := HJ5.out; have := HK2.out; first | omega | exact Nat.le_refl _⟩, ⟨by (with_reducible repeat (first | apply Kd.R_alloc | apply Kd.R_drewN | apply Kd.R_drew)); exact HO_7.out⟩, ⟨by repeat (with_reducible first | exact HB.out | apply below_alloc | apply pw_below_drewN | apply below_drew1)⟩⟩
              case rest =>
                clear HC23
                (try clear c5); (try clear c13); (try clear c22); (try clear c22b0)
                obtain ⟨kq, x8_22, rfl, HA, HJ22, HO_7, HB⟩ := hcut
                cases kq with
                | zero => exact absurd HA.out (by simp [pinfoldlaw2_NameUnder.j2])
                | succ kj22 =>
                  have H := HA.out
                  clear HA
                  simp only [pinfoldlaw2_NameUnder.j2] at H
                  replace H := Option.bind_eq_some_iff.mp H
                  obtain ⟨t147, A310, H⟩ := H
                  replace H : (if t147 = true then (if x8_22.toList = a0.toList then (pinfoldlaw2_NameUnder.l0 kj22 a0 a1 a2 t142 x8_22 (wrap64 (x9_2 - 1))) else ((name_Under.f kj22 x8_22 a0).bind fun t148 => (if t148 = true then (some false) else (pinfoldlaw2_NameUnder.l0 kj22 a0 a1 a2 t142 x8_22 (wrap64 (x9_2 - 1)))))) else (some false)) = some r := H
                  have A31 := Aside0.mk A310
                  clear A310
                  by_cases c32 : t147 = true
                  · subst c32
                    have H1 : (if x8_22.toList = a0.toList then (pinfoldlaw2_NameUnder.l0 kj22 a0 a1 a2 t142 x8_22 (wrap64 (x9_2 - 1))) else ((name_Under.f kj22 x8_22 a0).bind fun t148 => (if t148 = true then (some false) else (pinfoldlaw2_NameUnder.l0 kj22 a0 a1 a2 t142 x8_22 (wrap64 (x9_2 - 1)))))) = some r := by rw [if_pos rfl] at H; exact H
                    clear H
                    have H := H1
                    clear H1
                    by_cases c33 : x8_22.toList = a0.toList
                    · rw [if_pos c33] at H
                      have c33b0 : (x8_22.toList == a0.toList) = true := beq_iff_eq.mpr c33
                      have c33b1 : (x8_22.toList != a0.toList) = false := bne_eq_false_iff_eq.mpr c33
                      clear c33
                      have H' := Aside0.mk H
                      clear H
                      go_wp2_with (first | ((with_reducible refine gate_callee (f := 16) rfl ?_); refine goesL_ (some 61) rfl rfl Tryd.func16 (by kernel_rfl) rfl #[.string a0, .string x8_22] rfl (by (try simp only [List.map_toArray, List.map_cons, List.map_nil]); first | done | rfl | (simp only [List.length_drop, List.length_take]; rfl)) ?_; (with_reducible refine (name_Under.calls kj22 a0 x8_22 true _ A31.out).mono ?_); rintro e w' ⟨rfl, ⟨nd, rfl⟩⟩; refine ⟨_, rfl, ?_⟩))
                      go_roundg kj22
                      case measure => have := HJ5.out; have := HK2.out; have := HJ22.out; omega
                      case rel => exact ⟨(x8_22), (wrap64 (x9_2 - 1)), (by first | rfl | (simp; done) | (simp [*]; done) | (simp only [str_ne_]; rfl) | (simp only [str_eq_]; rfl)), (by first | rfl | (simp; done) | (simp [*]; done) | (simp only [str_ne_]; rfl) | (simp only [str_eq_]; rfl)), H', ⟨by have := HJ5.out; have := HK2.out; have := HJ22.out; omega⟩, ⟨by (with_reducible repeat (first | apply Kd.R_alloc | apply Kd.R_drewN | apply Kd.R_drew)); exact HO_7.out⟩, ⟨by repeat (with_reducible first | exact HB.out | apply below_alloc | apply pw_below_drewN | apply below_drew1)⟩⟩
                    rw [if_neg c33] at H
                    have c33b0 : (x8_22.toList == a0.toList) = false := beq_eq_false_iff_ne.mpr c33
                    have c33b1 : (x8_22.toList != a0.toList) = true := bne_iff_ne.mpr c33
                    replace H := Option.bind_eq_some_iff.mp H
                    obtain ⟨t148, A340, H⟩ := H
                    replace H : (if t148 = true then (some false) else (pinfoldlaw2_NameUnder.l0 kj22 a0 a1 a2 t142 x8_22 (wrap64 (x9_2 - 1)))) = some r := H
                    have A34 := Aside0.mk A340
                    clear A340
                    by_cases c35 : t148 = true
                    · subst c35
                      have H1 : (some false) = some r := by rw [if_pos rfl] at H; exact H
                      clear H
                      have H := H1
                      clear H1
                      obtain rfl := Option.some.inj H
                      go_wp2_with (first | ((with_reducible refine gate_callee (f := 16) rfl ?_); refine goesL_ (some 61) rfl rfl Tryd.func16 (by kernel_rfl) rfl #[.string a0, .string x8_22] rfl (by (try simp only [List.map_toArray, List.map_cons, List.map_nil]); first | done | rfl | (simp only [List.length_drop, List.length_take]; rfl)) ?_; (with_reducible refine (name_Under.calls kj22 a0 x8_22 true _ A31.out).mono ?_); rintro e w' ⟨rfl, ⟨nd, rfl⟩⟩; refine ⟨_, rfl, ?_⟩) | (go_at_call 16; (with_reducible refine (name_Under.calls kj22 x8_22 a0 true _ A34.out).mono ?_); rintro e w' ⟨rfl, ⟨nd, rfl⟩⟩))
                      go_ret
                      exact ⟨by first | rfl | (simp [errW_none, errW_some] <;> rfl) | (simp [*, errW_none, errW_some] <;> rfl) | (simp only [str_ne_]; rfl) | (simp only [str_eq_]; rfl), by repeat (with_reducible first | exact HB.out | apply below_alloc | apply pw_below_drewN | apply below_drew1)⟩
                    replace c35 := Bool.eq_false_iff.mpr c35
                    subst c35
                    have H1 : (pinfoldlaw2_NameUnder.l0 kj22 a0 a1 a2 t142 x8_22 (wrap64 (x9_2 - 1))) = some r := by rw [if_neg (show ¬ (false = true) by decide)] at H; exact H
                    clear H
                    have H := H1
                    clear H1
                    have H' := Aside0.mk H
                    clear H
                    go_wp2_with (first | ((with_reducible refine gate_callee (f := 16) rfl ?_); refine goesL_ (some 61) rfl rfl Tryd.func16 (by kernel_rfl) rfl #[.string a0, .string x8_22] rfl (by (try simp only [List.map_toArray, List.map_cons, List.map_nil]); first | done | rfl | (simp only [List.length_drop, List.length_take]; rfl)) ?_; (with_reducible refine (name_Under.calls kj22 a0 x8_22 true _ A31.out).mono ?_); rintro e w' ⟨rfl, ⟨nd, rfl⟩⟩; refine ⟨_, rfl, ?_⟩) | (go_at_call 16; (with_reducible refine (name_Under.calls kj22 x8_22 a0 false _ A34.out).mono ?_); rintro e w' ⟨rfl, ⟨nd, rfl⟩⟩))
                    go_roundg kj22
                    case measure => have := HJ5.out; have := HK2.out; have := HJ22.out; omega
                    case rel => exact ⟨(x8_22), (wrap64 (x9_2 - 1)), (by first | rfl | (simp; done) | (simp [*]; done) | (simp only [str_ne_]; rfl) | (simp only [str_eq_]; rfl)), (by first | rfl | (simp; done) | (simp [*]; done) | (simp only [str_ne_]; rfl) | (simp only [str_eq_]; rfl)), H', ⟨by have := HJ5.out; have := HK2.out; have := HJ22.out; omega⟩, ⟨by (with_reducible repeat (first | apply Kd.R_alloc | apply Kd.R_drewN | apply Kd.R_drew)); exact HO_7.out⟩, ⟨by repeat (with_reducible first | exact HB.out | apply below_alloc | apply pw_below_drewN | apply below_drew1)⟩⟩
                  replace c32 := Bool.eq_false_iff.mpr c32
                  subst c32
                  have H1 : (some false) = some r := by rw [if_neg (show ¬ (false = true) by decide)] at H; exact H
                  clear H
                  have H := H1
                  clear H1
                  obtain rfl := Option.some.inj H
                  go_wp2_with (first | ((with_reducible refine gate_callee (f := 16) rfl ?_); refine goesL_ (some 61) rfl rfl Tryd.func16 (by kernel_rfl) rfl #[.string a0, .string x8_22] rfl (by (try simp only [List.map_toArray, List.map_cons, List.map_nil]); first | done | rfl | (simp only [List.length_drop, List.length_take]; rfl)) ?_; (with_reducible refine (name_Under.calls kj22 a0 x8_22 false _ A31.out).mono ?_); rintro e w' ⟨rfl, ⟨nd, rfl⟩⟩; refine ⟨_, rfl, ?_⟩))
                  go_ret
                  exact ⟨by first | rfl | (simp [errW_none, errW_some] <;> rfl) | (simp [*, errW_none, errW_some] <;> rfl) | (simp only [str_ne_]; rfl) | (simp only [str_eq_]; rfl), by repeat (with_reducible first | exact HB.out | apply below_alloc | apply pw_below_drewN | apply below_drew1)⟩
            rw [if_neg c22] at H
            have c22b0 : decide (0 ≤ x9_2) = false := decide_eq_false c22
            clear c22
            by_cases c36 : x8_2.toList = a0.toList
            · rw [if_pos c36] at H
              have c36b0 : (x8_2.toList == a0.toList) = true := beq_iff_eq.mpr c36
              have c36b1 : (x8_2.toList != a0.toList) = false := bne_eq_false_iff_eq.mpr c36
              clear c36
              replace H := Option.bind_eq_some_iff.mp H
              obtain ⟨t149, A370, H⟩ := H
              replace H : (if t149 = true then ((name_Under.f k2 a0 (⟨#[]⟩ : ByteArray)).bind fun t150 => (if t150 = true then ((name_Fold.f a0).bind fun t151 => (if t151.toList = a0.toList then ((name_Under.f k2 a0 a1).bind fun t152 => (if t152 = true then ((name_Under.f k2 a1 a2).bind fun t153 => (if t153 = true then ((name_Under.f k2 a0 a2).bind fun t154 => (some t154)) else (some true))) else (some true))) else (some false))) else (some false))) else (some false)) = some r := H
              have A37 := Aside0.mk A370
              clear A370
              by_cases c38 : t149 = true
              · subst c38
                have H1 : ((name_Under.f k2 a0 (⟨#[]⟩ : ByteArray)).bind fun t150 => (if t150 = true then ((name_Fold.f a0).bind fun t151 => (if t151.toList = a0.toList then ((name_Under.f k2 a0 a1).bind fun t152 => (if t152 = true then ((name_Under.f k2 a1 a2).bind fun t153 => (if t153 = true then ((name_Under.f k2 a0 a2).bind fun t154 => (some t154)) else (some true))) else (some true))) else (some false))) else (some false))) = some r := by rw [if_pos rfl] at H; exact H
                clear H
                have H := H1
                clear H1
                replace H := Option.bind_eq_some_iff.mp H
                obtain ⟨t150, A390, H⟩ := H
                replace H : (if t150 = true then ((name_Fold.f a0).bind fun t151 => (if t151.toList = a0.toList then ((name_Under.f k2 a0 a1).bind fun t152 => (if t152 = true then ((name_Under.f k2 a1 a2).bind fun t153 => (if t153 = true then ((name_Under.f k2 a0 a2).bind fun t154 => (some t154)) else (some true))) else (some true))) else (some false))) else (some false)) = some r := H
                have A39 := Aside0.mk A390
                clear A390
                by_cases c40 : t150 = true
                · subst c40
                  have H1 : ((name_Fold.f a0).bind fun t151 => (if t151.toList = a0.toList then ((name_Under.f k2 a0 a1).bind fun t152 => (if t152 = true then ((name_Under.f k2 a1 a2).bind fun t153 => (if t153 = true then ((name_Under.f k2 a0 a2).bind fun t154 => (some t154)) else (some true))) else (some true))) else (some false))) = some r := by rw [if_pos rfl] at H; exact H
                  clear H
                  have H := H1
                  clear H1
                  replace H := Option.bind_eq_some_iff.mp H
                  obtain ⟨t151, A410, H⟩ := H
                  replace H : (if t151.toList = a0.toList then ((name_Under.f k2 a0 a1).bind fun t152 => (if t152 = true then ((name_Under.f k2 a1 a2).bind fun t153 => (if t153 = true then ((name_Under.f k2 a0 a2).bind fun t154 => (some t154)) else (some true))) else (some true))) else (some false)) = some r := H
                  have A41 := Aside0.mk A410
                  clear A410
                  by_cases c42 : t151.toList = a0.toList
                  · rw [if_pos c42] at H
                    have c42b0 : (t151.toList == a0.toList) = true := beq_iff_eq.mpr c42
                    have c42b1 : (t151.toList != a0.toList) = false := bne_eq_false_iff_eq.mpr c42
                    clear c42
                    replace H := Option.bind_eq_some_iff.mp H
                    obtain ⟨t152, A430, H⟩ := H
                    replace H : (if t152 = true then ((name_Under.f k2 a1 a2).bind fun t153 => (if t153 = true then ((name_Under.f k2 a0 a2).bind fun t154 => (some t154)) else (some true))) else (some true)) = some r := H
                    have A43 := Aside0.mk A430
                    clear A430
                    by_cases c44 : t152 = true
                    · subst c44
                      have H1 : ((name_Under.f k2 a1 a2).bind fun t153 => (if t153 = true then ((name_Under.f k2 a0 a2).bind fun t154 => (some t154)) else (some true))) = some r := by rw [if_pos rfl] at H; exact H
                      clear H
                      have H := H1
                      clear H1
                      replace H := Option.bind_eq_some_iff.mp H
                      obtain ⟨t153, A450, H⟩ := H
                      replace H : (if t153 = true then ((name_Under.f k2 a0 a2).bind fun t154 => (some t154)) else (some true)) = some r := H
                      have A45 := Aside0.mk A450
                      clear A450
                      by_cases c46 : t153 = true
                      · subst c46
                        have H1 : ((name_Under.f k2 a0 a2).bind fun t154 => (some t154)) = some r := by rw [if_pos rfl] at H; exact H
                        clear H
                        have H := H1
                        clear H1
                        replace H := Option.bind_eq_some_iff.mp H
                        obtain ⟨t154, A470, H⟩ := H
                        replace H : (some t154) = some r := H
                        have A47 := Aside0.mk A470
                        clear A470
                        obtain rfl := Option.some.inj H
                        go_wp2_with (first | (go_at_call 16; (with_reducible refine (name_Under.calls k2 a0 a0 true _ A37.out).mono ?_); rintro e w' ⟨rfl, ⟨nd, rfl⟩⟩) | (go_at_call 16; (with_reducible refine (name_Under.calls k2 a0 (⟨#[]⟩ : ByteArray) true _ A39.out).mono ?_); rintro e w' ⟨rfl, ⟨nd, rfl⟩⟩) | (go_at_call 12; (with_reducible refine (name_Fold.calls a0 t151 _ A41.out).mono ?_); rintro e w48 ⟨rfl, hb⟩; have n0_ := Aside0.mk (Kd.R_below (by (with_reducible repeat (first | apply Kd.R_alloc | apply Kd.R_drewN | apply Kd.R_drew)); exact HO_7.out) hb); have n1_ := Aside0.mk (below_step (by repeat (with_reducible first | exact HB.out | apply below_alloc | apply pw_below_drewN | apply below_drew1)) hb); clear HO_7; clear HB; have HO_7 := n0_; have HB := n1_; clear n0_ n1_; (try clear hb)) | (go_at_call 16; (with_reducible refine (name_Under.calls k2 a0 a1 true _ A43.out).mono ?_); rintro e w' ⟨rfl, ⟨nd, rfl⟩⟩) | (go_at_call 16; (with_reducible refine (name_Under.calls k2 a1 a2 true _ A45.out).mono ?_); rintro e w' ⟨rfl, ⟨nd, rfl⟩⟩) | (go_at_call 16; (with_reducible refine (name_Under.calls k2 a0 a2 t154 _ A47.out).mono ?_); rintro e w' ⟨rfl, ⟨nd, rfl⟩⟩))
                        go_ret
                        exact ⟨by first | rfl | (simp [errW_none, errW_some] <;> rfl) | (simp [*, errW_none, errW_some] <;> rfl) | (simp only [str_ne_]; rfl) | (simp only [str_eq_]; rfl), by repeat (with_reducible first | exact HB.out | apply below_alloc | apply pw_below_drewN | apply below_drew1)⟩
                      replace c46 := Bool.eq_false_iff.mpr c46
                      subst c46
                      have H1 : (some true) = some r := by rw [if_neg (show ¬ (false = true) by decide)] at H; exact H
                      clear H
                      have H := H1
                      clear H1
                      obtain rfl := Option.some.inj H
                      go_wp2_with (first | (go_at_call 16; (with_reducible refine (name_Under.calls k2 a0 a0 true _ A37.out).mono ?_); rintro e w' ⟨rfl, ⟨nd, rfl⟩⟩) | (go_at_call 16; (with_reducible refine (name_Under.calls k2 a0 (⟨#[]⟩ : ByteArray) true _ A39.out).mono ?_); rintro e w' ⟨rfl, ⟨nd, rfl⟩⟩) | (go_at_call 12; (with_reducible refine (name_Fold.calls a0 t151 _ A41.out).mono ?_); rintro e w49 ⟨rfl, hb⟩; have n0_ := Aside0.mk (Kd.R_below (by (with_reducible repeat (first | apply Kd.R_alloc | apply Kd.R_drewN | apply Kd.R_drew)); exact HO_7.out) hb); have n1_ := Aside0.mk (below_step (by repeat (with_reducible first | exact HB.out | apply below_alloc | apply pw_below_drewN | apply below_drew1)) hb); clear HO_7; clear HB; have HO_7 := n0_; have HB := n1_; clear n0_ n1_; (try clear hb)) | (go_at_call 16; (with_reducible refine (name_Under.calls k2 a0 a1 true _ A43.out).mono ?_); rintro e w' ⟨rfl, ⟨nd, rfl⟩⟩) | (go_at_call 16; (with_reducible refine (name_Under.calls k2 a1 a2 false _ A45.out).mono ?_); rintro e w' ⟨rfl, ⟨nd, rfl⟩⟩))
                      go_ret
                      exact ⟨by first | rfl | (simp [errW_none, errW_some] <;> rfl) | (simp [*, errW_none, errW_some] <;> rfl) | (simp only [str_ne_]; rfl) | (simp only [str_eq_]; rfl), by repeat (with_reducible first | exact HB.out | apply below_alloc | apply pw_below_drewN | apply below_drew1)⟩
                    replace c44 := Bool.eq_false_iff.mpr c44
                    subst c44
                    have H1 : (some true) = some r := by rw [if_neg (show ¬ (false = true) by decide)] at H; exact H
                    clear H
                    have H := H1
                    clear H1
                    obtain rfl := Option.some.inj H
                    go_wp2_with (first | (go_at_call 16; (with_reducible refine (name_Under.calls k2 a0 a0 true _ A37.out).mono ?_); rintro e w' ⟨rfl, ⟨nd, rfl⟩⟩) | (go_at_call 16; (with_reducible refine (name_Under.calls k2 a0 (⟨#[]⟩ : ByteArray) true _ A39.out).mono ?_); rintro e w' ⟨rfl, ⟨nd, rfl⟩⟩) | (go_at_call 12; (with_reducible refine (name_Fold.calls a0 t151 _ A41.out).mono ?_); rintro e w50 ⟨rfl, hb⟩; have n0_ := Aside0.mk (Kd.R_below (by (with_reducible repeat (first | apply Kd.R_alloc | apply Kd.R_drewN | apply Kd.R_drew)); exact HO_7.out) hb); have n1_ := Aside0.mk (below_step (by repeat (with_reducible first | exact HB.out | apply below_alloc | apply pw_below_drewN | apply below_drew1)) hb); clear HO_7; clear HB; have HO_7 := n0_; have HB := n1_; clear n0_ n1_; (try clear hb)) | (go_at_call 16; (with_reducible refine (name_Under.calls k2 a0 a1 false _ A43.out).mono ?_); rintro e w' ⟨rfl, ⟨nd, rfl⟩⟩))
                    go_ret
                    exact ⟨by first | rfl | (simp [errW_none, errW_some] <;> rfl) | (simp [*, errW_none, errW_some] <;> rfl) | (simp only [str_ne_]; rfl) | (simp only [str_eq_]; rfl), by repeat (with_reducible first | exact HB.out | apply below_alloc | apply pw_below_drewN | apply below_drew1)⟩
                  rw [if_neg c42] at H
                  have c42b0 : (t151.toList == a0.toList) = false := beq_eq_false_iff_ne.mpr c42
                  have c42b1 : (t151.toList != a0.toList) = true := bne_iff_ne.mpr c42
                  obtain rfl := Option.some.inj H
                  go_wp2_with (first | (go_at_call 16; (with_reducible refine (name_Under.calls k2 a0 a0 true _ A37.out).mono ?_); rintro e w' ⟨rfl, ⟨nd, rfl⟩⟩) | (go_at_call 16; (with_reducible refine (name_Under.calls k2 a0 (⟨#[]⟩ : ByteArray) true _ A39.out).mono ?_); rintro e w' ⟨rfl, ⟨nd, rfl⟩⟩) | (go_at_call 12; (with_reducible refine (name_Fold.calls a0 t151 _ A41.out).mono ?_); rintro e w51 ⟨rfl, hb⟩; have n0_ := Aside0.mk (Kd.R_below (by (with_reducible repeat (first | apply Kd.R_alloc | apply Kd.R_drewN | apply Kd.R_drew)); exact HO_7.out) hb); have n1_ := Aside0.mk (below_step (by repeat (with_reducible first | exact HB.out | apply below_alloc | apply pw_below_drewN | apply below_drew1)) hb); clear HO_7; clear HB; have HO_7 := n0_; have HB := n1_; clear n0_ n1_; (try clear hb)))
                  go_ret
                  exact ⟨by first | rfl | (simp [errW_none, errW_some] <;> rfl) | (simp [*, errW_none, errW_some] <;> rfl) | (simp only [str_ne_]; rfl) | (simp only [str_eq_]; rfl), by repeat (with_reducible first | exact HB.out | apply below_alloc | apply pw_below_drewN | apply below_drew1)⟩
                replace c40 := Bool.eq_false_iff.mpr c40
                subst c40
                have H1 : (some false) = some r := by rw [if_neg (show ¬ (false = true) by decide)] at H; exact H
                clear H
                have H := H1
                clear H1
                obtain rfl := Option.some.inj H
                go_wp2_with (first | (go_at_call 16; (with_reducible refine (name_Under.calls k2 a0 a0 true _ A37.out).mono ?_); rintro e w' ⟨rfl, ⟨nd, rfl⟩⟩) | (go_at_call 16; (with_reducible refine (name_Under.calls k2 a0 (⟨#[]⟩ : ByteArray) false _ A39.out).mono ?_); rintro e w' ⟨rfl, ⟨nd, rfl⟩⟩))
                go_ret
                exact ⟨by first | rfl | (simp [errW_none, errW_some] <;> rfl) | (simp [*, errW_none, errW_some] <;> rfl) | (simp only [str_ne_]; rfl) | (simp only [str_eq_]; rfl), by repeat (with_reducible first | exact HB.out | apply below_alloc | apply pw_below_drewN | apply below_drew1)⟩
              replace c38 := Bool.eq_false_iff.mpr c38
              subst c38
              have H1 : (some false) = some r := by rw [if_neg (show ¬ (false = true) by decide)] at H; exact H
              clear H
              have H := H1
              clear H1
              obtain rfl := Option.some.inj H
              go_wp2_with (first | (go_at_call 16; (with_reducible refine (name_Under.calls k2 a0 a0 false _ A37.out).mono ?_); rintro e w' ⟨rfl, ⟨nd, rfl⟩⟩))
              go_ret
              exact ⟨by first | rfl | (simp [errW_none, errW_some] <;> rfl) | (simp [*, errW_none, errW_some] <;> rfl) | (simp only [str_ne_]; rfl) | (simp only [str_eq_]; rfl), by repeat (with_reducible first | exact HB.out | apply below_alloc | apply pw_below_drewN | apply below_drew1)⟩
            rw [if_neg c36] at H
            have c36b0 : (x8_2.toList == a0.toList) = false := beq_eq_false_iff_ne.mpr c36
            have c36b1 : (x8_2.toList != a0.toList) = true := bne_iff_ne.mpr c36
            obtain rfl := Option.some.inj H
            go_wp2
            go_ret
            exact ⟨by first | rfl | (simp [errW_none, errW_some] <;> rfl) | (simp [*, errW_none, errW_some] <;> rfl) | (simp only [str_ne_]; rfl) | (simp only [str_eq_]; rfl), by repeat (with_reducible first | exact HB.out | apply below_alloc | apply pw_below_drewN | apply below_drew1)⟩
  replace c5 := Bool.eq_false_iff.mpr c5
  subst c5
  have H1 : (some false) = some r := by rw [if_neg (show ¬ (false = true) by decide)] at H; exact H
  clear H
  have H := H1
  clear H1
  obtain rfl := Option.some.inj H
  go_enter Tryd.func4, Tryd.ntmps4
  go_wp2_with (first | ((with_reducible refine gate_callee (f := 19) rfl ?_); refine goesL_ (some 10) rfl rfl Tryd.func19 (by kernel_rfl) rfl #[] rfl (by (try simp only [List.map_toArray, List.map_cons, List.map_nil]); first | done | rfl | (simp only [List.length_drop, List.length_take]; rfl)) ?_; (with_reducible refine (pinfoldlaw2_awake.calls k  false _ A4.out).mono ?_); rintro e w52 ⟨rfl, hb⟩; refine ⟨_, rfl, ?_⟩; have n0_ := Aside0.mk (below_step (by repeat (with_reducible first | exact HB.out | apply below_alloc | apply pw_below_drewN | apply below_drew1)) hb); clear HB; have HB := n0_; clear n0_; (try clear hb)))
  go_ret
  exact ⟨by first | rfl | (simp [errW_none, errW_some] <;> rfl) | (simp [*, errW_none, errW_some] <;> rfl) | (simp only [str_ne_]; rfl) | (simp only [str_eq_]; rfl), by repeat (with_reducible first | exact HB.out | apply below_alloc | apply pw_below_drewN | apply below_drew1)⟩

/-- THE ONE PURE STATEMENT of pinfoldlaw2_NameUnder. -/
def pinfoldlaw2_NameUnder.Pure : Prop := ∀ (a0 : ByteArray) (a1 : ByteArray) (a2 : ByteArray), a0.size ≤ 140737488351232 → a1.size ≤ 140737488351232 → a2.size ≤ 140737488351232 → ∃ k, pinfoldlaw2_NameUnder.f k a0 a1 a2 = some true
theorem pinfoldlaw2_NameUnder.walk (P : pinfoldlaw2_NameUnder.Pure) (a0 : ByteArray) (a1 : ByteArray) (a2 : ByteArray) (w : World)  (w0 : a0.size ≤ 140737488351232) (w1 : a1.size ≤ 140737488351232) (w2 : a2.size ≤ 140737488351232) :
    Calls Tryd.prog 4 #[.string a0, .string a1, .string a2] w fun e w' => e = .returned (.bool true) ∧ Below w.heap.size w w' := by
  obtain ⟨k, h⟩ := P a0 a1 a2 w0 w1 w2
  refine (pinfoldlaw2_NameUnder.calls k a0 a1 a2 true w  h).mono ?_
  rintro e w' ⟨rfl, hd⟩
  exact ⟨rfl, hd⟩

end Go.Proofs.YtfkgfjllgiblhaaDoor.PNameUnder
