-- Made by wip/pr.py out of the translation (a turned copy of the kit's print; contracts by hand where said).
import Derived.Test.YtfkgfjllgiblhaaDoorPNameFoldsx0
import Derived.Test.YtfkgfjllgiblhaaDoorPNameFoldsx1
import Derived.Test.YtfkgfjllgiblhaaDoorPNameFoldsx2
namespace Go.Proofs.YtfkgfjllgiblhaaDoor.PNameFolds
open Go.RowKit Go.Proofs.YtfkgfjllgiblhaaDoorW.PrintWords Go.Proofs.YtfkgfjllgiblhaaDoorW.PrintLast Go.Proofs.YtfkgfjllgiblhaaDoorW.PrintMore
attribute [local go_sem] max2_int min2_int max_two min_two max_three min_three max_four min_four   -- for this text's walks alone
set_option linter.unusedVariables false
set_option linter.unusedSimpArgs false

/-! ### pinfoldlaw2_NameFolds: function 7 -/
mutual
def pinfoldlaw2_NameFolds.j0 : Nat → ByteArray → ByteArray → Bool → Option (Bool)
  | 0, _, _, _ => none
  | k + 1, x0, x3, x20 => if x20 = true then (some false) else (pinfoldlaw2_NameFolds.l0 k x0 x3 0)
def pinfoldlaw2_NameFolds.l0 : Nat → ByteArray → ByteArray → Int → Option (Bool)
  | 0, _, _, _ => none
  | k + 1, x0, x3, x4 => if x4 < (x0.size : Int) then (if 0 ≤ x4 then (if (bt x0 x4) ≥ 65 then (if (bt x0 x4) ≤ 90 then (if x4 < (x3.size : Int) then (if (bt x3 x4) = (((bt x0 x4) + 32) % 256) then (if ((bt x0 x4) ≤ 90) then (pinfoldlaw2_NameFolds.l0 k x0 x3 (wrap64 (x4 + 1))) else (if (bt x3 x4) = (bt x0 x4) then (pinfoldlaw2_NameFolds.l0 k x0 x3 (wrap64 (x4 + 1))) else (some false))) else (some false)) else (none)) else (if ((bt x0 x4) ≤ 90) then (pinfoldlaw2_NameFolds.l0 k x0 x3 (wrap64 (x4 + 1))) else (if x4 < (x3.size : Int) then (if (bt x3 x4) = (bt x0 x4) then (pinfoldlaw2_NameFolds.l0 k x0 x3 (wrap64 (x4 + 1))) else (some false)) else (none)))) else (if x4 < (x3.size : Int) then (if (bt x3 x4) = (bt x0 x4) then (pinfoldlaw2_NameFolds.l0 k x0 x3 (wrap64 (x4 + 1))) else (some false)) else (none))) else (none)) else ((pinfoldlaw0_Num.f 0).bind fun t138 => (some (t138 == 0)))
end
def pinfoldlaw2_NameFolds.f (k : Nat) (a0 : ByteArray) : Option (Bool) := (pinfoldlaw2_awake.f k).bind fun t135 => (if t135 = true then ((name_Fold.f a0).bind fun t136 => (if (t136.size : Int) = (a0.size : Int) then ((name_Fold.f t136).bind fun t137 => (pinfoldlaw2_NameFolds.j0 k a0 t136 (t137.toList != t136.toList))) else (pinfoldlaw2_NameFolds.j0 k a0 t136 true))) else (some false))
theorem pinfoldlaw2_NameFolds.mono_l : ∀ k, (∀ y0 y1 y2, LeO (pinfoldlaw2_NameFolds.j0 k y0 y1 y2) (pinfoldlaw2_NameFolds.j0 (k + 1) y0 y1 y2)) ∧ (∀ y0 y1 y2, LeO (pinfoldlaw2_NameFolds.l0 k y0 y1 y2) (pinfoldlaw2_NameFolds.l0 (k + 1) y0 y1 y2))
  | 0 => ⟨fun _ _ _ r h => by simp [pinfoldlaw2_NameFolds.j0] at h, fun _ _ _ r h => by simp [pinfoldlaw2_NameFolds.l0] at h⟩
  | k + 1 => by
    obtain ⟨ih0, ih1⟩ := pinfoldlaw2_NameFolds.mono_l k
    refine ⟨?_, ?_⟩
    · intro y0 y1 y2
      unfold pinfoldlaw2_NameFolds.j0
      repeat' first
      | (with_reducible exact ih0 _ _ _)
      | (with_reducible exact ih1 _ _ _)
      | (with_reducible exact pinfoldlaw2_awake.mono _)
      | (with_reducible exact LeO.refl _)
      | (with_reducible exact LeO.none _)
      | (with_reducible refine LeO.ite ?_ ?_)
      | (with_reducible refine LeO.bind ?_ (fun _ => ?_))
      | exact ih0 _ _ _
      | exact ih1 _ _ _
      | exact pinfoldlaw2_awake.mono _
      | exact LeO.none _
      | refine LeO.ite ?_ ?_
      | refine LeO.bind ?_ (fun _ => ?_)
    · intro y0 y1 y2
      unfold pinfoldlaw2_NameFolds.l0
      repeat' first
      | (with_reducible exact ih0 _ _ _)
      | (with_reducible exact ih1 _ _ _)
      | (with_reducible exact pinfoldlaw2_awake.mono _)
      | (with_reducible exact LeO.refl _)
      | (with_reducible exact LeO.none _)
      | (with_reducible refine LeO.ite ?_ ?_)
      | (with_reducible refine LeO.bind ?_ (fun _ => ?_))
      | exact ih0 _ _ _
      | exact ih1 _ _ _
      | exact pinfoldlaw2_awake.mono _
      | exact LeO.none _
      | refine LeO.ite ?_ ?_
      | refine LeO.bind ?_ (fun _ => ?_)
theorem pinfoldlaw2_NameFolds.mono : ∀ a0 k, LeO (pinfoldlaw2_NameFolds.f k a0) (pinfoldlaw2_NameFolds.f (k + 1) a0) := by
  intro a0 k
  obtain ⟨ih0, ih1⟩ := pinfoldlaw2_NameFolds.mono_l k
  unfold pinfoldlaw2_NameFolds.f
  repeat' first
      | (with_reducible exact ih0 _ _ _)
      | (with_reducible exact ih1 _ _ _)
      | (with_reducible exact pinfoldlaw2_awake.mono _)
      | (with_reducible exact LeO.refl _)
      | (with_reducible exact LeO.none _)
      | (with_reducible refine LeO.ite ?_ ?_)
      | (with_reducible refine LeO.bind ?_ (fun _ => ?_))
      | exact ih0 _ _ _
      | exact ih1 _ _ _
      | exact pinfoldlaw2_awake.mono _
      | exact LeO.none _
      | refine LeO.ite ?_ ?_
      | refine LeO.bind ?_ (fun _ => ?_)
set_option maxHeartbeats 8000000 in
set_option maxRecDepth 100000 in
theorem pinfoldlaw2_NameFolds.calls (k : Nat) (a0 : ByteArray) (r : Bool) (w : World) (h : pinfoldlaw2_NameFolds.f k a0 = some r) :
    Calls Tryd.prog 7 #[.string a0] w fun e w' => e = .returned (.bool r) ∧ Below w.heap.size w w' := by
  have HB := Aside0.mk (Below.refl w.heap.size w)
  have H : ((pinfoldlaw2_awake.f k).bind fun t135 => (if t135 = true then ((name_Fold.f a0).bind fun t136 => (if (t136.size : Int) = (a0.size : Int) then ((name_Fold.f t136).bind fun t137 => (pinfoldlaw2_NameFolds.j0 k a0 t136 (t137.toList != t136.toList))) else (pinfoldlaw2_NameFolds.j0 k a0 t136 true))) else (some false))) = some r := h
  clear h
  replace H := Option.bind_eq_some_iff.mp H
  obtain ⟨t135, A20, H⟩ := H
  replace H : (if t135 = true then ((name_Fold.f a0).bind fun t136 => (if (t136.size : Int) = (a0.size : Int) then ((name_Fold.f t136).bind fun t137 => (pinfoldlaw2_NameFolds.j0 k a0 t136 (t137.toList != t136.toList))) else (pinfoldlaw2_NameFolds.j0 k a0 t136 true))) else (some false)) = some r := H
  have A2 := Aside0.mk A20
  clear A20
  by_cases c3 : t135 = true
  · subst c3
    have H1 : ((name_Fold.f a0).bind fun t136 => (if (t136.size : Int) = (a0.size : Int) then ((name_Fold.f t136).bind fun t137 => (pinfoldlaw2_NameFolds.j0 k a0 t136 (t137.toList != t136.toList))) else (pinfoldlaw2_NameFolds.j0 k a0 t136 true))) = some r := by rw [if_pos rfl] at H; exact H
    clear H
    have H := H1
    clear H1
    replace H := Option.bind_eq_some_iff.mp H
    obtain ⟨t136, A40, H⟩ := H
    replace H : (if (t136.size : Int) = (a0.size : Int) then ((name_Fold.f t136).bind fun t137 => (pinfoldlaw2_NameFolds.j0 k a0 t136 (t137.toList != t136.toList))) else (pinfoldlaw2_NameFolds.j0 k a0 t136 true)) = some r := H
    have A4 := Aside0.mk A40
    clear A40
    have HC5 := Aside0.mk H
    clear H
    go_enter Tryd.func7, Tryd.ntmps7
    go_upto_region 4 with (first | (go_at_call 19; (with_reducible refine (pinfoldlaw2_awake.calls k  true _ A2.out).mono ?_); rintro e w6 ⟨rfl, hb⟩; have n0_ := Aside0.mk (below_step (by repeat (with_reducible first | exact HB.out | apply below_alloc | apply pw_below_drewN | apply below_drew1)) hb); clear HB; have HB := n0_; clear n0_; (try clear hb)) | (go_at_call 12; (with_reducible refine (name_Fold.calls a0 t136 _ A4.out).mono ?_); rintro e w7 ⟨rfl, hb⟩; have n0_ := Aside0.mk (below_step (by repeat (with_reducible first | exact HB.out | apply below_alloc | apply pw_below_drewN | apply below_drew1)) hb); clear HB; have HB := n0_; clear n0_; (try clear hb)))
    repeat (go_quiet (first | (go_at_call 19; (with_reducible refine (pinfoldlaw2_awake.calls k  true _ A2.out).mono ?_); rintro e w6 ⟨rfl, hb⟩; have n0_ := Aside0.mk (below_step (by repeat (with_reducible first | exact HB.out | apply below_alloc | apply pw_below_drewN | apply below_drew1)) hb); clear HB; have HB := n0_; clear n0_; (try clear hb)) | (go_at_call 12; (with_reducible refine (name_Fold.calls a0 t136 _ A4.out).mono ?_); rintro e w7 ⟨rfl, hb⟩; have n0_ := Aside0.mk (below_step (by repeat (with_reducible first | exact HB.out | apply below_alloc | apply pw_below_drewN | apply below_drew1)) hb); clear HB; have HB := n0_; clear n0_; (try clear hb))); go_upto_region 4 with (first | (go_at_call 19; (with_reducible refine (pinfoldlaw2_awake.calls k  true _ A2.out).mono ?_); rintro e w6 ⟨rfl, hb⟩; have n0_ := Aside0.mk (below_step (by repeat (with_reducible first | exact HB.out | apply below_alloc | apply pw_below_drewN | apply below_drew1)) hb); clear HB; have HB := n0_; clear n0_; (try clear hb)) | (go_at_call 12; (with_reducible refine (name_Fold.calls a0 t136 _ A4.out).mono ?_); rintro e w7 ⟨rfl, hb⟩; have n0_ := Aside0.mk (below_step (by repeat (with_reducible first | exact HB.out | apply below_alloc | apply pw_below_drewN | apply below_drew1)) hb); clear HB; have HB := n0_; clear n0_; (try clear hb))))
    (try simp only [Act.put, List.setIfInBounds_toArray, List.set_cons_zero, List.set_cons_succ])
    go_cut [20] (fun v20 wc => ∃ (kq : Nat) (x20_4 : Bool), v20 = .bool x20_4 ∧ Aside0 (pinfoldlaw2_NameFolds.j0 kq a0 t136 x20_4 = some r) ∧ Aside0 (kq ≤ k) ∧ Aside0 (Below w.heap.size w wc))
    case first =>
      have H := HC5.out
      clear HC5
      by_cases c8 : (t136.size : Int) = (a0.size : Int)
      · rw [if_pos c8] at H
        have c8b0 : ((t136.size : Int) == (a0.size : Int)) = true := beq_iff_eq.mpr c8
        have c8b1 : ((t136.size : Int) != (a0.size : Int)) = false := bne_eq_false_iff_eq.mpr c8
        have c8b2 : (t136.size == a0.size) = true := by first | simpa using c8 | (simp at c8 ⊢; omega)
        clear c8
        (first | rw [c8b0] | (simp only [i64_w, i32_w]; rw [c8b0]) | skip)
        replace H := Option.bind_eq_some_iff.mp H
        obtain ⟨t137, A90, H⟩ := H
        replace H : (pinfoldlaw2_NameFolds.j0 k a0 t136 (t137.toList != t136.toList)) = some r := H
        have A9 := Aside0.mk A90
        clear A90
        have H' := Aside0.mk H
        clear H
        go_wp2_with (first | (go_at_call 12; (with_reducible refine (name_Fold.calls t136 t137 _ A9.out).mono ?_); rintro e w10 ⟨rfl, hb⟩; have n0_ := Aside0.mk (below_step (by repeat (with_reducible first | exact HB.out | apply below_alloc | apply pw_below_drewN | apply below_drew1)) hb); clear HB; have HB := n0_; clear n0_; (try clear hb)))
        repeat (go_quiet (first | (go_at_call 12; (with_reducible refine (name_Fold.calls t136 t137 _ A9.out).mono ?_); rintro e w10 ⟨rfl, hb⟩; have n0_ := Aside0.mk (below_step (by repeat (with_reducible first | exact HB.out | apply below_alloc | apply pw_below_drewN | apply below_drew1)) hb); clear HB; have HB := n0_; clear n0_; (try clear hb))); try go_wp2_with (first | (go_at_call 12; (with_reducible refine (name_Fold.calls t136 t137 _ A9.out).mono ?_); rintro e w10 ⟨rfl, hb⟩; have n0_ := Aside0.mk (below_step (by repeat (with_reducible first | exact HB.out | apply below_alloc | apply pw_below_drewN | apply below_drew1)) hb); clear HB; have HB := n0_; clear n0_; (try clear hb))))
        go_meet
        case rel => exact ⟨_, ((t137.toList != t136.toList)), (by first | rfl | (simp; done) | (simp [*]; done)), H', ⟨by first | omega | exact Nat.le_refl _⟩, ⟨by repeat (with_reducible first | exact HB.out | apply below_alloc | apply pw_below_drewN | apply below_drew1)⟩⟩
      rw [if_neg c8] at H
      have c8b0 : ((t136.size : Int) == (a0.size : Int)) = false := beq_eq_false_iff_ne.mpr c8
      have c8b1 : ((t136.size : Int) != (a0.size : Int)) = true := bne_iff_ne.mpr c8
      have c8b2 : (t136.size == a0.size) = false := by first | simpa using c8 | (simp at c8 ⊢; omega)
      (first | rw [c8b0] | (simp only [i64_w, i32_w]; rw [c8b0]) | skip)
      have H' := Aside0.mk H
      clear H
      go_wp2
      repeat (go_quiet (fail); try go_wp2)
      go_meet
      case rel => exact ⟨_, (true), (by first | rfl | (simp; done) | (simp [*]; done)), H', ⟨by first | omega | exact Nat.le_refl _⟩, ⟨by repeat (with_reducible first | exact HB.out | apply below_alloc | apply pw_below_drewN | apply below_drew1)⟩⟩
    case rest =>
      clear HC5
      try clear c3
      obtain ⟨kq, x20_4, rfl, HA, HJ4, HB⟩ := hcut
      cases kq with
      | zero => exact absurd HA.out (by simp [pinfoldlaw2_NameFolds.j0])
      | succ kj4 =>
        have H := HA.out
        clear HA
        simp only [pinfoldlaw2_NameFolds.j0] at H
        by_cases c11 : x20_4 = true
        · subst c11
          have H1 : (some false) = some r := by rw [if_pos rfl] at H; exact H
          clear H
          have H := H1
          clear H1
          obtain rfl := Option.some.inj H
          go_wp2
          repeat (go_quiet (fail); try go_wp2)
          go_ret
          exact ⟨by first | rfl | (simp [errW_none, errW_some] <;> rfl) | (simp [*, errW_none, errW_some] <;> rfl), by repeat (with_reducible first | exact HB.out | apply below_alloc | apply pw_below_drewN | apply below_drew1)⟩
        replace c11 := Bool.eq_false_iff.mpr c11
        subst c11
        have H1 : (pinfoldlaw2_NameFolds.l0 kj4 a0 t136 0) = some r := by rw [if_neg (show ¬ (false = true) by decide)] at H; exact H
        clear H
        have H := H1
        clear H1
        have H' := Aside0.mk H
        clear H
        go_wp2
        repeat (go_quiet (fail); try go_wp2)
        go_loopg [4] kj4 (fun kq v4 w' => ∃ (x4_2 : Int), v4 = .int .i64 x4_2 ∧ Aside0 (pinfoldlaw2_NameFolds.l0 kq a0 t136 x4_2 = some r) ∧ Aside0 (kq ≤ kj4) ∧ Aside0 (Below w.heap.size w w'))
        case atStart => exact ⟨(0), (by first | rfl | (simp; done) | (simp [*]; done)), H', ⟨Nat.le_refl _⟩, ⟨by repeat (with_reducible first | exact HB.out | apply below_alloc | apply pw_below_drewN | apply below_drew1)⟩⟩
        case round =>
          clear H'
          (try clear c3); (try clear c11)
          obtain ⟨x4_2, rfl, HA, HK2, HB⟩ := hrel
          cases gk with
          | zero => exact absurd HA.out (by simp [pinfoldlaw2_NameFolds.l0])
          | succ k2 =>
            have H := HA.out
            clear HA
            simp only [pinfoldlaw2_NameFolds.l0] at H
            by_cases c12 : x4_2 < (a0.size : Int)
            · rw [if_pos c12] at H
              have c12b0 : decide (x4_2 < (a0.size : Int)) = true := decide_eq_true c12
              clear c12
              by_cases c13 : 0 ≤ x4_2
              rotate_left
              · rw [if_neg c13] at H
                exact absurd H (by simp)
              rw [if_pos c13] at H
              have c13b0 : decide (0 ≤ x4_2) = true := decide_eq_true c13
              clear c13
              by_cases c15 : (bt a0 x4_2) ≥ 65
              · rw [if_pos c15] at H
                have c15b0 : decide (65 ≤ (bt a0 x4_2)) = true := decide_eq_true c15
                clear c15
                by_cases c17 : (bt a0 x4_2) ≤ 90
                · rw [if_pos c17] at H
                  have c17b0 : decide ((bt a0 x4_2) ≤ 90) = true := decide_eq_true c17
                  clear c17
                  by_cases c18 : x4_2 < (t136.size : Int)
                  rotate_left
                  · rw [if_neg c18] at H
                    exact absurd H (by simp)
                  rw [if_pos c18] at H
                  have c18b0 : decide (x4_2 < (t136.size : Int)) = true := decide_eq_true c18
                  clear c18
                  by_cases c21 : (bt t136 x4_2) = (((bt a0 x4_2) + 32) % 256)
                  · rw [if_pos c21] at H
                    have c21b0 : ((bt t136 x4_2) == (((bt a0 x4_2) + 32) % 256)) = true := beq_iff_eq.mpr c21
                    have c21b1 : ((bt t136 x4_2) != (((bt a0 x4_2) + 32) % 256)) = false := bne_eq_false_iff_eq.mpr c21
                    clear c21
                    by_cases c22 : ((bt a0 x4_2) ≤ 90)
                    · rw [if_pos c22] at H
                      have c22b0 : decide ((bt a0 x4_2) ≤ 90) = true := decide_eq_true c22
                      clear c22
                      have H' := Aside0.mk H
                      clear H
                      have p14 : 0 ≤ (x4_2 : Int) := of_decide_eq_true (by first | (with_reducible assumption) | assumption)
                      have q14 : x4_2 < (a0.size : Int) := of_decide_eq_true (by first | (with_reducible assumption) | assumption)
                      have hx14 := bt_at a0 x4_2
                      replace p14 := eq_true p14
                      replace q14 := eq_true q14
                      have p16 : 0 ≤ (x4_2 : Int) := of_decide_eq_true (by first | (with_reducible assumption) | assumption)
                      have q16 : x4_2 < (a0.size : Int) := of_decide_eq_true (by first | (with_reducible assumption) | assumption)
                      have hx16 := bt_at a0 x4_2
                      replace p16 := eq_true p16
                      replace q16 := eq_true q16
                      have p19 : 0 ≤ (x4_2 : Int) := of_decide_eq_true (by first | (with_reducible assumption) | assumption)
                      have q19 : x4_2 < (t136.size : Int) := of_decide_eq_true (by first | (with_reducible assumption) | assumption)
                      have hx19 := bt_at t136 x4_2
                      replace p19 := eq_true p19
                      replace q19 := eq_true q19
                      have p20 : 0 ≤ (x4_2 : Int) := of_decide_eq_true (by first | (with_reducible assumption) | assumption)
                      have q20 : x4_2 < (a0.size : Int) := of_decide_eq_true (by first | (with_reducible assumption) | assumption)
                      have hx20 := bt_at a0 x4_2
                      replace p20 := eq_true p20
                      replace q20 := eq_true q20
                      go_wp2
                      repeat (go_quiet (fail); try go_wp2)
                      go_roundg k2
                      case measure => have := HJ4.out; have := HK2.out; omega
                      case rel => exact ⟨(wrap64 (x4_2 + 1)), (by first | rfl | (simp; done) | (simp [*]; done)), H', ⟨by have := HJ4.out; have := HK2.out; omega⟩, ⟨by repeat (with_reducible first | exact HB.out | apply below_alloc | apply pw_below_drewN | apply below_drew1)⟩⟩
                    exact absurd (of_decide_eq_true (by assumption)) c22
                  rw [if_neg c21] at H
                  have c21b0 : ((bt t136 x4_2) == (((bt a0 x4_2) + 32) % 256)) = false := beq_eq_false_iff_ne.mpr c21
                  have c21b1 : ((bt t136 x4_2) != (((bt a0 x4_2) + 32) % 256)) = true := bne_iff_ne.mpr c21
                  obtain rfl := Option.some.inj H
                  have p14 : 0 ≤ (x4_2 : Int) := of_decide_eq_true (by first | (with_reducible assumption) | assumption)
                  have q14 : x4_2 < (a0.size : Int) := of_decide_eq_true (by first | (with_reducible assumption) | assumption)
                  have hx14 := bt_at a0 x4_2
                  replace p14 := eq_true p14
                  replace q14 := eq_true q14
                  have p16 : 0 ≤ (x4_2 : Int) := of_decide_eq_true (by first | (with_reducible assumption) | assumption)
                  have q16 : x4_2 < (a0.size : Int) := of_decide_eq_true (by first | (with_reducible assumption) | assumption)
                  have hx16 := bt_at a0 x4_2
                  replace p16 := eq_true p16
                  replace q16 := eq_true q16
                  have p19 : 0 ≤ (x4_2 : Int) := of_decide_eq_true (by first | (with_reducible assumption) | assumption)
                  have q19 : x4_2 < (t136.size : Int) := of_decide_eq_true (by first | (with_reducible assumption) | assumption)
                  have hx19 := bt_at t136 x4_2
                  replace p19 := eq_true p19
                  replace q19 := eq_true q19
                  have p20 : 0 ≤ (x4_2 : Int) := of_decide_eq_true (by first | (with_reducible assumption) | assumption)
                  have q20 : x4_2 < (a0.size : Int) := of_decide_eq_true (by first | (with_reducible assumption) | assumption)
                  have hx20 := bt_at a0 x4_2
                  replace p20 := eq_true p20
                  replace q20 := eq_true q20
                  go_wp2
                  repeat (go_quiet (fail); try go_wp2)
                  go_ret
                  exact ⟨by first | rfl | (simp [errW_none, errW_some] <;> rfl) | (simp [*, errW_none, errW_some] <;> rfl), by repeat (with_reducible first | exact HB.out | apply below_alloc | apply pw_below_drewN | apply below_drew1)⟩
                rw [if_neg c17] at H
                have c17b0 : decide ((bt a0 x4_2) ≤ 90) = false := decide_eq_false c17
                clear c17
                by_cases c26 : ((bt a0 x4_2) ≤ 90)
                · exact absurd c26 (of_decide_eq_false (by assumption))
                rw [if_neg c26] at H
                have c26b0 : decide ((bt a0 x4_2) ≤ 90) = false := decide_eq_false c26
                clear c26
                by_cases c27 : x4_2 < (t136.size : Int)
                rotate_left
                · rw [if_neg c27] at H
                  exact absurd H (by simp)
                rw [if_pos c27] at H
                have c27b0 : decide (x4_2 < (t136.size : Int)) = true := decide_eq_true c27
                clear c27
                by_cases c30 : (bt t136 x4_2) = (bt a0 x4_2)
                · rw [if_pos c30] at H
                  have c30b0 : ((bt t136 x4_2) == (bt a0 x4_2)) = true := beq_iff_eq.mpr c30
                  have c30b1 : ((bt t136 x4_2) != (bt a0 x4_2)) = false := bne_eq_false_iff_eq.mpr c30
                  clear c30
                  have H' := Aside0.mk H
                  clear H
                  have p14 : 0 ≤ (x4_2 : Int) := of_decide_eq_true (by first | (with_reducible assumption) | assumption)
                  have q14 : x4_2 < (a0.size : Int) := of_decide_eq_true (by first | (with_reducible assumption) | assumption)
                  have hx14 := bt_at a0 x4_2
                  replace p14 := eq_true p14
                  replace q14 := eq_true q14
                  have p16 : 0 ≤ (x4_2 : Int) := of_decide_eq_true (by first | (with_reducible assumption) | assumption)
                  have q16 : x4_2 < (a0.size : Int) := of_decide_eq_true (by first | (with_reducible assumption) | assumption)
                  have hx16 := bt_at a0 x4_2
                  replace p16 := eq_true p16
                  replace q16 := eq_true q16
                  have p28 : 0 ≤ (x4_2 : Int) := of_decide_eq_true (by first | (with_reducible assumption) | assumption)
                  have q28 : x4_2 < (t136.size : Int) := of_decide_eq_true (by first | (with_reducible assumption) | assumption)
                  have hx28 := bt_at t136 x4_2
                  replace p28 := eq_true p28
                  replace q28 := eq_true q28
                  have p29 : 0 ≤ (x4_2 : Int) := of_decide_eq_true (by first | (with_reducible assumption) | assumption)
                  have q29 : x4_2 < (a0.size : Int) := of_decide_eq_true (by first | (with_reducible assumption) | assumption)
                  have hx29 := bt_at a0 x4_2
                  replace p29 := eq_true p29
                  replace q29 := eq_true q29
                  go_wp2
                  repeat (go_quiet (fail); try go_wp2)
                  go_roundg k2
                  case measure => have := HJ4.out; have := HK2.out; omega
                  case rel => exact ⟨(wrap64 (x4_2 + 1)), (by first | rfl | (simp; done) | (simp [*]; done)), H', ⟨by have := HJ4.out; have := HK2.out; omega⟩, ⟨by repeat (with_reducible first | exact HB.out | apply below_alloc | apply pw_below_drewN | apply below_drew1)⟩⟩
                rw [if_neg c30] at H
                have c30b0 : ((bt t136 x4_2) == (bt a0 x4_2)) = false := beq_eq_false_iff_ne.mpr c30
                have c30b1 : ((bt t136 x4_2) != (bt a0 x4_2)) = true := bne_iff_ne.mpr c30
                obtain rfl := Option.some.inj H
                have p14 : 0 ≤ (x4_2 : Int) := of_decide_eq_true (by first | (with_reducible assumption) | assumption)
                have q14 : x4_2 < (a0.size : Int) := of_decide_eq_true (by first | (with_reducible assumption) | assumption)
                have hx14 := bt_at a0 x4_2
                replace p14 := eq_true p14
                replace q14 := eq_true q14
                have p16 : 0 ≤ (x4_2 : Int) := of_decide_eq_true (by first | (with_reducible assumption) | assumption)
                have q16 : x4_2 < (a0.size : Int) := of_decide_eq_true (by first | (with_reducible assumption) | assumption)
                have hx16 := bt_at a0 x4_2
                replace p16 := eq_true p16
                replace q16 := eq_true q16
                have p28 : 0 ≤ (x4_2 : Int) := of_decide_eq_true (by first | (with_reducible assumption) | assumption)
                have q28 : x4_2 < (t136.size : Int) := of_decide_eq_true (by first | (with_reducible assumption) | assumption)
                have hx28 := bt_at t136 x4_2
                replace p28 := eq_true p28
                replace q28 := eq_true q28
                have p29 : 0 ≤ (x4_2 : Int) := of_decide_eq_true (by first | (with_reducible assumption) | assumption)
                have q29 : x4_2 < (a0.size : Int) := of_decide_eq_true (by first | (with_reducible assumption) | assumption)
                have hx29 := bt_at a0 x4_2
                replace p29 := eq_true p29
                replace q29 := eq_true q29
                go_wp2
                repeat (go_quiet (fail); try go_wp2)
                go_ret
                exact ⟨by first | rfl | (simp [errW_none, errW_some] <;> rfl) | (simp [*, errW_none, errW_some] <;> rfl), by repeat (with_reducible first | exact HB.out | apply below_alloc | apply pw_below_drewN | apply below_drew1)⟩
              rw [if_neg c15] at H
              have c15b0 : decide (65 ≤ (bt a0 x4_2)) = false := decide_eq_false c15
              clear c15
              by_cases c31 : x4_2 < (t136.size : Int)
              rotate_left
              · rw [if_neg c31] at H
                exact absurd H (by simp)
              rw [if_pos c31] at H
              have c31b0 : decide (x4_2 < (t136.size : Int)) = true := decide_eq_true c31
              clear c31
              by_cases c34 : (bt t136 x4_2) = (bt a0 x4_2)
              · rw [if_pos c34] at H
                have c34b0 : ((bt t136 x4_2) == (bt a0 x4_2)) = true := beq_iff_eq.mpr c34
                have c34b1 : ((bt t136 x4_2) != (bt a0 x4_2)) = false := bne_eq_false_iff_eq.mpr c34
                clear c34
                have H' := Aside0.mk H
                clear H
                have p14 : 0 ≤ (x4_2 : Int) := of_decide_eq_true (by first | (with_reducible assumption) | assumption)
                have q14 : x4_2 < (a0.size : Int) := of_decide_eq_true (by first | (with_reducible assumption) | assumption)
                have hx14 := bt_at a0 x4_2
                replace p14 := eq_true p14
                replace q14 := eq_true q14
                have p32 : 0 ≤ (x4_2 : Int) := of_decide_eq_true (by first | (with_reducible assumption) | assumption)
                have q32 : x4_2 < (t136.size : Int) := of_decide_eq_true (by first | (with_reducible assumption) | assumption)
                have hx32 := bt_at t136 x4_2
                replace p32 := eq_true p32
                replace q32 := eq_true q32
                have p33 : 0 ≤ (x4_2 : Int) := of_decide_eq_true (by first | (with_reducible assumption) | assumption)
                have q33 : x4_2 < (a0.size : Int) := of_decide_eq_true (by first | (with_reducible assumption) | assumption)
                have hx33 := bt_at a0 x4_2
                replace p33 := eq_true p33
                replace q33 := eq_true q33
                go_wp2
                repeat (go_quiet (fail); try go_wp2)
                go_roundg k2
                case measure => have := HJ4.out; have := HK2.out; omega
                case rel => exact ⟨(wrap64 (x4_2 + 1)), (by first | rfl | (simp; done) | (simp [*]; done)), H', ⟨by have := HJ4.out; have := HK2.out; omega⟩, ⟨by repeat (with_reducible first | exact HB.out | apply below_alloc | apply pw_below_drewN | apply below_drew1)⟩⟩
              rw [if_neg c34] at H
              have c34b0 : ((bt t136 x4_2) == (bt a0 x4_2)) = false := beq_eq_false_iff_ne.mpr c34
              have c34b1 : ((bt t136 x4_2) != (bt a0 x4_2)) = true := bne_iff_ne.mpr c34
              obtain rfl := Option.some.inj H
              have p14 : 0 ≤ (x4_2 : Int) := of_decide_eq_true (by first | (with_reducible assumption) | assumption)
              have q14 : x4_2 < (a0.size : Int) := of_decide_eq_true (by first | (with_reducible assumption) | assumption)
              have hx14 := bt_at a0 x4_2
              replace p14 := eq_true p14
              replace q14 := eq_true q14
              have p32 : 0 ≤ (x4_2 : Int) := of_decide_eq_true (by first | (with_reducible assumption) | assumption)
              have q32 : x4_2 < (t136.size : Int) := of_decide_eq_true (by first | (with_reducible assumption) | assumption)
              have hx32 := bt_at t136 x4_2
              replace p32 := eq_true p32
              replace q32 := eq_true q32
              have p33 : 0 ≤ (x4_2 : Int) := of_decide_eq_true (by first | (with_reducible assumption) | assumption)
              have q33 : x4_2 < (a0.size : Int) := of_decide_eq_true (by first | (with_reducible assumption) | assumption)
              have hx33 := bt_at a0 x4_2
              replace p33 := eq_true p33
              replace q33 := eq_true q33
              go_wp2
              repeat (go_quiet (fail); try go_wp2)
              go_ret
              exact ⟨by first | rfl | (simp [errW_none, errW_some] <;> rfl) | (simp [*, errW_none, errW_some] <;> rfl), by repeat (with_reducible first | exact HB.out | apply below_alloc | apply pw_below_drewN | apply below_drew1)⟩
            rw [if_neg c12] at H
            have c12b0 : decide (x4_2 < (a0.size : Int)) = false := decide_eq_false c12
            clear c12
            replace H := Option.bind_eq_some_iff.mp H
            obtain ⟨t138, A350, H⟩ := H
            replace H : (some (t138 == 0)) = some r := H
            have A35 := Aside0.mk A350
            clear A350
            obtain rfl := Option.some.inj H
            go_wp2_with (first | (go_at_call 20; (with_reducible refine (pinfoldlaw0_Num.calls 0 t138 _ A35.out).mono ?_); rintro e w' ⟨rfl, ⟨nd, rfl⟩⟩; (try first | exact ⟨rfl, _, World.drewN_drewN _ _ _⟩ | exact ⟨rfl, _, Eq.trans (World.drewN_drewN _ _ _) (congrArg (World.drewN _) (Nat.add_assoc _ _ _))⟩)))
            repeat (go_quiet (first | (go_at_call 20; (with_reducible refine (pinfoldlaw0_Num.calls 0 t138 _ A35.out).mono ?_); rintro e w' ⟨rfl, ⟨nd, rfl⟩⟩; (try first | exact ⟨rfl, _, World.drewN_drewN _ _ _⟩ | exact ⟨rfl, _, Eq.trans (World.drewN_drewN _ _ _) (congrArg (World.drewN _) (Nat.add_assoc _ _ _))⟩))); try go_wp2_with (first | (go_at_call 20; (with_reducible refine (pinfoldlaw0_Num.calls 0 t138 _ A35.out).mono ?_); rintro e w' ⟨rfl, ⟨nd, rfl⟩⟩; (try first | exact ⟨rfl, _, World.drewN_drewN _ _ _⟩ | exact ⟨rfl, _, Eq.trans (World.drewN_drewN _ _ _) (congrArg (World.drewN _) (Nat.add_assoc _ _ _))⟩))))
            go_ret
            exact ⟨by first | rfl | (simp [errW_none, errW_some] <;> rfl) | (simp [*, errW_none, errW_some] <;> rfl), by repeat (with_reducible first | exact HB.out | apply below_alloc | apply pw_below_drewN | apply below_drew1)⟩
  replace c3 := Bool.eq_false_iff.mpr c3
  subst c3
  have H1 : (some false) = some r := by rw [if_neg (show ¬ (false = true) by decide)] at H; exact H
  clear H
  have H := H1
  clear H1
  obtain rfl := Option.some.inj H
  go_enter Tryd.func7, Tryd.ntmps7
  go_wp2_with (first | (go_at_call 19; (with_reducible refine (pinfoldlaw2_awake.calls k  false _ A2.out).mono ?_); rintro e w36 ⟨rfl, hb⟩; have n0_ := Aside0.mk (below_step (by repeat (with_reducible first | exact HB.out | apply below_alloc | apply pw_below_drewN | apply below_drew1)) hb); clear HB; have HB := n0_; clear n0_; (try clear hb)))
  repeat (go_quiet (first | (go_at_call 19; (with_reducible refine (pinfoldlaw2_awake.calls k  false _ A2.out).mono ?_); rintro e w36 ⟨rfl, hb⟩; have n0_ := Aside0.mk (below_step (by repeat (with_reducible first | exact HB.out | apply below_alloc | apply pw_below_drewN | apply below_drew1)) hb); clear HB; have HB := n0_; clear n0_; (try clear hb))); try go_wp2_with (first | (go_at_call 19; (with_reducible refine (pinfoldlaw2_awake.calls k  false _ A2.out).mono ?_); rintro e w36 ⟨rfl, hb⟩; have n0_ := Aside0.mk (below_step (by repeat (with_reducible first | exact HB.out | apply below_alloc | apply pw_below_drewN | apply below_drew1)) hb); clear HB; have HB := n0_; clear n0_; (try clear hb))))
  go_ret
  exact ⟨by first | rfl | (simp [errW_none, errW_some] <;> rfl) | (simp [*, errW_none, errW_some] <;> rfl), by repeat (with_reducible first | exact HB.out | apply below_alloc | apply pw_below_drewN | apply below_drew1)⟩

/-- THE ONE PURE STATEMENT of pinfoldlaw2_NameFolds. -/
def pinfoldlaw2_NameFolds.Pure : Prop := ∀ (a0 : ByteArray), a0.size ≤ 140737488351232 → ∃ k, pinfoldlaw2_NameFolds.f k a0 = some true
theorem pinfoldlaw2_NameFolds.walk (P : pinfoldlaw2_NameFolds.Pure) (a0 : ByteArray) (w : World)  (w0 : a0.size ≤ 140737488351232) :
    Calls Tryd.prog 7 #[.string a0] w fun e w' => e = .returned (.bool true) ∧ Below w.heap.size w w' := by
  obtain ⟨k, h⟩ := P a0 w0
  refine (pinfoldlaw2_NameFolds.calls k a0 true w  h).mono ?_
  rintro e w' ⟨rfl, hd⟩
  exact ⟨rfl, hd⟩

end Go.Proofs.YtfkgfjllgiblhaaDoor.PNameFolds
