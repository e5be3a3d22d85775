-- Made by wip/pr.py out of the translation (a turned copy of the kit's print; contracts by hand where said).
import Derived.Test.YtfkgfjllgiblhaaDoorPNamesx0
import Derived.Test.YtfkgfjllgiblhaaDoorPNamesx1
namespace Go.Proofs.YtfkgfjllgiblhaaDoor.PNames
open Go.RowKit Go.Proofs.YtfkgfjllgiblhaaDoorW.PrintWords Go.Proofs.YtfkgfjllgiblhaaDoorW.PrintLast Go.Proofs.YtfkgfjllgiblhaaDoorW.PrintMore
attribute [local go_sem] max2_int min2_int max_two min_two max_three min_three max_four min_four   -- for this text's walks alone
set_option linter.unusedVariables false
set_option linter.unusedSimpArgs false

/-! ### pinfoldref1_labelMay: function 25 -/
def pinfoldref1_labelMay.l0 : Nat → ByteArray → Int → Option (Bool)
  | 0, _, _ => none
  | k + 1, x0, x3 => if x3 < (x0.size : Int) then (if 0 ≤ x3 then (if (bt x0 x3) < 97 then (if (bt x0 x3) < 48 then (if (bt x0 x3) = 45 then (pinfoldref1_labelMay.l0 k x0 (wrap64 (x3 + 1))) else (some false)) else (if (bt x0 x3) > 57 then (if (bt x0 x3) = 45 then (pinfoldref1_labelMay.l0 k x0 (wrap64 (x3 + 1))) else (some false)) else (pinfoldref1_labelMay.l0 k x0 (wrap64 (x3 + 1))))) else (if (bt x0 x3) > 122 then (if (bt x0 x3) < 48 then (if (bt x0 x3) = 45 then (pinfoldref1_labelMay.l0 k x0 (wrap64 (x3 + 1))) else (some false)) else (if (bt x0 x3) > 57 then (if (bt x0 x3) = 45 then (pinfoldref1_labelMay.l0 k x0 (wrap64 (x3 + 1))) else (some false)) else (pinfoldref1_labelMay.l0 k x0 (wrap64 (x3 + 1))))) else (pinfoldref1_labelMay.l0 k x0 (wrap64 (x3 + 1))))) else (none)) else (if (x0.size : Int) ≥ 1 then (some (decide ((x0.size : Int) ≤ 8))) else (some false))
def pinfoldref1_labelMay.f (k : Nat) (a0 : ByteArray) : Option (Bool) := pinfoldref1_labelMay.l0 k a0 0
theorem pinfoldref1_labelMay.mono_l : ∀ k, (∀ y0 y1, LeO (pinfoldref1_labelMay.l0 k y0 y1) (pinfoldref1_labelMay.l0 (k + 1) y0 y1))
  | 0 => fun _ _ r h => by simp [pinfoldref1_labelMay.l0] at h
  | k + 1 => by
    have ih0 := pinfoldref1_labelMay.mono_l k
    · intro y0 y1
      unfold pinfoldref1_labelMay.l0
      repeat' first
      | (with_reducible exact ih0 _ _)
      | (with_reducible exact LeO.refl _)
      | (with_reducible exact LeO.none _)
      | (with_reducible refine LeO.ite ?_ ?_)
      | (with_reducible refine LeO.bind ?_ (fun _ => ?_))
      | exact ih0 _ _
      | exact LeO.none _
      | refine LeO.ite ?_ ?_
      | refine LeO.bind ?_ (fun _ => ?_)
theorem pinfoldref1_labelMay.mono : ∀ a0 k, LeO (pinfoldref1_labelMay.f k a0) (pinfoldref1_labelMay.f (k + 1) a0) := by
  intro a0 k
  have ih0 := pinfoldref1_labelMay.mono_l k
  unfold pinfoldref1_labelMay.f
  repeat' first
      | (with_reducible exact ih0 _ _)
      | (with_reducible exact LeO.refl _)
      | (with_reducible exact LeO.none _)
      | (with_reducible refine LeO.ite ?_ ?_)
      | (with_reducible refine LeO.bind ?_ (fun _ => ?_))
      | exact ih0 _ _
      | exact LeO.none _
      | refine LeO.ite ?_ ?_
      | refine LeO.bind ?_ (fun _ => ?_)
set_option maxHeartbeats 8000000 in
set_option maxRecDepth 100000 in
theorem pinfoldref1_labelMay.calls (k : Nat) (a0 : ByteArray) (r : Bool) (w : World) (h : pinfoldref1_labelMay.f k a0 = some r) :
    Calls Tryd.prog 25 #[.string a0] w fun e w' => e = .returned (.bool r) ∧ Drawn0 w w' := by
  have H : (pinfoldref1_labelMay.l0 k a0 0) = some r := h
  clear h
  have H' := Aside0.mk H
  clear H
  go_enter Tryd.func25, Tryd.ntmps25
  go_wp2
  go_loopg [3] k (fun kq v3 w' => ∃ (x3_1 : Int), v3 = .int .i64 x3_1 ∧ Aside0 (pinfoldref1_labelMay.l0 kq a0 x3_1 = some r) ∧ Aside0 (kq ≤ k) ∧ Drawn0 w w')
  case atStart => exact ⟨(0), (by first | rfl | (simp; done) | (simp [*]; done)), H', ⟨Nat.le_refl _⟩, by repeat (first | exact Drawn0.refl _ | apply Drawn0.step)⟩
  case round =>
    clear H'
    obtain ⟨x3_1, rfl, HA, HK1, ⟨m1, rfl⟩⟩ := hrel
    cases gk with
    | zero => exact absurd HA.out (by simp [pinfoldref1_labelMay.l0])
    | succ k1 =>
      have H := HA.out
      clear HA
      simp only [pinfoldref1_labelMay.l0] at H
      by_cases c2 : x3_1 < (a0.size : Int)
      · rw [if_pos c2] at H
        have c2b0 : decide (x3_1 < (a0.size : Int)) = true := decide_eq_true c2
        clear c2
        by_cases c3 : 0 ≤ x3_1
        rotate_left
        · rw [if_neg c3] at H
          exact absurd H (by simp)
        rw [if_pos c3] at H
        have c3b0 : decide (0 ≤ x3_1) = true := decide_eq_true c3
        clear c3
        by_cases c5 : (bt a0 x3_1) < 97
        · rw [if_pos c5] at H
          have c5b0 : decide ((bt a0 x3_1) < 97) = true := decide_eq_true c5
          clear c5
          by_cases c6 : (bt a0 x3_1) < 48
          · rw [if_pos c6] at H
            have c6b0 : decide ((bt a0 x3_1) < 48) = true := decide_eq_true c6
            clear c6
            by_cases c7 : (bt a0 x3_1) = 45
            · rw [if_pos c7] at H
              have c7b0 : ((bt a0 x3_1) == 45) = true := beq_iff_eq.mpr c7
              have c7b1 : ((bt a0 x3_1) != 45) = false := bne_eq_false_iff_eq.mpr c7
              clear c7
              have H' := Aside0.mk H
              clear H
              have p4 : 0 ≤ (x3_1 : Int) := of_decide_eq_true (by first | (with_reducible assumption) | assumption)
              have q4 : x3_1 < (a0.size : Int) := of_decide_eq_true (by first | (with_reducible assumption) | assumption)
              have hx4 := bt_at a0 x3_1
              replace p4 := eq_true p4
              replace q4 := eq_true q4
              go_wp2
              go_roundg k1
              case measure => have := HK1.out; omega
              case rel => exact ⟨(wrap64 (x3_1 + 1)), (by first | rfl | (simp; done) | (simp [*]; done)), H', ⟨by have := HK1.out; omega⟩, by repeat (first | exact Drawn0.refl _ | apply Drawn0.step)⟩
            rw [if_neg c7] at H
            have c7b0 : ((bt a0 x3_1) == 45) = false := beq_eq_false_iff_ne.mpr c7
            have c7b1 : ((bt a0 x3_1) != 45) = true := bne_iff_ne.mpr c7
            obtain rfl := Option.some.inj H
            have p4 : 0 ≤ (x3_1 : Int) := of_decide_eq_true (by first | (with_reducible assumption) | assumption)
            have q4 : x3_1 < (a0.size : Int) := of_decide_eq_true (by first | (with_reducible assumption) | assumption)
            have hx4 := bt_at a0 x3_1
            replace p4 := eq_true p4
            replace q4 := eq_true q4
            go_wp2
            go_ret
            exact ⟨by first | rfl | (simp; done) | (simp [*]; done), by repeat (first | exact Drawn0.refl _ | apply Drawn0.step)⟩
          rw [if_neg c6] at H
          have c6b0 : decide ((bt a0 x3_1) < 48) = false := decide_eq_false c6
          clear c6
          by_cases c8 : (bt a0 x3_1) > 57
          · rw [if_pos c8] at H
            have c8b0 : decide (57 < (bt a0 x3_1)) = true := decide_eq_true c8
            clear c8
            by_cases c9 : (bt a0 x3_1) = 45
            · rw [if_pos c9] at H
              have c9b0 : ((bt a0 x3_1) == 45) = true := beq_iff_eq.mpr c9
              have c9b1 : ((bt a0 x3_1) != 45) = false := bne_eq_false_iff_eq.mpr c9
              clear c9
              have H' := Aside0.mk H
              clear H
              have p4 : 0 ≤ (x3_1 : Int) := of_decide_eq_true (by first | (with_reducible assumption) | assumption)
              have q4 : x3_1 < (a0.size : Int) := of_decide_eq_true (by first | (with_reducible assumption) | assumption)
              have hx4 := bt_at a0 x3_1
              replace p4 := eq_true p4
              replace q4 := eq_true q4
              go_wp2
              go_roundg k1
              case measure => have := HK1.out; omega
              case rel => exact ⟨(wrap64 (x3_1 + 1)), (by first | rfl | (simp; done) | (simp [*]; done)), H', ⟨by have := HK1.out; omega⟩, by repeat (first | exact Drawn0.refl _ | apply Drawn0.step)⟩
            rw [if_neg c9] at H
            have c9b0 : ((bt a0 x3_1) == 45) = false := beq_eq_false_iff_ne.mpr c9
            have c9b1 : ((bt a0 x3_1) != 45) = true := bne_iff_ne.mpr c9
            obtain rfl := Option.some.inj H
            have p4 : 0 ≤ (x3_1 : Int) := of_decide_eq_true (by first | (with_reducible assumption) | assumption)
            have q4 : x3_1 < (a0.size : Int) := of_decide_eq_true (by first | (with_reducible assumption) | assumption)
            have hx4 := bt_at a0 x3_1
            replace p4 := eq_true p4
            replace q4 := eq_true q4
            go_wp2
            go_ret
            exact ⟨by first | rfl | (simp; done) | (simp [*]; done), by repeat (first | exact Drawn0.refl _ | apply Drawn0.step)⟩
          rw [if_neg c8] at H
          have c8b0 : decide (57 < (bt a0 x3_1)) = false := decide_eq_false c8
          clear c8
          have H' := Aside0.mk H
          clear H
          have p4 : 0 ≤ (x3_1 : Int) := of_decide_eq_true (by first | (with_reducible assumption) | assumption)
          have q4 : x3_1 < (a0.size : Int) := of_decide_eq_true (by first | (with_reducible assumption) | assumption)
          have hx4 := bt_at a0 x3_1
          replace p4 := eq_true p4
          replace q4 := eq_true q4
          go_wp2
          go_roundg k1
          case measure => have := HK1.out; omega
          case rel => exact ⟨(wrap64 (x3_1 + 1)), (by first | rfl | (simp; done) | (simp [*]; done)), H', ⟨by have := HK1.out; omega⟩, by repeat (first | exact Drawn0.refl _ | apply Drawn0.step)⟩
        rw [if_neg c5] at H
        have c5b0 : decide ((bt a0 x3_1) < 97) = false := decide_eq_false c5
        clear c5
        by_cases c10 : (bt a0 x3_1) > 122
        · rw [if_pos c10] at H
          have c10b0 : decide (122 < (bt a0 x3_1)) = true := decide_eq_true c10
          clear c10
          by_cases c11 : (bt a0 x3_1) < 48
          · rw [if_pos c11] at H
            have c11b0 : decide ((bt a0 x3_1) < 48) = true := decide_eq_true c11
            clear c11
            by_cases c12 : (bt a0 x3_1) = 45
            · rw [if_pos c12] at H
              have c12b0 : ((bt a0 x3_1) == 45) = true := beq_iff_eq.mpr c12
              have c12b1 : ((bt a0 x3_1) != 45) = false := bne_eq_false_iff_eq.mpr c12
              clear c12
              have H' := Aside0.mk H
              clear H
              have p4 : 0 ≤ (x3_1 : Int) := of_decide_eq_true (by first | (with_reducible assumption) | assumption)
              have q4 : x3_1 < (a0.size : Int) := of_decide_eq_true (by first | (with_reducible assumption) | assumption)
              have hx4 := bt_at a0 x3_1
              replace p4 := eq_true p4
              replace q4 := eq_true q4
              go_wp2
              go_roundg k1
              case measure => have := HK1.out; omega
              case rel => exact ⟨(wrap64 (x3_1 + 1)), (by first | rfl | (simp; done) | (simp [*]; done)), H', ⟨by have := HK1.out; omega⟩, by repeat (first | exact Drawn0.refl _ | apply Drawn0.step)⟩
            rw [if_neg c12] at H
            have c12b0 : ((bt a0 x3_1) == 45) = false := beq_eq_false_iff_ne.mpr c12
            have c12b1 : ((bt a0 x3_1) != 45) = true := bne_iff_ne.mpr c12
            obtain rfl := Option.some.inj H
            have p4 : 0 ≤ (x3_1 : Int) := of_decide_eq_true (by first | (with_reducible assumption) | assumption)
            have q4 : x3_1 < (a0.size : Int) := of_decide_eq_true (by first | (with_reducible assumption) | assumption)
            have hx4 := bt_at a0 x3_1
            replace p4 := eq_true p4
            replace q4 := eq_true q4
            go_wp2
            go_ret
            exact ⟨by first | rfl | (simp; done) | (simp [*]; done), by repeat (first | exact Drawn0.refl _ | apply Drawn0.step)⟩
          rw [if_neg c11] at H
          have c11b0 : decide ((bt a0 x3_1) < 48) = false := decide_eq_false c11
          clear c11
          by_cases c13 : (bt a0 x3_1) > 57
          · rw [if_pos c13] at H
            have c13b0 : decide (57 < (bt a0 x3_1)) = true := decide_eq_true c13
            clear c13
            by_cases c14 : (bt a0 x3_1) = 45
            · rw [if_pos c14] at H
              have c14b0 : ((bt a0 x3_1) == 45) = true := beq_iff_eq.mpr c14
              have c14b1 : ((bt a0 x3_1) != 45) = false := bne_eq_false_iff_eq.mpr c14
              clear c14
              have H' := Aside0.mk H
              clear H
              have p4 : 0 ≤ (x3_1 : Int) := of_decide_eq_true (by first | (with_reducible assumption) | assumption)
              have q4 : x3_1 < (a0.size : Int) := of_decide_eq_true (by first | (with_reducible assumption) | assumption)
              have hx4 := bt_at a0 x3_1
              replace p4 := eq_true p4
              replace q4 := eq_true q4
              go_wp2
              go_roundg k1
              case measure => have := HK1.out; omega
              case rel => exact ⟨(wrap64 (x3_1 + 1)), (by first | rfl | (simp; done) | (simp [*]; done)), H', ⟨by have := HK1.out; omega⟩, by repeat (first | exact Drawn0.refl _ | apply Drawn0.step)⟩
            rw [if_neg c14] at H
            have c14b0 : ((bt a0 x3_1) == 45) = false := beq_eq_false_iff_ne.mpr c14
            have c14b1 : ((bt a0 x3_1) != 45) = true := bne_iff_ne.mpr c14
            obtain rfl := Option.some.inj H
            have p4 : 0 ≤ (x3_1 : Int) := of_decide_eq_true (by first | (with_reducible assumption) | assumption)
            have q4 : x3_1 < (a0.size : Int) := of_decide_eq_true (by first | (with_reducible assumption) | assumption)
            have hx4 := bt_at a0 x3_1
            replace p4 := eq_true p4
            replace q4 := eq_true q4
            go_wp2
            go_ret
            exact ⟨by first | rfl | (simp; done) | (simp [*]; done), by repeat (first | exact Drawn0.refl _ | apply Drawn0.step)⟩
          rw [if_neg c13] at H
          have c13b0 : decide (57 < (bt a0 x3_1)) = false := decide_eq_false c13
          clear c13
          have H' := Aside0.mk H
          clear H
          have p4 : 0 ≤ (x3_1 : Int) := of_decide_eq_true (by first | (with_reducible assumption) | assumption)
          have q4 : x3_1 < (a0.size : Int) := of_decide_eq_true (by first | (with_reducible assumption) | assumption)
          have hx4 := bt_at a0 x3_1
          replace p4 := eq_true p4
          replace q4 := eq_true q4
          go_wp2
          go_roundg k1
          case measure => have := HK1.out; omega
          case rel => exact ⟨(wrap64 (x3_1 + 1)), (by first | rfl | (simp; done) | (simp [*]; done)), H', ⟨by have := HK1.out; omega⟩, by repeat (first | exact Drawn0.refl _ | apply Drawn0.step)⟩
        rw [if_neg c10] at H
        have c10b0 : decide (122 < (bt a0 x3_1)) = false := decide_eq_false c10
        clear c10
        have H' := Aside0.mk H
        clear H
        have p4 : 0 ≤ (x3_1 : Int) := of_decide_eq_true (by first | (with_reducible assumption) | assumption)
        have q4 : x3_1 < (a0.size : Int) := of_decide_eq_true (by first | (with_reducible assumption) | assumption)
        have hx4 := bt_at a0 x3_1
        replace p4 := eq_true p4
        replace q4 := eq_true q4
        go_wp2
        go_roundg k1
        case measure => have := HK1.out; omega
        case rel => exact ⟨(wrap64 (x3_1 + 1)), (by first | rfl | (simp; done) | (simp [*]; done)), H', ⟨by have := HK1.out; omega⟩, by repeat (first | exact Drawn0.refl _ | apply Drawn0.step)⟩
      rw [if_neg c2] at H
      have c2b0 : decide (x3_1 < (a0.size : Int)) = false := decide_eq_false c2
      clear c2
      by_cases c15 : (a0.size : Int) ≥ 1
      · rw [if_pos c15] at H
        have c15b0 : decide (1 ≤ (a0.size : Int)) = true := decide_eq_true c15
        have c15b1 : decide (1 ≤ a0.size) = true := decide_eq_true (by omega)
        clear c15
        obtain rfl := Option.some.inj H
        go_wp2
        go_ret
        exact ⟨by first | rfl | (simp; done) | (simp [*]; done), by repeat (first | exact Drawn0.refl _ | apply Drawn0.step)⟩
      rw [if_neg c15] at H
      have c15b0 : decide (1 ≤ (a0.size : Int)) = false := decide_eq_false c15
      have c15b1 : decide (1 ≤ a0.size) = false := decide_eq_false (by omega)
      clear c15
      obtain rfl := Option.some.inj H
      go_wp2
      go_ret
      exact ⟨by first | rfl | (simp; done) | (simp [*]; done), by repeat (first | exact Drawn0.refl _ | apply Drawn0.step)⟩

/-! ### pinfoldref1_NameMay: function 11 -/
def pinfoldref1_NameMay.l0 : Nat → List ByteArray → Int → Option (Bool)
  | 0, _, _ => none
  | k + 1, x3, x4 => if x4 < (x3.length : Int) then (if 0 ≤ x4 then ((pinfoldref1_labelMay.f k (rdOf ByteArray.empty x3 x4)).bind fun t121 => (if t121 = true then (pinfoldref1_NameMay.l0 k x3 (wrap64 (x4 + 1))) else (some false))) else (none)) else (some (decide ((x3.length : Int) ≤ 8)))
def pinfoldref1_NameMay.f (k : Nat) (a0 : ByteArray) : Option (Bool) := if a0.toList = ([] : List UInt8) then (some true) else ((pinfoldref1_parts.f k a0).bind fun t117 => (pinfoldref1_NameMay.l0 k t117 0))
theorem pinfoldref1_NameMay.mono_l : ∀ k, (∀ y0 y1, LeO (pinfoldref1_NameMay.l0 k y0 y1) (pinfoldref1_NameMay.l0 (k + 1) y0 y1))
  | 0 => fun _ _ r h => by simp [pinfoldref1_NameMay.l0] at h
  | k + 1 => by
    have ih0 := pinfoldref1_NameMay.mono_l k
    · intro y0 y1
      unfold pinfoldref1_NameMay.l0
      repeat' first
      | (with_reducible exact ih0 _ _)
      | (with_reducible exact pinfoldref1_labelMay.mono _ _)
      | (with_reducible exact pinfoldref1_parts.mono _ _)
      | (with_reducible exact LeO.refl _)
      | (with_reducible exact LeO.none _)
      | (with_reducible refine LeO.ite ?_ ?_)
      | (with_reducible refine LeO.bind ?_ (fun _ => ?_))
      | exact ih0 _ _
      | exact pinfoldref1_labelMay.mono _ _
      | exact pinfoldref1_parts.mono _ _
      | exact LeO.none _
      | refine LeO.ite ?_ ?_
      | refine LeO.bind ?_ (fun _ => ?_)
theorem pinfoldref1_NameMay.mono : ∀ a0 k, LeO (pinfoldref1_NameMay.f k a0) (pinfoldref1_NameMay.f (k + 1) a0) := by
  intro a0 k
  have ih0 := pinfoldref1_NameMay.mono_l k
  unfold pinfoldref1_NameMay.f
  repeat' first
      | (with_reducible exact ih0 _ _)
      | (with_reducible exact pinfoldref1_labelMay.mono _ _)
      | (with_reducible exact pinfoldref1_parts.mono _ _)
      | (with_reducible exact LeO.refl _)
      | (with_reducible exact LeO.none _)
      | (with_reducible refine LeO.ite ?_ ?_)
      | (with_reducible refine LeO.bind ?_ (fun _ => ?_))
      | exact ih0 _ _
      | exact pinfoldref1_labelMay.mono _ _
      | exact pinfoldref1_parts.mono _ _
      | exact LeO.none _
      | refine LeO.ite ?_ ?_
      | refine LeO.bind ?_ (fun _ => ?_)
set_option maxHeartbeats 8000000 in
set_option maxRecDepth 100000 in
theorem pinfoldref1_NameMay.calls (k : Nat) (a0 : ByteArray) (r : Bool) (w : World) (h : pinfoldref1_NameMay.f k a0 = some r) :
    Calls Tryd.prog 11 #[.string a0] w fun e w' => e = .returned (.bool r) ∧ Below w.heap.size w w' := by
  have HB := Aside0.mk (Below.refl w.heap.size w)
  have H : (if a0.toList = ([] : List UInt8) then (some true) else ((pinfoldref1_parts.f k a0).bind fun t117 => (pinfoldref1_NameMay.l0 k t117 0))) = some r := h
  clear h
  by_cases c2 : a0.toList = ([] : List UInt8)
  · rw [if_pos c2] at H
    have c2b0 : (a0.toList == ([] : List UInt8)) = true := beq_iff_eq.mpr c2
    have c2b1 : (a0.toList != ([] : List UInt8)) = false := bne_eq_false_iff_eq.mpr c2
    clear c2
    obtain rfl := Option.some.inj H
    go_enter Tryd.func11, Tryd.ntmps11
    go_wp2
    go_ret
    exact ⟨by first | rfl | (simp [errW_none, errW_some] <;> rfl) | (simp [*, errW_none, errW_some] <;> rfl) | (simp only [str_ne_]; rfl) | (simp only [str_eq_]; rfl), by repeat (with_reducible first | exact HB.out | apply below_alloc | apply pw_below_drewN | apply below_drew1)⟩
  rw [if_neg c2] at H
  have c2b0 : (a0.toList == ([] : List UInt8)) = false := beq_eq_false_iff_ne.mpr c2
  have c2b1 : (a0.toList != ([] : List UInt8)) = true := bne_iff_ne.mpr c2
  replace H := Option.bind_eq_some_iff.mp H
  obtain ⟨t117, A30, H⟩ := H
  replace H : (pinfoldref1_NameMay.l0 k t117 0) = some r := H
  have A3 := Aside0.mk A30
  clear A30
  have H' := Aside0.mk H
  clear H
  go_enter Tryd.func11, Tryd.ntmps11
  go_wp2_with (first | ((with_reducible refine gate_callee (f := 24) rfl ?_); refine goesL_ (some 8) rfl rfl Tryd.func24 (by kernel_rfl) rfl #[.string a0] rfl (by (try simp only [List.map_toArray, List.map_cons, List.map_nil]); first | done | rfl | (simp only [List.length_drop, List.length_take]; rfl)) ?_; (with_reducible refine (pinfoldref1_parts.calls k a0 t117 _ A3.out).mono ?_); rintro e w4 ⟨v118, rfl, ho0, hb⟩; refine ⟨_, rfl, ?_⟩; have n0_ := Aside0.mk (Kd.R_lower ho0 (below_size (by repeat (with_reducible first | exact HB.out | apply below_alloc | apply pw_below_drewN | apply below_drew1)))); have n1_ := Aside0.mk (below_step (by repeat (with_reducible first | exact HB.out | apply below_alloc | apply pw_below_drewN | apply below_drew1)) hb); clear HB; have HO119 := n0_; have HB := n1_; clear n0_ n1_; (try clear hb); (try clear ho0)))
  go_loopg [4] k (fun kq v4 w' => ∃ (x4_1 : Int), v4 = .int .i64 x4_1 ∧ Aside0 (pinfoldref1_NameMay.l0 kq t117 x4_1 = some r) ∧ Aside0 (kq ≤ k) ∧ Aside0 (Kd.R Kd.string 9 w' w.heap.size (fun _ => True) v118 t117) ∧ Aside0 (Below w.heap.size w w'))
  case atStart => exact ⟨(0), (by first | rfl | (simp; done) | (simp [*]; done) | (simp only [str_ne_]; rfl) | (simp only [str_eq_]; rfl)), H', ⟨Nat.le_refl _⟩, ⟨by (with_reducible repeat (first | apply Kd.R_alloc | apply Kd.R_drewN | apply Kd.R_drew)); exact HO119.out⟩, ⟨by repeat (with_reducible first | exact HB.out | apply below_alloc | apply pw_below_drewN | apply below_drew1)⟩⟩
  case round =>
    clear H'
    (try clear c2); (try clear c2b0); (try clear c2b1)
    obtain ⟨x4_1, rfl, HA, HK1, HO_3, HB⟩ := hrel
    cases gk with
    | zero => exact absurd HA.out (by simp [pinfoldref1_NameMay.l0])
    | succ k1 =>
      have H := HA.out
      clear HA
      simp only [pinfoldref1_NameMay.l0] at H
      by_cases c5 : x4_1 < (t117.length : Int)
      · rw [if_pos c5] at H
        have c5b0 : decide (x4_1 < (t117.length : Int)) = true := decide_eq_true c5
        clear c5
        by_cases c6 : 0 ≤ x4_1
        rotate_left
        · rw [if_neg c6] at H
          exact absurd H (by simp)
        rw [if_pos c6] at H
        have c6b0 : decide (0 ≤ x4_1) = true := decide_eq_true c6
        clear c6
        replace H := Option.bind_eq_some_iff.mp H
        obtain ⟨t121, A70, H⟩ := H
        replace H : (if t121 = true then (pinfoldref1_NameMay.l0 k1 t117 (wrap64 (x4_1 + 1))) else (some false)) = some r := H
        have A7 := Aside0.mk A70
        clear A70
        by_cases c8 : t121 = true
        · subst c8
          have H1 : (pinfoldref1_NameMay.l0 k1 t117 (wrap64 (x4_1 + 1))) = some r := by rw [if_pos rfl] at H; exact H
          clear H
          have H := H1
          clear H1
          have H' := Aside0.mk H
          clear H
          obtain ⟨Ao9, co9, eo9⟩ := Kd.R_slice HO_3.out
          subst eo9
          have p120 : 0 ≤ (x4_1 : Int) := of_decide_eq_true (by first | (with_reducible assumption) | assumption)
          have q120 : x4_1 < (t117.length : Int) := of_decide_eq_true (by first | (with_reducible assumption) | assumption)
          obtain ⟨ad120, e120, hx120_0⟩ := Kd.at_string (Kd.R_reads' HO_3.out).2.2 x4_1 p120 q120
          cases e120
          replace p120 := eq_true p120
          replace q120 := eq_true q120
          go_wp2_with (first | ((with_reducible refine gate_callee (f := 25) rfl ?_); refine goesL_ (some 19) rfl rfl Tryd.func25 (by kernel_rfl) rfl #[.string (rdOf ByteArray.empty t117 x4_1)] rfl (by (try simp only [List.map_toArray, List.map_cons, List.map_nil]); first | done | rfl | (simp only [List.length_drop, List.length_take]; rfl)) ?_; (with_reducible refine (pinfoldref1_labelMay.calls k1 (rdOf ByteArray.empty t117 x4_1) true _ A7.out).mono ?_); rintro e w' ⟨rfl, ⟨nd, rfl⟩⟩; refine ⟨_, rfl, ?_⟩))
          go_roundg k1
          case measure => have := HK1.out; omega
          case rel => exact ⟨(wrap64 (x4_1 + 1)), (by first | rfl | (simp; done) | (simp [*]; done) | (simp only [str_ne_]; rfl) | (simp only [str_eq_]; rfl)), H', ⟨by have := HK1.out; omega⟩, ⟨by (with_reducible repeat (first | apply Kd.R_alloc | apply Kd.R_drewN | apply Kd.R_drew)); exact HO_3.out⟩, ⟨by repeat (with_reducible first | exact HB.out | apply below_alloc | apply pw_below_drewN | apply below_drew1)⟩⟩
        replace c8 := Bool.eq_false_iff.mpr c8
        subst c8
        have H1 : (some false) = some r := by rw [if_neg (show ¬ (false = true) by decide)] at H; exact H
        clear H
        have H := H1
        clear H1
        obtain rfl := Option.some.inj H
        obtain ⟨Ao10, co10, eo10⟩ := Kd.R_slice HO_3.out
        subst eo10
        have p120 : 0 ≤ (x4_1 : Int) := of_decide_eq_true (by first | (with_reducible assumption) | assumption)
        have q120 : x4_1 < (t117.length : Int) := of_decide_eq_true (by first | (with_reducible assumption) | assumption)
        obtain ⟨ad120, e120, hx120_0⟩ := Kd.at_string (Kd.R_reads' HO_3.out).2.2 x4_1 p120 q120
        cases e120
        replace p120 := eq_true p120
        replace q120 := eq_true q120
        go_wp2_with (first | ((with_reducible refine gate_callee (f := 25) rfl ?_); refine goesL_ (some 19) rfl rfl Tryd.func25 (by kernel_rfl) rfl #[.string (rdOf ByteArray.empty t117 x4_1)] rfl (by (try simp only [List.map_toArray, List.map_cons, List.map_nil]); first | done | rfl | (simp only [List.length_drop, List.length_take]; rfl)) ?_; (with_reducible refine (pinfoldref1_labelMay.calls k1 (rdOf ByteArray.empty t117 x4_1) false _ A7.out).mono ?_); rintro e w' ⟨rfl, ⟨nd, rfl⟩⟩; refine ⟨_, rfl, ?_⟩))
        go_ret
        exact ⟨by first | rfl | (simp [errW_none, errW_some] <;> rfl) | (simp [*, errW_none, errW_some] <;> rfl) | (simp only [str_ne_]; rfl) | (simp only [str_eq_]; rfl), by repeat (with_reducible first | exact HB.out | apply below_alloc | apply pw_below_drewN | apply below_drew1)⟩
      rw [if_neg c5] at H
      have c5b0 : decide (x4_1 < (t117.length : Int)) = false := decide_eq_false c5
      clear c5
      obtain rfl := Option.some.inj H
      obtain ⟨Ao11, co11, eo11⟩ := Kd.R_slice HO_3.out
      subst eo11
      go_wp2
      go_ret
      exact ⟨by first | rfl | (simp [errW_none, errW_some] <;> rfl) | (simp [*, errW_none, errW_some] <;> rfl) | (simp only [str_ne_]; rfl) | (simp only [str_eq_]; rfl), by repeat (with_reducible first | exact HB.out | apply below_alloc | apply pw_below_drewN | apply below_drew1)⟩

/-! ### name_Fold: function 12 -/
-- BY HAND
/-- a byte, folded. -/
def name_Fold.byte (b : Int) : Int := if 65 ≤ b ∧ b ≤ 90 then b + 32 else b
def name_Fold.f (a0 : ByteArray) : Option ByteArray := if a0.size ≤ 140737488351232 then some (strOfNums ((bytesOf a0).map name_Fold.byte)) else none
/-- a row of bytes, made out of a string, that is written over. -/
def name_Fold.Row (w : World) (g : Nat) (e : TypeId) (xs : List Int) : Prop :=
  ∃ cells : Array Value, w.heap[g]? = some (.cells cells e (cells.size, cells.size + 1)) ∧ xs.length ≤ cells.size ∧ ∀ j, j < xs.length → cells[j]? = some (.int .u8 (xs.getD j 0))
theorem name_Fold.Row.cell {w : World} {g : Nat} {e : TypeId} {xs : List Int} (h : name_Fold.Row w g e xs) {j : Nat} (hj : j < xs.length) : w.cell? ⟨g, j, none⟩ = some (.int .u8 (xs.getD j 0)) := by
  obtain ⟨cells, h1, _, h3⟩ := h
  rw [cell_of_row w g j cells e _ h1]
  exact h3 j hj
theorem name_Fold.Row.frozen {w : World} {g : Nat} {e : TypeId} {xs : List Int} (h : name_Fold.Row w g e xs) {j : Nat} (hj : j < xs.length) : w.frozen? ⟨g, j, none⟩ = false := by
  obtain ⟨cells, h1, h2, _⟩ := h
  have h4 : ¬ cells.size ≤ j := by omega
  simp [World.frozen?, h1, h4]
theorem name_Fold.Row.set {w : World} {g : Nat} {e : TypeId} {xs : List Int} (h : name_Fold.Row w g e xs) {j : Nat} (hj : j < xs.length) {v : Value} {x : Int} (hv : v = .int .u8 x) : name_Fold.Row (w.setCell ⟨g, j, none⟩ v) g e (xs.set j x) := by
  obtain ⟨cells, h1, h2, h3⟩ := h
  subst hv
  refine ⟨cells.setIfInBounds j (.int .u8 x), ?_, by rw [List.length_set, Array.size_setIfInBounds]; exact h2, ?_⟩
  · rw [Array.size_setIfInBounds]
    simp [World.setCell, Array.getElem?_modify, h1]
  · intro i hi
    rw [List.length_set] at hi
    by_cases hij : i = j
    · subst hij
      rw [Array.getElem?_setIfInBounds_self_of_lt (by omega), List.getD_eq_getElem?_getD, List.getElem?_set_self hj]
      rfl
    · rw [Array.getElem?_setIfInBounds_ne (fun e => hij e.symm), h3 i hi, List.getD_eq_getElem?_getD, List.getD_eq_getElem?_getD, List.getElem?_set_ne (fun e => hij e.symm)]
def name_Fold.fold (k : Nat) (l : List Int) : List Int := (l.take k).map name_Fold.byte ++ l.drop k
theorem name_Fold.fold_length (k : Nat) (l : List Int) : (name_Fold.fold k l).length = l.length := by
  unfold name_Fold.fold
  rw [List.length_append, List.length_map, List.length_take, List.length_drop]
  omega
theorem name_Fold.fold_split (k : Nat) (l : List Int) (h : k < l.length) : name_Fold.fold k l = (l.take k).map name_Fold.byte ++ l[k] :: l.drop (k + 1) := by
  unfold name_Fold.fold
  rw [List.drop_eq_getElem_cons h]
theorem name_Fold.fold_get (k : Nat) (l : List Int) (h : k < l.length) : (name_Fold.fold k l).getD k 0 = l[k] := by
  rw [name_Fold.fold_split k l h, List.getD_eq_getElem?_getD, List.getElem?_append_right (by rw [List.length_map, List.length_take]; omega), List.length_map, List.length_take, Nat.min_eq_left (by omega), Nat.sub_self]
  rfl
theorem name_Fold.fold_next (k : Nat) (l : List Int) (h : k < l.length) : name_Fold.fold (k + 1) l = (name_Fold.fold k l).set k (name_Fold.byte l[k]) := by
  rw [name_Fold.fold_split k l h, List.set_append, if_neg (by rw [List.length_map, List.length_take]; omega), List.length_map, List.length_take, Nat.min_eq_left (by omega), Nat.sub_self, List.set_cons_zero]
  unfold name_Fold.fold
  rw [List.take_succ_eq_append_getElem h, List.map_append, List.append_assoc]
  rfl
theorem name_Fold.fold_stay (k : Nat) (l : List Int) (h : k < l.length) (hb : name_Fold.byte l[k] = l[k]) : name_Fold.fold (k + 1) l = name_Fold.fold k l := by
  rw [name_Fold.fold_next k l h, hb, name_Fold.fold_split k l h, List.set_append, if_neg (by rw [List.length_map, List.length_take]; omega), List.length_map, List.length_take, Nat.min_eq_left (by omega), Nat.sub_self, List.set_cons_zero]
theorem name_Fold.row0 (w : World) (e : TypeId) (s : ByteArray) : name_Fold.Row (Lib.bytesWorld w e s) w.heap.size e (bytesOf s) := by
  refine ⟨Lib.bytesCells w e s, Lib.bytesWorld_at_new w e s, ?_, ?_⟩
  · rw [bytesOf_length]
    unfold Lib.bytesCells
    rw [Array.size_append, Array.size_map]
    exact Nat.le_add_right _ _
  · intro j hj
    rw [bytesOf_length] at hj
    have h1 := Lib.bytesWorld_cell w e s j hj
    rw [cell_of_row _ _ j _ _ _ (Lib.bytesWorld_at_new w e s)] at h1
    rw [h1]
    have hd : j < s.data.toList.length := by rw [data_length]; exact hj
    unfold bytesOf
    rw [List.getD_eq_getElem?_getD, List.getD_eq_getElem?_getD, List.getElem?_map, List.getElem?_eq_getElem hd]
    rfl
set_option maxHeartbeats 8000000 in
set_option maxRecDepth 100000 in
theorem name_Fold.calls (a0 : ByteArray) (r : ByteArray) (w : World) (h : name_Fold.f a0 = some r) :
    Calls Tryd.prog 12 #[.string a0] w fun e w' => e = .returned (.string r) ∧ Below w.heap.size w w' := by
  unfold name_Fold.f at h
  by_cases hs : a0.size ≤ 140737488351232
  · rw [if_pos hs] at h
    obtain rfl := Option.some.inj h
    clear h
    have hconv := Lib.run_convert_string_bytes (P := Tryd.prog) w 9 38 5 a0 Tryd.underlying9 Tryd.underlying38 Tryd.underlying5
    have HB := Aside0.mk ((⟨rfl, rfl, rfl, by rw [Lib.bytesWorld_size]; omega, fun k hk => Lib.bytesWorld_at_old w 5 a0 k (by omega)⟩ : Below w.heap.size w (Lib.bytesWorld w 5 a0)))
    have HR := Aside0.mk (name_Fold.row0 w 5 a0)
    obtain ⟨W1, hW1⟩ : ∃ W1, Lib.bytesWorld w 5 a0 = W1 := ⟨_, rfl⟩
    obtain ⟨c1, hc1⟩ : ∃ c1, grownCap w a0.size 0 5 = c1 := ⟨_, rfl⟩
    obtain ⟨g, hg⟩ : ∃ g, w.heap.size = g := ⟨_, rfl⟩
    rw [hW1, hc1, hg] at hconv
    rw [hW1, hg] at HR
    rw [hW1, hg] at HB
    rw [hg]
    clear hW1 hc1 hg
    obtain ⟨l, hl⟩ : ∃ l, bytesOf a0 = l := ⟨_, rfl⟩
    have hll : l.length = a0.size := by rw [← hl, bytesOf_length]
    have hlb : ∀ (k : Nat) (h : k < l.length), 0 ≤ l[k] ∧ l[k] ≤ 255 := by
      intro k hk
      subst hl
      have h2 := bt_range a0 (k : Int)
      have h3 : bt a0 (k : Int) = (bytesOf a0)[k] := by
        rw [← rd_bytesOf]
        unfold rd
        rw [Int.toNat_natCast, List.getD_eq_getElem?_getD, List.getElem?_eq_getElem hk]
        rfl
      rw [h3] at h2
      omega
    rw [hl] at HR ⊢
    clear hl
    go_enter Tryd.func12, Tryd.ntmps12
    go_wp2
    go_loopg [10] a0.size (fun d v10 w' => ∃ k : Nat, k + d = a0.size ∧ v10 = .int .i64 k ∧ Aside0 (name_Fold.Row w' g 5 (name_Fold.fold k l)) ∧ Aside0 (Below g w w'))
    case atStart => exact ⟨0, by omega, rfl, HR, HB⟩
    case round =>
      clear HR HB
      obtain ⟨k, hk, rfl, HR, HB⟩ := hrel
      by_cases hlt : k < a0.size
      · have hkl : k < l.length := by omega
        have hkf : k < (name_Fold.fold k l).length := by rw [name_Fold.fold_length]; exact hkl
        have hx := HR.out.cell hkf
        have hz := HR.out.frozen hkf
        have HN := Aside0.mk (name_Fold.fold_next k l hkl)
        have HY := Aside0.mk (name_Fold.fold_stay k l hkl)
        rw [name_Fold.fold_get k l hkl] at hx
        obtain ⟨hb0, hb1⟩ := hlb k hkl
        obtain ⟨b, hb⟩ : ∃ b : Int, l[k] = b := ⟨_, rfl⟩
        rw [hb] at hx hb0 hb1
        rw [hb] at HN HY
        clear hb
        by_cases q1 : 65 ≤ b
        · by_cases q2 : b ≤ 90
          · go_wp2
            go_roundg (a0.size - (k + 1))
            case measure => first | omega | (simp; omega)
            case rel =>
              refine ⟨k + 1, by omega, by go_num, ⟨?_⟩, ⟨HB.out.setCell (Nat.le_refl _) _⟩⟩
              rw [HN.out]
              refine HR.out.set hkf ?_
              unfold name_Fold.byte
              rw [if_pos ⟨q1, q2⟩]
              go_num
          · go_wp2
            go_roundg (a0.size - (k + 1))
            case measure => first | omega | (simp; omega)
            case rel => exact ⟨k + 1, by omega, by go_num, ⟨by rw [HY.out (by unfold name_Fold.byte; rw [if_neg (by omega)])]; exact HR.out⟩, HB⟩
        · go_wp2
          go_roundg (a0.size - (k + 1))
          case measure => first | omega | (simp; omega)
          case rel => exact ⟨k + 1, by omega, by go_num, ⟨by rw [HY.out (by unfold name_Fold.byte; rw [if_neg (by omega)])]; exact HR.out⟩, HB⟩
      · have hke : k = a0.size := by omega
        subst hke
        have hfl : (name_Fold.fold a0.size l).length = a0.size := by rw [name_Fold.fold_length, hll]
        have hE := Aside0.mk (show name_Fold.fold a0.size l = l.map name_Fold.byte by
          unfold name_Fold.fold
          rw [← hll, List.take_length, List.drop_length, List.append_nil])
        have hcv := run_convert_bytes_arg (P := Tryd.prog) _ 38 5 Tryd.underlying38 Tryd.underlying5 g 0 a0.size c1 (name_Fold.fold a0.size l) hfl (fun i hi => by
          have := HR.out.cell (j := i) (by omega)
          rw [Nat.zero_add]
          exact this) 9 Tryd.underlying9
        rw [hE.out] at hcv
        go_wp2
        go_ret
        exact ⟨rfl, HB.out⟩
  · rw [if_neg hs] at h
    cases h

/-! ### pinfoldref1_Fold: function 13 -/
-- BY HAND
/-- a byte, folded. -/
def pinfoldref1_Fold.byte (b : Int) : Int := if 65 ≤ b ∧ b ≤ 90 then b + 32 else b
def pinfoldref1_Fold.f (a0 : ByteArray) : Option ByteArray := if a0.size ≤ 140737488351232 then some (strOfNums ((bytesOf a0).map pinfoldref1_Fold.byte)) else none
/-- a row of bytes, made out of a string, that is written over. -/
def pinfoldref1_Fold.Row (w : World) (g : Nat) (e : TypeId) (xs : List Int) : Prop :=
  ∃ cells : Array Value, w.heap[g]? = some (.cells cells e (cells.size, cells.size + 1)) ∧ xs.length ≤ cells.size ∧ ∀ j, j < xs.length → cells[j]? = some (.int .u8 (xs.getD j 0))
theorem pinfoldref1_Fold.Row.cell {w : World} {g : Nat} {e : TypeId} {xs : List Int} (h : pinfoldref1_Fold.Row w g e xs) {j : Nat} (hj : j < xs.length) : w.cell? ⟨g, j, none⟩ = some (.int .u8 (xs.getD j 0)) := by
  obtain ⟨cells, h1, _, h3⟩ := h
  rw [cell_of_row w g j cells e _ h1]
  exact h3 j hj
theorem pinfoldref1_Fold.Row.frozen {w : World} {g : Nat} {e : TypeId} {xs : List Int} (h : pinfoldref1_Fold.Row w g e xs) {j : Nat} (hj : j < xs.length) : w.frozen? ⟨g, j, none⟩ = false := by
  obtain ⟨cells, h1, h2, _⟩ := h
  have h4 : ¬ cells.size ≤ j := by omega
  simp [World.frozen?, h1, h4]
theorem pinfoldref1_Fold.Row.set {w : World} {g : Nat} {e : TypeId} {xs : List Int} (h : pinfoldref1_Fold.Row w g e xs) {j : Nat} (hj : j < xs.length) {v : Value} {x : Int} (hv : v = .int .u8 x) : pinfoldref1_Fold.Row (w.setCell ⟨g, j, none⟩ v) g e (xs.set j x) := by
  obtain ⟨cells, h1, h2, h3⟩ := h
  subst hv
  refine ⟨cells.setIfInBounds j (.int .u8 x), ?_, by rw [List.length_set, Array.size_setIfInBounds]; exact h2, ?_⟩
  · rw [Array.size_setIfInBounds]
    simp [World.setCell, Array.getElem?_modify, h1]
  · intro i hi
    rw [List.length_set] at hi
    by_cases hij : i = j
    · subst hij
      rw [Array.getElem?_setIfInBounds_self_of_lt (by omega), List.getD_eq_getElem?_getD, List.getElem?_set_self hj]
      rfl
    · rw [Array.getElem?_setIfInBounds_ne (fun e => hij e.symm), h3 i hi, List.getD_eq_getElem?_getD, List.getD_eq_getElem?_getD, List.getElem?_set_ne (fun e => hij e.symm)]
def pinfoldref1_Fold.fold (k : Nat) (l : List Int) : List Int := (l.take k).map pinfoldref1_Fold.byte ++ l.drop k
theorem pinfoldref1_Fold.fold_length (k : Nat) (l : List Int) : (pinfoldref1_Fold.fold k l).length = l.length := by
  unfold pinfoldref1_Fold.fold
  rw [List.length_append, List.length_map, List.length_take, List.length_drop]
  omega
theorem pinfoldref1_Fold.fold_split (k : Nat) (l : List Int) (h : k < l.length) : pinfoldref1_Fold.fold k l = (l.take k).map pinfoldref1_Fold.byte ++ l[k] :: l.drop (k + 1) := by
  unfold pinfoldref1_Fold.fold
  rw [List.drop_eq_getElem_cons h]
theorem pinfoldref1_Fold.fold_get (k : Nat) (l : List Int) (h : k < l.length) : (pinfoldref1_Fold.fold k l).getD k 0 = l[k] := by
  rw [pinfoldref1_Fold.fold_split k l h, List.getD_eq_getElem?_getD, List.getElem?_append_right (by rw [List.length_map, List.length_take]; omega), List.length_map, List.length_take, Nat.min_eq_left (by omega), Nat.sub_self]
  rfl
theorem pinfoldref1_Fold.fold_next (k : Nat) (l : List Int) (h : k < l.length) : pinfoldref1_Fold.fold (k + 1) l = (pinfoldref1_Fold.fold k l).set k (pinfoldref1_Fold.byte l[k]) := by
  rw [pinfoldref1_Fold.fold_split k l h, List.set_append, if_neg (by rw [List.length_map, List.length_take]; omega), List.length_map, List.length_take, Nat.min_eq_left (by omega), Nat.sub_self, List.set_cons_zero]
  unfold pinfoldref1_Fold.fold
  rw [List.take_succ_eq_append_getElem h, List.map_append, List.append_assoc]
  rfl
theorem pinfoldref1_Fold.fold_stay (k : Nat) (l : List Int) (h : k < l.length) (hb : pinfoldref1_Fold.byte l[k] = l[k]) : pinfoldref1_Fold.fold (k + 1) l = pinfoldref1_Fold.fold k l := by
  rw [pinfoldref1_Fold.fold_next k l h, hb, pinfoldref1_Fold.fold_split k l h, List.set_append, if_neg (by rw [List.length_map, List.length_take]; omega), List.length_map, List.length_take, Nat.min_eq_left (by omega), Nat.sub_self, List.set_cons_zero]
theorem pinfoldref1_Fold.row0 (w : World) (e : TypeId) (s : ByteArray) : pinfoldref1_Fold.Row (Lib.bytesWorld w e s) w.heap.size e (bytesOf s) := by
  refine ⟨Lib.bytesCells w e s, Lib.bytesWorld_at_new w e s, ?_, ?_⟩
  · rw [bytesOf_length]
    unfold Lib.bytesCells
    rw [Array.size_append, Array.size_map]
    exact Nat.le_add_right _ _
  · intro j hj
    rw [bytesOf_length] at hj
    have h1 := Lib.bytesWorld_cell w e s j hj
    rw [cell_of_row _ _ j _ _ _ (Lib.bytesWorld_at_new w e s)] at h1
    rw [h1]
    have hd : j < s.data.toList.length := by rw [data_length]; exact hj
    unfold bytesOf
    rw [List.getD_eq_getElem?_getD, List.getD_eq_getElem?_getD, List.getElem?_map, List.getElem?_eq_getElem hd]
    rfl
set_option maxHeartbeats 8000000 in
set_option maxRecDepth 100000 in
theorem pinfoldref1_Fold.calls (a0 : ByteArray) (r : ByteArray) (w : World) (h : pinfoldref1_Fold.f a0 = some r) :
    Calls Tryd.prog 13 #[.string a0] w fun e w' => e = .returned (.string r) ∧ Below w.heap.size w w' := by
  unfold pinfoldref1_Fold.f at h
  by_cases hs : a0.size ≤ 140737488351232
  · rw [if_pos hs] at h
    obtain rfl := Option.some.inj h
    clear h
    have hconv := Lib.run_convert_string_bytes (P := Tryd.prog) w 9 38 5 a0 Tryd.underlying9 Tryd.underlying38 Tryd.underlying5
    have HB := Aside0.mk ((⟨rfl, rfl, rfl, by rw [Lib.bytesWorld_size]; omega, fun k hk => Lib.bytesWorld_at_old w 5 a0 k (by omega)⟩ : Below w.heap.size w (Lib.bytesWorld w 5 a0)))
    have HR := Aside0.mk (pinfoldref1_Fold.row0 w 5 a0)
    obtain ⟨W1, hW1⟩ : ∃ W1, Lib.bytesWorld w 5 a0 = W1 := ⟨_, rfl⟩
    obtain ⟨c1, hc1⟩ : ∃ c1, grownCap w a0.size 0 5 = c1 := ⟨_, rfl⟩
    obtain ⟨g, hg⟩ : ∃ g, w.heap.size = g := ⟨_, rfl⟩
    rw [hW1, hc1, hg] at hconv
    rw [hW1, hg] at HR
    rw [hW1, hg] at HB
    rw [hg]
    clear hW1 hc1 hg
    obtain ⟨l, hl⟩ : ∃ l, bytesOf a0 = l := ⟨_, rfl⟩
    have hll : l.length = a0.size := by rw [← hl, bytesOf_length]
    have hlb : ∀ (k : Nat) (h : k < l.length), 0 ≤ l[k] ∧ l[k] ≤ 255 := by
      intro k hk
      subst hl
      have h2 := bt_range a0 (k : Int)
      have h3 : bt a0 (k : Int) = (bytesOf a0)[k] := by
        rw [← rd_bytesOf]
        unfold rd
        rw [Int.toNat_natCast, List.getD_eq_getElem?_getD, List.getElem?_eq_getElem hk]
        rfl
      rw [h3] at h2
      omega
    rw [hl] at HR ⊢
    clear hl
    go_enter Tryd.func13, Tryd.ntmps13
    go_wp2
    go_loopg [4] a0.size (fun d v10 w' => ∃ k : Nat, k + d = a0.size ∧ v10 = .int .i64 k ∧ Aside0 (pinfoldref1_Fold.Row w' g 5 (pinfoldref1_Fold.fold k l)) ∧ Aside0 (Below g w w'))
    case atStart => exact ⟨0, by omega, rfl, HR, HB⟩
    case round =>
      clear HR HB
      obtain ⟨k, hk, rfl, HR, HB⟩ := hrel
      by_cases hlt : k < a0.size
      · have hkl : k < l.length := by omega
        have hkf : k < (pinfoldref1_Fold.fold k l).length := by rw [pinfoldref1_Fold.fold_length]; exact hkl
        have hx := HR.out.cell hkf
        have hz := HR.out.frozen hkf
        have HN := Aside0.mk (pinfoldref1_Fold.fold_next k l hkl)
        have HY := Aside0.mk (pinfoldref1_Fold.fold_stay k l hkl)
        rw [pinfoldref1_Fold.fold_get k l hkl] at hx
        obtain ⟨hb0, hb1⟩ := hlb k hkl
        obtain ⟨b, hb⟩ : ∃ b : Int, l[k] = b := ⟨_, rfl⟩
        rw [hb] at hx hb0 hb1
        rw [hb] at HN HY
        clear hb
        by_cases q1 : 65 ≤ b
        · by_cases q2 : b ≤ 90
          · go_wp2
            go_roundg (a0.size - (k + 1))
            case measure => first | omega | (simp; omega)
            case rel =>
              refine ⟨k + 1, by omega, by go_num, ⟨?_⟩, ⟨HB.out.setCell (Nat.le_refl _) _⟩⟩
              rw [HN.out]
              refine HR.out.set hkf ?_
              unfold pinfoldref1_Fold.byte
              rw [if_pos ⟨q1, q2⟩]
              try go_num
          · go_wp2
            go_roundg (a0.size - (k + 1))
            case measure => first | omega | (simp; omega)
            case rel => exact ⟨k + 1, by omega, by go_num, ⟨by rw [HY.out (by unfold pinfoldref1_Fold.byte; rw [if_neg (by omega)])]; exact HR.out⟩, HB⟩
        · go_wp2
          go_roundg (a0.size - (k + 1))
          case measure => first | omega | (simp; omega)
          case rel => exact ⟨k + 1, by omega, by go_num, ⟨by rw [HY.out (by unfold pinfoldref1_Fold.byte; rw [if_neg (by omega)])]; exact HR.out⟩, HB⟩
      · have hke : k = a0.size := by omega
        subst hke
        have hfl : (pinfoldref1_Fold.fold a0.size l).length = a0.size := by rw [pinfoldref1_Fold.fold_length, hll]
        have hE := Aside0.mk (show pinfoldref1_Fold.fold a0.size l = l.map pinfoldref1_Fold.byte by
          unfold pinfoldref1_Fold.fold
          rw [← hll, List.take_length, List.drop_length, List.append_nil])
        have hcv := run_convert_bytes_arg (P := Tryd.prog) _ 38 5 Tryd.underlying38 Tryd.underlying5 g 0 a0.size c1 (pinfoldref1_Fold.fold a0.size l) hfl (fun i hi => by
          have := HR.out.cell (j := i) (by omega)
          rw [Nat.zero_add]
          exact this) 9 Tryd.underlying9
        rw [hE.out] at hcv
        go_wp2
        go_ret
        exact ⟨rfl, HB.out⟩
  · rw [if_neg hs] at h
    cases h

/-! ### pinfoldlaw0_SameTexts: function 14 -/
def pinfoldlaw0_SameTexts.l0 : Nat → List ByteArray → List ByteArray → Int → Option (Bool)
  | 0, _, _, _ => none
  | k + 1, x0, x1, x5 => if x5 < (x0.length : Int) then (if 0 ≤ x5 then (if x5 < (x1.length : Int) then (if (rdOf ByteArray.empty x0 x5).toList = (rdOf ByteArray.empty x1 x5).toList then (pinfoldlaw0_SameTexts.l0 k x0 x1 (wrap64 (x5 + 1))) else (some false)) else (none)) else (none)) else (some true)
def pinfoldlaw0_SameTexts.f (k : Nat) (l0 : List ByteArray) (l1 : List ByteArray) : Option (Bool) := if (l0.length : Int) = (l1.length : Int) then (pinfoldlaw0_SameTexts.l0 k l0 l1 0) else (some false)
theorem pinfoldlaw0_SameTexts.mono_l : ∀ k, (∀ y0 y1 y2, LeO (pinfoldlaw0_SameTexts.l0 k y0 y1 y2) (pinfoldlaw0_SameTexts.l0 (k + 1) y0 y1 y2))
  | 0 => fun _ _ _ r h => by simp [pinfoldlaw0_SameTexts.l0] at h
  | k + 1 => by
    have ih0 := pinfoldlaw0_SameTexts.mono_l k
    · intro y0 y1 y2
      unfold pinfoldlaw0_SameTexts.l0
      repeat' first
      | (with_reducible exact ih0 _ _ _)
      | (with_reducible exact LeO.refl _)
      | (with_reducible exact LeO.none _)
      | (with_reducible refine LeO.ite ?_ ?_)
      | (with_reducible refine LeO.bind ?_ (fun _ => ?_))
      | exact ih0 _ _ _
      | exact LeO.none _
      | refine LeO.ite ?_ ?_
      | refine LeO.bind ?_ (fun _ => ?_)
theorem pinfoldlaw0_SameTexts.mono : ∀ a0 a1 k, LeO (pinfoldlaw0_SameTexts.f k a0 a1) (pinfoldlaw0_SameTexts.f (k + 1) a0 a1) := by
  intro a0 a1 k
  have ih0 := pinfoldlaw0_SameTexts.mono_l k
  unfold pinfoldlaw0_SameTexts.f
  repeat' first
      | (with_reducible exact ih0 _ _ _)
      | (with_reducible exact LeO.refl _)
      | (with_reducible exact LeO.none _)
      | (with_reducible refine LeO.ite ?_ ?_)
      | (with_reducible refine LeO.bind ?_ (fun _ => ?_))
      | exact ih0 _ _ _
      | exact LeO.none _
      | refine LeO.ite ?_ ?_
      | refine LeO.bind ?_ (fun _ => ?_)
set_option maxHeartbeats 8000000 in
set_option maxRecDepth 100000 in
theorem pinfoldlaw0_SameTexts.calls (k : Nat) (A0 : Option Addr) (c0 : Nat) (l0 : List ByteArray) (A1 : Option Addr) (c1 : Nat) (l1 : List ByteArray) (r : Bool) (w : World) (hr0 : Kd.C Kd.string w A0 l0.length l0) (hc0 : l0.length ≤ c0) (hr1 : Kd.C Kd.string w A1 l1.length l1) (hc1 : l1.length ≤ c1) (h : pinfoldlaw0_SameTexts.f k l0 l1 = some r) :
    Calls Tryd.prog 14 #[.slice A0 l0.length c0, .slice A1 l1.length c1] w fun e w' => e = .returned (.bool r) ∧ Drawn0 w w' := by
  have HR0 := Aside0.mk hr0
  have HC0 := Aside0.mk hc0
  clear hr0 hc0
  have HR1 := Aside0.mk hr1
  have HC1 := Aside0.mk hc1
  clear hr1 hc1
  have H : (if (l0.length : Int) = (l1.length : Int) then (pinfoldlaw0_SameTexts.l0 k l0 l1 0) else (some false)) = some r := h
  clear h
  by_cases c3 : (l0.length : Int) = (l1.length : Int)
  · rw [if_pos c3] at H
    have c3b0 : ((l0.length : Int) == (l1.length : Int)) = true := beq_iff_eq.mpr c3
    have c3b1 : ((l0.length : Int) != (l1.length : Int)) = false := bne_eq_false_iff_eq.mpr c3
    have c3b2 : (l0.length == l1.length) = true := by first | simpa using c3 | (simp at c3 ⊢; omega)
    clear c3
    have H' := Aside0.mk H
    clear H
    go_enter Tryd.func14, Tryd.ntmps14
    go_wp2
    repeat (go_quiet (fail); try go_wp2)
    go_loopg [5] k (fun kq v5 w' => ∃ (x5_1 : Int), v5 = .int .i64 x5_1 ∧ Aside0 (pinfoldlaw0_SameTexts.l0 kq l0 l1 x5_1 = some r) ∧ Aside0 (kq ≤ k) ∧ Drawn0 w w')
    case atStart => exact ⟨(0), (by first | rfl | (simp; done) | (simp [*]; done)), H', ⟨Nat.le_refl _⟩, by repeat (first | exact Drawn0.refl _ | apply Drawn0.step)⟩
    case round =>
      clear H'
      (try clear c1); (try clear c3); (try clear c3b0); (try clear c3b1); (try clear c3b2)
      obtain ⟨x5_1, rfl, HA, HK1, ⟨m1, rfl⟩⟩ := hrel
      cases gk with
      | zero => exact absurd HA.out (by simp [pinfoldlaw0_SameTexts.l0])
      | succ k1 =>
        have H := HA.out
        clear HA
        simp only [pinfoldlaw0_SameTexts.l0] at H
        by_cases c4 : x5_1 < (l0.length : Int)
        · rw [if_pos c4] at H
          have c4b0 : decide (x5_1 < (l0.length : Int)) = true := decide_eq_true c4
          clear c4
          by_cases c5 : 0 ≤ x5_1
          rotate_left
          · rw [if_neg c5] at H
            exact absurd H (by simp)
          rw [if_pos c5] at H
          have c5b0 : decide (0 ≤ x5_1) = true := decide_eq_true c5
          clear c5
          by_cases c6 : x5_1 < (l1.length : Int)
          rotate_left
          · rw [if_neg c6] at H
            exact absurd H (by simp)
          rw [if_pos c6] at H
          have c6b0 : decide (x5_1 < (l1.length : Int)) = true := decide_eq_true c6
          clear c6
          by_cases c7 : (rdOf ByteArray.empty l0 x5_1).toList = (rdOf ByteArray.empty l1 x5_1).toList
          · rw [if_pos c7] at H
            have c7b0 : ((rdOf ByteArray.empty l0 x5_1).toList == (rdOf ByteArray.empty l1 x5_1).toList) = true := beq_iff_eq.mpr c7
            have c7b1 : ((rdOf ByteArray.empty l0 x5_1).toList != (rdOf ByteArray.empty l1 x5_1).toList) = false := bne_eq_false_iff_eq.mpr c7
            clear c7
            have H' := Aside0.mk H
            clear H
            have p122 : 0 ≤ (x5_1 : Int) := of_decide_eq_true (by first | (with_reducible assumption) | assumption)
            have q122 : x5_1 < (l0.length : Int) := of_decide_eq_true (by first | (with_reducible assumption) | assumption)
            obtain ⟨ad122, e122, hx122_0⟩ := Kd.at_string HR0.out x5_1 p122 q122
            cases e122
            replace p122 := eq_true p122
            replace q122 := eq_true q122
            have p123 : 0 ≤ (x5_1 : Int) := of_decide_eq_true (by first | (with_reducible assumption) | assumption)
            have q123 : x5_1 < (l1.length : Int) := of_decide_eq_true (by first | (with_reducible assumption) | assumption)
            obtain ⟨ad123, e123, hx123_0⟩ := Kd.at_string HR1.out x5_1 p123 q123
            cases e123
            replace p123 := eq_true p123
            replace q123 := eq_true q123
            go_wp2
            repeat (go_quiet (fail); try go_wp2)
            go_roundg k1
            case measure => have := HK1.out; omega
            case rel => exact ⟨(wrap64 (x5_1 + 1)), (by first | rfl | (simp; done) | (simp [*]; done)), H', ⟨by have := HK1.out; omega⟩, by repeat (first | exact Drawn0.refl _ | apply Drawn0.step)⟩
          rw [if_neg c7] at H
          have c7b0 : ((rdOf ByteArray.empty l0 x5_1).toList == (rdOf ByteArray.empty l1 x5_1).toList) = false := beq_eq_false_iff_ne.mpr c7
          have c7b1 : ((rdOf ByteArray.empty l0 x5_1).toList != (rdOf ByteArray.empty l1 x5_1).toList) = true := bne_iff_ne.mpr c7
          obtain rfl := Option.some.inj H
          have p122 : 0 ≤ (x5_1 : Int) := of_decide_eq_true (by first | (with_reducible assumption) | assumption)
          have q122 : x5_1 < (l0.length : Int) := of_decide_eq_true (by first | (with_reducible assumption) | assumption)
          obtain ⟨ad122, e122, hx122_0⟩ := Kd.at_string HR0.out x5_1 p122 q122
          cases e122
          replace p122 := eq_true p122
          replace q122 := eq_true q122
          have p123 : 0 ≤ (x5_1 : Int) := of_decide_eq_true (by first | (with_reducible assumption) | assumption)
          have q123 : x5_1 < (l1.length : Int) := of_decide_eq_true (by first | (with_reducible assumption) | assumption)
          obtain ⟨ad123, e123, hx123_0⟩ := Kd.at_string HR1.out x5_1 p123 q123
          cases e123
          replace p123 := eq_true p123
          replace q123 := eq_true q123
          go_wp2
          repeat (go_quiet (fail); try go_wp2)
          go_ret
          exact ⟨by first | rfl | (simp; done) | (simp [*]; done), by repeat (first | exact Drawn0.refl _ | apply Drawn0.step)⟩
        rw [if_neg c4] at H
        have c4b0 : decide (x5_1 < (l0.length : Int)) = false := decide_eq_false c4
        clear c4
        obtain rfl := Option.some.inj H
        go_wp2
        repeat (go_quiet (fail); try go_wp2)
        go_ret
        exact ⟨by first | rfl | (simp; done) | (simp [*]; done), by repeat (first | exact Drawn0.refl _ | apply Drawn0.step)⟩
  rw [if_neg c3] at H
  have c3b0 : ((l0.length : Int) == (l1.length : Int)) = false := beq_eq_false_iff_ne.mpr c3
  have c3b1 : ((l0.length : Int) != (l1.length : Int)) = true := bne_iff_ne.mpr c3
  have c3b2 : (l0.length == l1.length) = false := by first | simpa using c3 | (simp at c3 ⊢; omega)
  obtain rfl := Option.some.inj H
  go_enter Tryd.func14, Tryd.ntmps14
  go_wp2
  repeat (go_quiet (fail); try go_wp2)
  go_ret
  exact ⟨by first | rfl | (simp; done) | (simp [*]; done), by repeat (first | exact Drawn0.refl _ | apply Drawn0.step)⟩

end Go.Proofs.YtfkgfjllgiblhaaDoor.PNames
