-- Made by wip/pr.py out of the translation (a turned copy of the kit's print; contracts by hand where said).
import Derived.Test.YtfkgfjllgiblhaaDoorPNameFoldsx0
import Derived.Test.YtfkgfjllgiblhaaDoorPNameFoldsx1
namespace Go.Proofs.YtfkgfjllgiblhaaDoor.PNameFolds
open Go.RowKit Go.Proofs.YtfkgfjllgiblhaaDoorW.PrintWords Go.Proofs.YtfkgfjllgiblhaaDoorW.PrintLast Go.Proofs.YtfkgfjllgiblhaaDoorW.PrintMore
attribute [local go_sem] max2_int min2_int max_two min_two max_three min_three max_four min_four   -- for this text's walks alone
set_option linter.unusedVariables false
set_option linter.unusedSimpArgs false

/-! ### pinfoldlaw0_SameTexts: function 14 -/
def pinfoldlaw0_SameTexts.l0 : Nat → List ByteArray → List ByteArray → Int → Option (Bool)
  | 0, _, _, _ => none
  | k + 1, x0, x1, x5 => if x5 < (x0.length : Int) then (if 0 ≤ x5 then (if x5 < (x1.length : Int) then (if (rdOf ByteArray.empty x0 x5).toList = (rdOf ByteArray.empty x1 x5).toList then (pinfoldlaw0_SameTexts.l0 k x0 x1 (wrap64 (x5 + 1))) else (some false)) else (none)) else (none)) else (some true)
def pinfoldlaw0_SameTexts.f (k : Nat) (l0 : List ByteArray) (l1 : List ByteArray) : Option (Bool) := if (l0.length : Int) = (l1.length : Int) then (pinfoldlaw0_SameTexts.l0 k l0 l1 0) else (some false)
theorem pinfoldlaw0_SameTexts.mono_l : ∀ k, (∀ y0 y1 y2, LeO (pinfoldlaw0_SameTexts.l0 k y0 y1 y2) (pinfoldlaw0_SameTexts.l0 (k + 1) y0 y1 y2))
  | 0 => fun _ _ _ r h => by simp [pinfoldlaw0_SameTexts.l0] at h
  | k + 1 => by
    have ih0 := pinfoldlaw0_SameTexts.mono_l k
    · intro y0 y1 y2
      unfold pinfoldlaw0_SameTexts.l0
      repeat' first
      | (with_reducible exact ih0 _ _ _)
      | (with_reducible exact LeO.refl _)
      | (with_reducible exact LeO.none _)
      | (with_reducible refine LeO.ite ?_ ?_)
      | (with_reducible refine LeO.bind ?_ (fun _ => ?_))
      | exact ih0 _ _ _
      | exact LeO.none _
      | refine LeO.ite ?_ ?_
      | refine LeO.bind ?_ (fun _ => ?_)
theorem pinfoldlaw0_SameTexts.mono : ∀ a0 a1 k, LeO (pinfoldlaw0_SameTexts.f k a0 a1) (pinfoldlaw0_SameTexts.f (k + 1) a0 a1) := by
  intro a0 a1 k
  have ih0 := pinfoldlaw0_SameTexts.mono_l k
  unfold pinfoldlaw0_SameTexts.f
  repeat' first
      | (with_reducible exact ih0 _ _ _)
      | (with_reducible exact LeO.refl _)
      | (with_reducible exact LeO.none _)
      | (with_reducible refine LeO.ite ?_ ?_)
      | (with_reducible refine LeO.bind ?_ (fun _ => ?_))
      | exact ih0 _ _ _
      | exact LeO.none _
      | refine LeO.ite ?_ ?_
      | refine LeO.bind ?_ (fun _ => ?_)
set_option maxHeartbeats 8000000 in
set_option maxRecDepth 100000 in
theorem pinfoldlaw0_SameTexts.calls (k : Nat) (A0 : Option Addr) (c0 : Nat) (l0 : List ByteArray) (A1 : Option Addr) (c1 : Nat) (l1 : List ByteArray) (r : Bool) (w : World) (hr0 : Kd.C Kd.string w A0 l0.length l0) (hc0 : l0.length ≤ c0) (hr1 : Kd.C Kd.string w A1 l1.length l1) (hc1 : l1.length ≤ c1) (h : pinfoldlaw0_SameTexts.f k l0 l1 = some r) :
    Calls Tryd.prog 14 #[.slice A0 l0.length c0, .slice A1 l1.length c1] w fun e w' => e = .returned (.bool r) ∧ Drawn0 w w' := by
  have HR0 := Aside0.mk hr0
  have HC0 := Aside0.mk hc0
  clear hr0 hc0
  have HR1 := Aside0.mk hr1
  have HC1 := Aside0.mk hc1
  clear hr1 hc1
  have H : (if (l0.length : Int) = (l1.length : Int) then (pinfoldlaw0_SameTexts.l0 k l0 l1 0) else (some false)) = some r := h
  clear h
  by_cases c3 : (l0.length : Int) = (l1.length : Int)
  · rw [if_pos c3] at H
    have c3b0 : ((l0.length : Int) == (l1.length : Int)) = true := beq_iff_eq.mpr c3
    have c3b1 : ((l0.length : Int) != (l1.length : Int)) = false := bne_eq_false_iff_eq.mpr c3
    have c3b2 : (l0.length == l1.length) = true := by first | simpa using c3 | (simp at c3 ⊢; omega)
    clear c3
    have H' := Aside0.mk H
    clear H
    go_enter Tryd.func14, Tryd.ntmps14
    go_wp2
    repeat (go_quiet (fail); try go_wp2)
    go_loopg [5] k (fun kq v5 w' => ∃ (x5_1 : Int), v5 = .int .i64 x5_1 ∧ Aside0 (pinfoldlaw0_SameTexts.l0 kq l0 l1 x5_1 = some r) ∧ Aside0 (kq ≤ k) ∧ Drawn0 w w')
    case atStart => exact ⟨(0), (by first | rfl | (simp; done) | (simp [*]; done)), H', ⟨Nat.le_refl _⟩, by repeat (first | exact Drawn0.refl _ | apply Drawn0.step)⟩
    case round =>
      clear H'
      (try clear c1); (try clear c3); (try clear c3b0); (try clear c3b1); (try clear c3b2)
      obtain ⟨x5_1, rfl, HA, HK1, ⟨m1, rfl⟩⟩ := hrel
      cases gk with
      | zero => exact absurd HA.out (by simp [pinfoldlaw0_SameTexts.l0])
      | succ k1 =>
        have H := HA.out
        clear HA
        simp only [pinfoldlaw0_SameTexts.l0] at H
        by_cases c4 : x5_1 < (l0.length : Int)
        · rw [if_pos c4] at H
          have c4b0 : decide (x5_1 < (l0.length : Int)) = true := decide_eq_true c4
          clear c4
          by_cases c5 : 0 ≤ x5_1
          rotate_left
          · rw [if_neg c5] at H
            exact absurd H (by simp)
          rw [if_pos c5] at H
          have c5b0 : decide (0 ≤ x5_1) = true := decide_eq_true c5
          clear c5
          by_cases c6 : x5_1 < (l1.length : Int)
          rotate_left
          · rw [if_neg c6] at H
            exact absurd H (by simp)
          rw [if_pos c6] at H
          have c6b0 : decide (x5_1 < (l1.length : Int)) = true := decide_eq_true c6
          clear c6
          by_cases c7 : (rdOf ByteArray.empty l0 x5_1).toList = (rdOf ByteArray.empty l1 x5_1).toList
          · rw [if_pos c7] at H
            have c7b0 : ((rdOf ByteArray.empty l0 x5_1).toList == (rdOf ByteArray.empty l1 x5_1).toList) = true := beq_iff_eq.mpr c7
            have c7b1 : ((rdOf ByteArray.empty l0 x5_1).toList != (rdOf ByteArray.empty l1 x5_1).toList) = false := bne_eq_false_iff_eq.mpr c7
            clear c7
            have H' := Aside0.mk H
            clear H
            have p111 : 0 ≤ (x5_1 : Int) := of_decide_eq_true (by first | (with_reducible assumption) | assumption)
            have q111 : x5_1 < (l0.length : Int) := of_decide_eq_true (by first | (with_reducible assumption) | assumption)
            obtain ⟨ad111, e111, hx111_0⟩ := Kd.at_string HR0.out x5_1 p111 q111
            cases e111
            replace p111 := eq_true p111
            replace q111 := eq_true q111
            have p112 : 0 ≤ (x5_1 : Int) := of_decide_eq_true (by first | (with_reducible assumption) | assumption)
            have q112 : x5_1 < (l1.length : Int) := of_decide_eq_true (by first | (with_reducible assumption) | assumption)
            obtain ⟨ad112, e112, hx112_0⟩ := Kd.at_string HR1.out x5_1 p112 q112
            cases e112
            replace p112 := eq_true p112
            replace q112 := eq_true q112
            go_wp2
            repeat (go_quiet (fail); try go_wp2)
            go_roundg k1
            case measure => have := HK1.out; omega
            case rel => exact ⟨(wrap64 (x5_1 + 1)), (by first | rfl | (simp; done) | (simp [*]; done)), H', ⟨by have := HK1.out; omega⟩, by repeat (first | exact Drawn0.refl _ | apply Drawn0.step)⟩
          rw [if_neg c7] at H
          have c7b0 : ((rdOf ByteArray.empty l0 x5_1).toList == (rdOf ByteArray.empty l1 x5_1).toList) = false := beq_eq_false_iff_ne.mpr c7
          have c7b1 : ((rdOf ByteArray.empty l0 x5_1).toList != (rdOf ByteArray.empty l1 x5_1).toList) = true := bne_iff_ne.mpr c7
          obtain rfl := Option.some.inj H
          have p111 : 0 ≤ (x5_1 : Int) := of_decide_eq_true (by first | (with_reducible assumption) | assumption)
          have q111 : x5_1 < (l0.length : Int) := of_decide_eq_true (by first | (with_reducible assumption) | assumption)
          obtain ⟨ad111, e111, hx111_0⟩ := Kd.at_string HR0.out x5_1 p111 q111
          cases e111
          replace p111 := eq_true p111
          replace q111 := eq_true q111
          have p112 : 0 ≤ (x5_1 : Int) := of_decide_eq_true (by first | (with_reducible assumption) | assumption)
          have q112 : x5_1 < (l1.length : Int) := of_decide_eq_true (by first | (with_reducible assumption) | assumption)
          obtain ⟨ad112, e112, hx112_0⟩ := Kd.at_string HR1.out x5_1 p112 q112
          cases e112
          replace p112 := eq_true p112
          replace q112 := eq_true q112
          go_wp2
          repeat (go_quiet (fail); try go_wp2)
          go_ret
          exact ⟨by first | rfl | (simp; done) | (simp [*]; done), by repeat (first | exact Drawn0.refl _ | apply Drawn0.step)⟩
        rw [if_neg c4] at H
        have c4b0 : decide (x5_1 < (l0.length : Int)) = false := decide_eq_false c4
        clear c4
        obtain rfl := Option.some.inj H
        go_wp2
        repeat (go_quiet (fail); try go_wp2)
        go_ret
        exact ⟨by first | rfl | (simp; done) | (simp [*]; done), by repeat (first | exact Drawn0.refl _ | apply Drawn0.step)⟩
  rw [if_neg c3] at H
  have c3b0 : ((l0.length : Int) == (l1.length : Int)) = false := beq_eq_false_iff_ne.mpr c3
  have c3b1 : ((l0.length : Int) != (l1.length : Int)) = true := bne_iff_ne.mpr c3
  have c3b2 : (l0.length == l1.length) = false := by first | simpa using c3 | (simp at c3 ⊢; omega)
  obtain rfl := Option.some.inj H
  go_enter Tryd.func14, Tryd.ntmps14
  go_wp2
  repeat (go_quiet (fail); try go_wp2)
  go_ret
  exact ⟨by first | rfl | (simp; done) | (simp [*]; done), by repeat (first | exact Drawn0.refl _ | apply Drawn0.step)⟩

/-! ### stringslite_HasSuffix: function 30 -/
def stringslite_HasSuffix.f (a0 : ByteArray) (a1 : ByteArray) : Option (Bool) := if (a0.size : Int) ≥ (a1.size : Int) then (if 0 ≤ (wrap64 ((a0.size : Int) - (a1.size : Int))) then (if (wrap64 ((a0.size : Int) - (a1.size : Int))) ≤ (a0.size : Int) then (some ((a0.extract ((wrap64 ((a0.size : Int) - (a1.size : Int))) : Int).toNat a0.size).toList == a1.toList)) else (none)) else (none)) else (some false)
set_option maxHeartbeats 8000000 in
set_option maxRecDepth 100000 in
theorem stringslite_HasSuffix.calls (a0 : ByteArray) (a1 : ByteArray) (r : Bool) (w : World) (h : stringslite_HasSuffix.f a0 a1 = some r) :
    Calls Tryd.prog 30 #[.string a0, .string a1] w fun e w' => e = .returned (.bool r) ∧ Drawn0 w w' := by
  have H : (if (a0.size : Int) ≥ (a1.size : Int) then (if 0 ≤ (wrap64 ((a0.size : Int) - (a1.size : Int))) then (if (wrap64 ((a0.size : Int) - (a1.size : Int))) ≤ (a0.size : Int) then (some ((a0.extract ((wrap64 ((a0.size : Int) - (a1.size : Int))) : Int).toNat a0.size).toList == a1.toList)) else (none)) else (none)) else (some false)) = some r := h
  clear h
  by_cases c3 : (a0.size : Int) ≥ (a1.size : Int)
  · rw [if_pos c3] at H
    have c3b0 : decide ((a1.size : Int) ≤ (a0.size : Int)) = true := decide_eq_true c3
    have c3b1 : decide (a1.size ≤ a0.size) = true := decide_eq_true (Int.ofNat_le.mp c3)
    clear c3
    obtain ⟨ji4, hji4⟩ : ∃ j_ : Int, (wrap64 ((a0.size : Int) - (a1.size : Int))) = j_ := ⟨_, rfl⟩
    replace H : (if 0 ≤ (ji4) then (if (ji4) ≤ (a0.size : Int) then (some ((a0.extract ((ji4) : Int).toNat a0.size).toList == a1.toList)) else (none)) else (none)) = some r := by first | (rw [hji4] at H; exact H) | (simp only [hji4] at H ⊢; exact H)
    have hji4w : (IntKind.i64.wrap ((a0.size : Int) - (a1.size : Int))) = ji4 := (i64_w _).trans hji4
    by_cases c5 : 0 ≤ (ji4)
    rotate_left
    · rw [if_neg c5] at H
      exact absurd H (by simp)
    rw [if_pos c5] at H
    have c5b0 := eq_true c5
    have c5b1 : decide (0 ≤ (ji4)) = true := decide_eq_true c5
    clear c5
    by_cases c6 : (ji4) ≤ (a0.size : Int)
    rotate_left
    · rw [if_neg c6] at H
      exact absurd H (by simp)
    rw [if_pos c6] at H
    have c6b0 := eq_true c6
    have c6b1 : decide ((ji4) ≤ (a0.size : Int)) = true := decide_eq_true c6
    clear c6
    obtain rfl := Option.some.inj H
    go_enter Tryd.func30, Tryd.ntmps30
    go_wp2
    go_ret
    exact ⟨by first | rfl | (simp; done) | (simp only [← hji4] <;> (first | rfl | simp)) | (simp [*]; done), by repeat (first | exact Drawn0.refl _ | apply Drawn0.step)⟩
  rw [if_neg c3] at H
  have c3b0 : decide ((a1.size : Int) ≤ (a0.size : Int)) = false := decide_eq_false c3
  have c3b1 : decide (a1.size ≤ a0.size) = false := decide_eq_false (fun h => c3 (Int.ofNat_le.mpr h))
  clear c3
  obtain rfl := Option.some.inj H
  go_enter Tryd.func30, Tryd.ntmps30
  go_wp2
  go_ret
  exact ⟨by first | rfl | (simp; done) | (simp [*]; done), by repeat (first | exact Drawn0.refl _ | apply Drawn0.step)⟩

/-! ### strings_HasSuffix: function 26 -/
def strings_HasSuffix.f (a0 : ByteArray) (a1 : ByteArray) : Option (Bool) := (stringslite_HasSuffix.f a0 a1).bind fun t113 => (some t113)
set_option maxHeartbeats 8000000 in
set_option maxRecDepth 100000 in
theorem strings_HasSuffix.calls (a0 : ByteArray) (a1 : ByteArray) (r : Bool) (w : World) (h : strings_HasSuffix.f a0 a1 = some r) :
    Calls Tryd.prog 26 #[.string a0, .string a1] w fun e w' => e = .returned (.bool r) ∧ Drawn0 w w' := by
  have H : ((stringslite_HasSuffix.f a0 a1).bind fun t113 => (some t113)) = some r := h
  clear h
  replace H := Option.bind_eq_some_iff.mp H
  obtain ⟨t113, A30, H⟩ := H
  replace H : (some t113) = some r := H
  have A3 := Aside0.mk A30
  clear A30
  obtain rfl := Option.some.inj H
  go_enter Tryd.func26, Tryd.ntmps26
  go_wp2_with (first | ((with_reducible refine gate_callee (f := 30) rfl ?_); refine goesL_ (some 7) rfl rfl Tryd.func30 (by kernel_rfl) rfl #[.string a0, .string a1] rfl (by (try simp only [List.map_toArray, List.map_cons, List.map_nil]); first | done | rfl | (simp only [List.length_drop, List.length_take]; rfl)) ?_; (with_reducible refine (stringslite_HasSuffix.calls a0 a1 t113 _ A3.out).mono ?_); rintro e w' ⟨rfl, ⟨nd, rfl⟩⟩; refine ⟨_, rfl, ?_⟩))
  go_ret
  exact ⟨by first | rfl | (simp; done) | (simp [*]; done), by repeat (first | exact Drawn0.refl _ | apply Drawn0.step)⟩

/-! ### name_Under: function 16 -/
def name_Under.f (k : Nat) (a0 : ByteArray) (a1 : ByteArray) : Option (Bool) := (name_May.f k a0).bind fun t114 => (if t114 = true then ((name_May.f k a1).bind fun t115 => (if t115 = true then (if a1.toList = ([] : List UInt8) then (some true) else (if a0.toList = a1.toList then (some true) else (if 1 + a1.size ≤ 9223372036854775807 then ((strings_HasSuffix.f a0 ((⟨#[46]⟩ : ByteArray) ++ a1)).bind fun t116 => (some t116)) else (none)))) else (some false))) else (some false))
theorem name_Under.mono : ∀ a0 a1 k, LeO (name_Under.f k a0 a1) (name_Under.f (k + 1) a0 a1) := by
  intro a0 a1 k
  unfold name_Under.f
  repeat' first
      | (with_reducible exact name_May.mono _ _)
      | (with_reducible exact LeO.refl _)
      | (with_reducible exact LeO.none _)
      | (with_reducible refine LeO.ite ?_ ?_)
      | (with_reducible refine LeO.bind ?_ (fun _ => ?_))
      | exact name_May.mono _ _
      | exact LeO.none _
      | refine LeO.ite ?_ ?_
      | refine LeO.bind ?_ (fun _ => ?_)
set_option maxHeartbeats 8000000 in
set_option maxRecDepth 100000 in
theorem name_Under.calls (k : Nat) (a0 : ByteArray) (a1 : ByteArray) (r : Bool) (w : World) (h : name_Under.f k a0 a1 = some r) :
    Calls Tryd.prog 16 #[.string a0, .string a1] w fun e w' => e = .returned (.bool r) ∧ Drawn0 w w' := by
  have H : ((name_May.f k a0).bind fun t114 => (if t114 = true then ((name_May.f k a1).bind fun t115 => (if t115 = true then (if a1.toList = ([] : List UInt8) then (some true) else (if a0.toList = a1.toList then (some true) else (if 1 + a1.size ≤ 9223372036854775807 then ((strings_HasSuffix.f a0 ((⟨#[46]⟩ : ByteArray) ++ a1)).bind fun t116 => (some t116)) else (none)))) else (some false))) else (some false))) = some r := h
  clear h
  replace H := Option.bind_eq_some_iff.mp H
  obtain ⟨t114, A30, H⟩ := H
  replace H : (if t114 = true then ((name_May.f k a1).bind fun t115 => (if t115 = true then (if a1.toList = ([] : List UInt8) then (some true) else (if a0.toList = a1.toList then (some true) else (if 1 + a1.size ≤ 9223372036854775807 then ((strings_HasSuffix.f a0 ((⟨#[46]⟩ : ByteArray) ++ a1)).bind fun t116 => (some t116)) else (none)))) else (some false))) else (some false)) = some r := H
  have A3 := Aside0.mk A30
  clear A30
  by_cases c4 : t114 = true
  · subst c4
    have H1 : ((name_May.f k a1).bind fun t115 => (if t115 = true then (if a1.toList = ([] : List UInt8) then (some true) else (if a0.toList = a1.toList then (some true) else (if 1 + a1.size ≤ 9223372036854775807 then ((strings_HasSuffix.f a0 ((⟨#[46]⟩ : ByteArray) ++ a1)).bind fun t116 => (some t116)) else (none)))) else (some false))) = some r := by rw [if_pos rfl] at H; exact H
    clear H
    have H := H1
    clear H1
    replace H := Option.bind_eq_some_iff.mp H
    obtain ⟨t115, A50, H⟩ := H
    replace H : (if t115 = true then (if a1.toList = ([] : List UInt8) then (some true) else (if a0.toList = a1.toList then (some true) else (if 1 + a1.size ≤ 9223372036854775807 then ((strings_HasSuffix.f a0 ((⟨#[46]⟩ : ByteArray) ++ a1)).bind fun t116 => (some t116)) else (none)))) else (some false)) = some r := H
    have A5 := Aside0.mk A50
    clear A50
    by_cases c6 : t115 = true
    · subst c6
      have H1 : (if a1.toList = ([] : List UInt8) then (some true) else (if a0.toList = a1.toList then (some true) else (if 1 + a1.size ≤ 9223372036854775807 then ((strings_HasSuffix.f a0 ((⟨#[46]⟩ : ByteArray) ++ a1)).bind fun t116 => (some t116)) else (none)))) = some r := by rw [if_pos rfl] at H; exact H
      clear H
      have H := H1
      clear H1
      by_cases c7 : a1.toList = ([] : List UInt8)
      · rw [if_pos c7] at H
        have c7b0 : (a1.toList == ([] : List UInt8)) = true := beq_iff_eq.mpr c7
        have c7b1 : (a1.toList != ([] : List UInt8)) = false := bne_eq_false_iff_eq.mpr c7
        clear c7
        obtain rfl := Option.some.inj H
        go_enter Tryd.func16, Tryd.ntmps16
        go_wp2_with (first | ((with_reducible refine gate_callee (f := 10) rfl ?_); refine goesL_ (some 6) rfl rfl Tryd.func10 (by kernel_rfl) rfl #[.string a0] rfl (by (try simp only [List.map_toArray, List.map_cons, List.map_nil]); first | done | rfl | (simp only [List.length_drop, List.length_take]; rfl)) ?_; (with_reducible refine (name_May.calls k a0 true _ A3.out).mono ?_); rintro e w' ⟨rfl, ⟨nd, rfl⟩⟩; refine ⟨_, rfl, ?_⟩) | (go_at_call 10; (with_reducible refine (name_May.calls k a1 true _ A5.out).mono ?_); rintro e w' ⟨rfl, ⟨nd, rfl⟩⟩))
        go_ret
        exact ⟨by first | rfl | (simp; done) | (simp [*]; done) | (simp only [str_ne_]; rfl) | (simp only [str_eq_]; rfl), by repeat (first | exact Drawn0.refl _ | apply Drawn0.step)⟩
      rw [if_neg c7] at H
      have c7b0 : (a1.toList == ([] : List UInt8)) = false := beq_eq_false_iff_ne.mpr c7
      have c7b1 : (a1.toList != ([] : List UInt8)) = true := bne_iff_ne.mpr c7
      by_cases c8 : a0.toList = a1.toList
      · rw [if_pos c8] at H
        have c8b0 : (a0.toList == a1.toList) = true := beq_iff_eq.mpr c8
        have c8b1 : (a0.toList != a1.toList) = false := bne_eq_false_iff_eq.mpr c8
        clear c8
        obtain rfl := Option.some.inj H
        go_enter Tryd.func16, Tryd.ntmps16
        go_wp2_with (first | ((with_reducible refine gate_callee (f := 10) rfl ?_); refine goesL_ (some 6) rfl rfl Tryd.func10 (by kernel_rfl) rfl #[.string a0] rfl (by (try simp only [List.map_toArray, List.map_cons, List.map_nil]); first | done | rfl | (simp only [List.length_drop, List.length_take]; rfl)) ?_; (with_reducible refine (name_May.calls k a0 true _ A3.out).mono ?_); rintro e w' ⟨rfl, ⟨nd, rfl⟩⟩; refine ⟨_, rfl, ?_⟩) | (go_at_call 10; (with_reducible refine (name_May.calls k a1 true _ A5.out).mono ?_); rintro e w' ⟨rfl, ⟨nd, rfl⟩⟩))
        go_ret
        exact ⟨by first | rfl | (simp; done) | (simp [*]; done) | (simp only [str_ne_]; rfl) | (simp only [str_eq_]; rfl), by repeat (first | exact Drawn0.refl _ | apply Drawn0.step)⟩
      rw [if_neg c8] at H
      have c8b0 : (a0.toList == a1.toList) = false := beq_eq_false_iff_ne.mpr c8
      have c8b1 : (a0.toList != a1.toList) = true := bne_iff_ne.mpr c8
      by_cases c9 : 1 + a1.size ≤ 9223372036854775807
      rotate_left
      · rw [if_neg c9] at H
        exact absurd H (by simp)
      rw [if_pos c9] at H
      have c9b0 := eq_true c9
      have c9b1 : decide (1 + a1.size ≤ 9223372036854775807) = true := decide_eq_true c9
      try have c9b2 : (9223372036854775807 < 1 + a1.size) = False := eq_false (Nat.not_lt.2 c9)
      replace H := Option.bind_eq_some_iff.mp H
      obtain ⟨t116, A100, H⟩ := H
      replace H : (some t116) = some r := H
      have A10 := Aside0.mk A100
      clear A100
      obtain rfl := Option.some.inj H
      go_enter Tryd.func16, Tryd.ntmps16
      go_wp2_with (first | ((with_reducible refine gate_callee (f := 10) rfl ?_); refine goesL_ (some 6) rfl rfl Tryd.func10 (by kernel_rfl) rfl #[.string a0] rfl (by (try simp only [List.map_toArray, List.map_cons, List.map_nil]); first | done | rfl | (simp only [List.length_drop, List.length_take]; rfl)) ?_; (with_reducible refine (name_May.calls k a0 true _ A3.out).mono ?_); rintro e w' ⟨rfl, ⟨nd, rfl⟩⟩; refine ⟨_, rfl, ?_⟩) | (go_at_call 10; (with_reducible refine (name_May.calls k a1 true _ A5.out).mono ?_); rintro e w' ⟨rfl, ⟨nd, rfl⟩⟩) | (go_at_call 26; (with_reducible refine (strings_HasSuffix.calls a0 ((⟨#[46]⟩ : ByteArray) ++ a1) t116 _ A10.out).mono ?_); rintro e w' ⟨rfl, ⟨nd, rfl⟩⟩))
      go_ret
      exact ⟨by first | rfl | (simp; done) | (simp [*]; done) | (simp only [str_ne_]; rfl) | (simp only [str_eq_]; rfl), by repeat (first | exact Drawn0.refl _ | apply Drawn0.step)⟩
    replace c6 := Bool.eq_false_iff.mpr c6
    subst c6
    have H1 : (some false) = some r := by rw [if_neg (show ¬ (false = true) by decide)] at H; exact H
    clear H
    have H := H1
    clear H1
    obtain rfl := Option.some.inj H
    go_enter Tryd.func16, Tryd.ntmps16
    go_wp2_with (first | ((with_reducible refine gate_callee (f := 10) rfl ?_); refine goesL_ (some 6) rfl rfl Tryd.func10 (by kernel_rfl) rfl #[.string a0] rfl (by (try simp only [List.map_toArray, List.map_cons, List.map_nil]); first | done | rfl | (simp only [List.length_drop, List.length_take]; rfl)) ?_; (with_reducible refine (name_May.calls k a0 true _ A3.out).mono ?_); rintro e w' ⟨rfl, ⟨nd, rfl⟩⟩; refine ⟨_, rfl, ?_⟩) | (go_at_call 10; (with_reducible refine (name_May.calls k a1 false _ A5.out).mono ?_); rintro e w' ⟨rfl, ⟨nd, rfl⟩⟩))
    go_ret
    exact ⟨by first | rfl | (simp; done) | (simp [*]; done) | (simp only [str_ne_]; rfl) | (simp only [str_eq_]; rfl), by repeat (first | exact Drawn0.refl _ | apply Drawn0.step)⟩
  replace c4 := Bool.eq_false_iff.mpr c4
  subst c4
  have H1 : (some false) = some r := by rw [if_neg (show ¬ (false = true) by decide)] at H; exact H
  clear H
  have H := H1
  clear H1
  obtain rfl := Option.some.inj H
  go_enter Tryd.func16, Tryd.ntmps16
  go_wp2_with (first | ((with_reducible refine gate_callee (f := 10) rfl ?_); refine goesL_ (some 6) rfl rfl Tryd.func10 (by kernel_rfl) rfl #[.string a0] rfl (by (try simp only [List.map_toArray, List.map_cons, List.map_nil]); first | done | rfl | (simp only [List.length_drop, List.length_take]; rfl)) ?_; (with_reducible refine (name_May.calls k a0 false _ A3.out).mono ?_); rintro e w' ⟨rfl, ⟨nd, rfl⟩⟩; refine ⟨_, rfl, ?_⟩))
  go_ret
  exact ⟨by first | rfl | (simp; done) | (simp [*]; done) | (simp only [str_ne_]; rfl) | (simp only [str_eq_]; rfl), by repeat (first | exact Drawn0.refl _ | apply Drawn0.step)⟩

/-! ### pinfoldlaw0_Num: function 20 -/
def pinfoldlaw0_Num.f (a0 : Int) : Option (Int) := some a0
set_option maxHeartbeats 8000000 in
set_option maxRecDepth 100000 in
theorem pinfoldlaw0_Num.calls (a0 : Int) (r : Int) (w : World) (h : pinfoldlaw0_Num.f a0 = some r) :
    Calls Tryd.prog 20 #[.int .i64 a0] w fun e w' => e = .returned (.int .i64 r) ∧ Drawn0 w w' := by
  have H : (some a0) = some r := h
  clear h
  obtain rfl := Option.some.inj H
  go_enter Tryd.func20, Tryd.ntmps20
  go_wp2
  go_ret
  exact ⟨by first | rfl | (simp; done) | (simp [*]; done), by repeat (first | exact Drawn0.refl _ | apply Drawn0.step)⟩

/-! ### pinfoldlaw2_awake: function 19 -/
def pinfoldlaw2_awake.f (k : Nat)  : Option (Bool) := (pinfoldlaw0_Num.f 0).bind fun t117 => (if t117 = 0 then ((name_May.f k (⟨#[]⟩ : ByteArray)).bind fun t118 => (if t118 = true then ((name_May.f k (⟨#[97, 45, 49, 46, 108, 97, 110]⟩ : ByteArray)).bind fun t119 => (if t119 = true then ((name_May.f k (⟨#[65]⟩ : ByteArray)).bind fun t120 => (if t120 = true then (some false) else ((name_May.f k (⟨#[97, 46, 46, 98]⟩ : ByteArray)).bind fun t121 => (if t121 = true then (some false) else ((name_May.f k (⟨#[110, 105, 110, 101, 99, 104, 97, 114, 115]⟩ : ByteArray)).bind fun t122 => (if t122 = true then (some false) else ((name_Fold.f (⟨#[97, 66, 46, 90, 192]⟩ : ByteArray)).bind fun t123 => (if t123.toList = ([97, 98, 46, 122, 192] : List UInt8) then ((name_Labels.f k (⟨#[97, 46, 98]⟩ : ByteArray)).bind fun t124 => ((pinfoldlaw0_SameTexts.f k t124 (([(⟨#[97]⟩ : ByteArray), (⟨#[98]⟩ : ByteArray)] : List ByteArray))).bind fun t130 => (if t130 = true then ((name_Under.f k (⟨#[97, 46, 108, 97, 110]⟩ : ByteArray) (⟨#[108, 97, 110]⟩ : ByteArray)).bind fun t131 => (if t131 = true then ((name_Under.f k (⟨#[108, 97, 110]⟩ : ByteArray) (⟨#[]⟩ : ByteArray)).bind fun t132 => (if t132 = true then ((name_Under.f k (⟨#[97, 108, 97, 110]⟩ : ByteArray) (⟨#[108, 97, 110]⟩ : ByteArray)).bind fun t133 => (if t133 = true then (some false) else ((name_Under.f k (⟨#[108, 97, 110]⟩ : ByteArray) (⟨#[97, 46, 108, 97, 110]⟩ : ByteArray)).bind fun t134 => (some (!t134))))) else (some false))) else (some false))) else (some false)))) else (some false))))))))) else (some false))) else (some false))) else (some false))
theorem pinfoldlaw2_awake.mono : ∀ k, LeO (pinfoldlaw2_awake.f k ) (pinfoldlaw2_awake.f (k + 1) ) := by
  intro  k
  unfold pinfoldlaw2_awake.f
  repeat' first
      | (with_reducible exact name_Labels.mono _ _)
      | (with_reducible exact name_May.mono _ _)
      | (with_reducible exact name_Under.mono _ _ _)
      | (with_reducible exact pinfoldlaw0_SameTexts.mono _ _ _)
      | (with_reducible exact LeO.refl _)
      | (with_reducible exact LeO.none _)
      | (with_reducible refine LeO.ite ?_ ?_)
      | (with_reducible refine LeO.bind ?_ (fun _ => ?_))
      | exact name_Labels.mono _ _
      | exact name_May.mono _ _
      | exact name_Under.mono _ _ _
      | exact pinfoldlaw0_SameTexts.mono _ _ _
      | exact LeO.none _
      | refine LeO.ite ?_ ?_
      | refine LeO.bind ?_ (fun _ => ?_)
set_option maxHeartbeats 8000000 in
set_option maxRecDepth 100000 in
theorem pinfoldlaw2_awake.calls (k : Nat)  (r : Bool) (w : World) (h : pinfoldlaw2_awake.f k  = some r) :
    Calls Tryd.prog 19 #[] w fun e w' => e = .returned (.bool r) ∧ Below w.heap.size w w' := by
  have HB := Aside0.mk (Below.refl w.heap.size w)
  have H : ((pinfoldlaw0_Num.f 0).bind fun t117 => (if t117 = 0 then ((name_May.f k (⟨#[]⟩ : ByteArray)).bind fun t118 => (if t118 = true then ((name_May.f k (⟨#[97, 45, 49, 46, 108, 97, 110]⟩ : ByteArray)).bind fun t119 => (if t119 = true then ((name_May.f k (⟨#[65]⟩ : ByteArray)).bind fun t120 => (if t120 = true then (some false) else ((name_May.f k (⟨#[97, 46, 46, 98]⟩ : ByteArray)).bind fun t121 => (if t121 = true then (some false) else ((name_May.f k (⟨#[110, 105, 110, 101, 99, 104, 97, 114, 115]⟩ : ByteArray)).bind fun t122 => (if t122 = true then (some false) else ((name_Fold.f (⟨#[97, 66, 46, 90, 192]⟩ : ByteArray)).bind fun t123 => (if t123.toList = ([97, 98, 46, 122, 192] : List UInt8) then ((name_Labels.f k (⟨#[97, 46, 98]⟩ : ByteArray)).bind fun t124 => ((pinfoldlaw0_SameTexts.f k t124 (([(⟨#[97]⟩ : ByteArray), (⟨#[98]⟩ : ByteArray)] : List ByteArray))).bind fun t130 => (if t130 = true then ((name_Under.f k (⟨#[97, 46, 108, 97, 110]⟩ : ByteArray) (⟨#[108, 97, 110]⟩ : ByteArray)).bind fun t131 => (if t131 = true then ((name_Under.f k (⟨#[108, 97, 110]⟩ : ByteArray) (⟨#[]⟩ : ByteArray)).bind fun t132 => (if t132 = true then ((name_Under.f k (⟨#[97, 108, 97, 110]⟩ : ByteArray) (⟨#[108, 97, 110]⟩ : ByteArray)).bind fun t133 => (if t133 = true then (some false) else ((name_Under.f k (⟨#[108, 97, 110]⟩ : ByteArray) (⟨#[97, 46, 108, 97, 110]⟩ : ByteArray)).bind fun t134 => (some (!t134))))) else (some false))) else (some false))) else (some false)))) else (some false))))))))) else (some false))) else (some false))) else (some false))) = some r := h
  clear h
  replace H := Option.bind_eq_some_iff.mp H
  obtain ⟨t117, A10, H⟩ := H
  replace H : (if t117 = 0 then ((name_May.f k (⟨#[]⟩ : ByteArray)).bind fun t118 => (if t118 = true then ((name_May.f k (⟨#[97, 45, 49, 46, 108, 97, 110]⟩ : ByteArray)).bind fun t119 => (if t119 = true then ((name_May.f k (⟨#[65]⟩ : ByteArray)).bind fun t120 => (if t120 = true then (some false) else ((name_May.f k (⟨#[97, 46, 46, 98]⟩ : ByteArray)).bind fun t121 => (if t121 = true then (some false) else ((name_May.f k (⟨#[110, 105, 110, 101, 99, 104, 97, 114, 115]⟩ : ByteArray)).bind fun t122 => (if t122 = true then (some false) else ((name_Fold.f (⟨#[97, 66, 46, 90, 192]⟩ : ByteArray)).bind fun t123 => (if t123.toList = ([97, 98, 46, 122, 192] : List UInt8) then ((name_Labels.f k (⟨#[97, 46, 98]⟩ : ByteArray)).bind fun t124 => ((pinfoldlaw0_SameTexts.f k t124 (([(⟨#[97]⟩ : ByteArray), (⟨#[98]⟩ : ByteArray)] : List ByteArray))).bind fun t130 => (if t130 = true then ((name_Under.f k (⟨#[97, 46, 108, 97, 110]⟩ : ByteArray) (⟨#[108, 97, 110]⟩ : ByteArray)).bind fun t131 => (if t131 = true then ((name_Under.f k (⟨#[108, 97, 110]⟩ : ByteArray) (⟨#[]⟩ : ByteArray)).bind fun t132 => (if t132 = true then ((name_Under.f k (⟨#[97, 108, 97, 110]⟩ : ByteArray) (⟨#[108, 97, 110]⟩ : ByteArray)).bind fun t133 => (if t133 = true then (some false) else ((name_Under.f k (⟨#[108, 97, 110]⟩ : ByteArray) (⟨#[97, 46, 108, 97, 110]⟩ : ByteArray)).bind fun t134 => (some (!t134))))) else (some false))) else (some false))) else (some false)))) else (some false))))))))) else (some false))) else (some false))) else (some false)) = some r := H
  have A1 := Aside0.mk A10
  clear A10
  by_cases c2 : t117 = 0
  · rw [if_pos c2] at H
    have c2b0 : (t117 == 0) = true := beq_iff_eq.mpr c2
    have c2b1 : (t117 != 0) = false := bne_eq_false_iff_eq.mpr c2
    clear c2
    replace H := Option.bind_eq_some_iff.mp H
    obtain ⟨t118, A30, H⟩ := H
    replace H : (if t118 = true then ((name_May.f k (⟨#[97, 45, 49, 46, 108, 97, 110]⟩ : ByteArray)).bind fun t119 => (if t119 = true then ((name_May.f k (⟨#[65]⟩ : ByteArray)).bind fun t120 => (if t120 = true then (some false) else ((name_May.f k (⟨#[97, 46, 46, 98]⟩ : ByteArray)).bind fun t121 => (if t121 = true then (some false) else ((name_May.f k (⟨#[110, 105, 110, 101, 99, 104, 97, 114, 115]⟩ : ByteArray)).bind fun t122 => (if t122 = true then (some false) else ((name_Fold.f (⟨#[97, 66, 46, 90, 192]⟩ : ByteArray)).bind fun t123 => (if t123.toList = ([97, 98, 46, 122, 192] : List UInt8) then ((name_Labels.f k (⟨#[97, 46, 98]⟩ : ByteArray)).bind fun t124 => ((pinfoldlaw0_SameTexts.f k t124 (([(⟨#[97]⟩ : ByteArray), (⟨#[98]⟩ : ByteArray)] : List ByteArray))).bind fun t130 => (if t130 = true then ((name_Under.f k (⟨#[97, 46, 108, 97, 110]⟩ : ByteArray) (⟨#[108, 97, 110]⟩ : ByteArray)).bind fun t131 => (if t131 = true then ((name_Under.f k (⟨#[108, 97, 110]⟩ : ByteArray) (⟨#[]⟩ : ByteArray)).bind fun t132 => (if t132 = true then ((name_Under.f k (⟨#[97, 108, 97, 110]⟩ : ByteArray) (⟨#[108, 97, 110]⟩ : ByteArray)).bind fun t133 => (if t133 = true then (some false) else ((name_Under.f k (⟨#[108, 97, 110]⟩ : ByteArray) (⟨#[97, 46, 108, 97, 110]⟩ : ByteArray)).bind fun t134 => (some (!t134))))) else (some false))) else (some false))) else (some false)))) else (some false))))))))) else (some false))) else (some false)) = some r := H
    have A3 := Aside0.mk A30
    clear A30
    by_cases c4 : t118 = true
    · subst c4
      have H1 : ((name_May.f k (⟨#[97, 45, 49, 46, 108, 97, 110]⟩ : ByteArray)).bind fun t119 => (if t119 = true then ((name_May.f k (⟨#[65]⟩ : ByteArray)).bind fun t120 => (if t120 = true then (some false) else ((name_May.f k (⟨#[97, 46, 46, 98]⟩ : ByteArray)).bind fun t121 => (if t121 = true then (some false) else ((name_May.f k (⟨#[110, 105, 110, 101, 99, 104, 97, 114, 115]⟩ : ByteArray)).bind fun t122 => (if t122 = true then (some false) else ((name_Fold.f (⟨#[97, 66, 46, 90, 192]⟩ : ByteArray)).bind fun t123 => (if t123.toList = ([97, 98, 46, 122, 192] : List UInt8) then ((name_Labels.f k (⟨#[97, 46, 98]⟩ : ByteArray)).bind fun t124 => ((pinfoldlaw0_SameTexts.f k t124 (([(⟨#[97]⟩ : ByteArray), (⟨#[98]⟩ : ByteArray)] : List ByteArray))).bind fun t130 => (if t130 = true then ((name_Under.f k (⟨#[97, 46, 108, 97, 110]⟩ : ByteArray) (⟨#[108, 97, 110]⟩ : ByteArray)).bind fun t131 => (if t131 = true then ((name_Under.f k (⟨#[108, 97, 110]⟩ : ByteArray) (⟨#[]⟩ : ByteArray)).bind fun t132 => (if t132 = true then ((name_Under.f k (⟨#[97, 108, 97, 110]⟩ : ByteArray) (⟨#[108, 97, 110]⟩ : ByteArray)).bind fun t133 => (if t133 = true then (some false) else ((name_Under.f k (⟨#[108, 97, 110]⟩ : ByteArray) (⟨#[97, 46, 108, 97, 110]⟩ : ByteArray)).bind fun t134 => (some (!t134))))) else (some false))) else (some false))) else (some false)))) else (some false))))))))) else (some false))) = some r := by rw [if_pos rfl] at H; exact H
      clear H
      have H := H1
      clear H1
      replace H := Option.bind_eq_some_iff.mp H
      obtain ⟨t119, A50, H⟩ := H
      replace H : (if t119 = true then ((name_May.f k (⟨#[65]⟩ : ByteArray)).bind fun t120 => (if t120 = true then (some false) else ((name_May.f k (⟨#[97, 46, 46, 98]⟩ : ByteArray)).bind fun t121 => (if t121 = true then (some false) else ((name_May.f k (⟨#[110, 105, 110, 101, 99, 104, 97, 114, 115]⟩ : ByteArray)).bind fun t122 => (if t122 = true then (some false) else ((name_Fold.f (⟨#[97, 66, 46, 90, 192]⟩ : ByteArray)).bind fun t123 => (if t123.toList = ([97, 98, 46, 122, 192] : List UInt8) then ((name_Labels.f k (⟨#[97, 46, 98]⟩ : ByteArray)).bind fun t124 => ((pinfoldlaw0_SameTexts.f k t124 (([(⟨#[97]⟩ : ByteArray), (⟨#[98]⟩ : ByteArray)] : List ByteArray))).bind fun t130 => (if t130 = true then ((name_Under.f k (⟨#[97, 46, 108, 97, 110]⟩ : ByteArray) (⟨#[108, 97, 110]⟩ : ByteArray)).bind fun t131 => (if t131 = true then ((name_Under.f k (⟨#[108, 97, 110]⟩ : ByteArray) (⟨#[]⟩ : ByteArray)).bind fun t132 => (if t132 = true then ((name_Under.f k (⟨#[97, 108, 97, 110]⟩ : ByteArray) (⟨#[108, 97, 110]⟩ : ByteArray)).bind fun t133 => (if t133 = true then (some false) else ((name_Under.f k (⟨#[108, 97, 110]⟩ : ByteArray) (⟨#[97, 46, 108, 97, 110]⟩ : ByteArray)).bind fun t134 => (some (!t134))))) else (some false))) else (some false))) else (some false)))) else (some false))))))))) else (some false)) = some r := H
      have A5 := Aside0.mk A50
      clear A50
      by_cases c6 : t119 = true
      · subst c6
        have H1 : ((name_May.f k (⟨#[65]⟩ : ByteArray)).bind fun t120 => (if t120 = true then (some false) else ((name_May.f k (⟨#[97, 46, 46, 98]⟩ : ByteArray)).bind fun t121 => (if t121 = true then (some false) else ((name_May.f k (⟨#[110, 105, 110, 101, 99, 104, 97, 114, 115]⟩ : ByteArray)).bind fun t122 => (if t122 = true then (some false) else ((name_Fold.f (⟨#[97, 66, 46, 90, 192]⟩ : ByteArray)).bind fun t123 => (if t123.toList = ([97, 98, 46, 122, 192] : List UInt8) then ((name_Labels.f k (⟨#[97, 46, 98]⟩ : ByteArray)).bind fun t124 => ((pinfoldlaw0_SameTexts.f k t124 (([(⟨#[97]⟩ : ByteArray), (⟨#[98]⟩ : ByteArray)] : List ByteArray))).bind fun t130 => (if t130 = true then ((name_Under.f k (⟨#[97, 46, 108, 97, 110]⟩ : ByteArray) (⟨#[108, 97, 110]⟩ : ByteArray)).bind fun t131 => (if t131 = true then ((name_Under.f k (⟨#[108, 97, 110]⟩ : ByteArray) (⟨#[]⟩ : ByteArray)).bind fun t132 => (if t132 = true then ((name_Under.f k (⟨#[97, 108, 97, 110]⟩ : ByteArray) (⟨#[108, 97, 110]⟩ : ByteArray)).bind fun t133 => (if t133 = true then (some false) else ((name_Under.f k (⟨#[108, 97, 110]⟩ : ByteArray) (⟨#[97, 46, 108, 97, 110]⟩ : ByteArray)).bind fun t134 => (some (!t134))))) else (some false))) else (some false))) else (some false)))) else (some false))))))))) = some r := by rw [if_pos rfl] at H; exact H
        clear H
        have H := H1
        clear H1
        replace H := Option.bind_eq_some_iff.mp H
        obtain ⟨t120, A70, H⟩ := H
        replace H : (if t120 = true then (some false) else ((name_May.f k (⟨#[97, 46, 46, 98]⟩ : ByteArray)).bind fun t121 => (if t121 = true then (some false) else ((name_May.f k (⟨#[110, 105, 110, 101, 99, 104, 97, 114, 115]⟩ : ByteArray)).bind fun t122 => (if t122 = true then (some false) else ((name_Fold.f (⟨#[97, 66, 46, 90, 192]⟩ : ByteArray)).bind fun t123 => (if t123.toList = ([97, 98, 46, 122, 192] : List UInt8) then ((name_Labels.f k (⟨#[97, 46, 98]⟩ : ByteArray)).bind fun t124 => ((pinfoldlaw0_SameTexts.f k t124 (([(⟨#[97]⟩ : ByteArray), (⟨#[98]⟩ : ByteArray)] : List ByteArray))).bind fun t130 => (if t130 = true then ((name_Under.f k (⟨#[97, 46, 108, 97, 110]⟩ : ByteArray) (⟨#[108, 97, 110]⟩ : ByteArray)).bind fun t131 => (if t131 = true then ((name_Under.f k (⟨#[108, 97, 110]⟩ : ByteArray) (⟨#[]⟩ : ByteArray)).bind fun t132 => (if t132 = true then ((name_Under.f k (⟨#[97, 108, 97, 110]⟩ : ByteArray) (⟨#[108, 97, 110]⟩ : ByteArray)).bind fun t133 => (if t133 = true then (some false) else ((name_Under.f k (⟨#[108, 97, 110]⟩ : ByteArray) (⟨#[97, 46, 108, 97, 110]⟩ : ByteArray)).bind fun t134 => (some (!t134))))) else (some false))) else (some false))) else (some false)))) else (some false)))))))) = some r := H
        have A7 := Aside0.mk A70
        clear A70
        by_cases c8 : t120 = true
        · subst c8
          have H1 : (some false) = some r := by rw [if_pos rfl] at H; exact H
          clear H
          have H := H1
          clear H1
          obtain rfl := Option.some.inj H
          go_enter Tryd.func19, Tryd.ntmps19
          go_wp2_with (first | ((with_reducible refine gate_callee (f := 20) rfl ?_); refine goesL_ (some 1) rfl rfl Tryd.func20 (by kernel_rfl) rfl #[.int .i64 0] rfl (by (try simp only [List.map_toArray, List.map_cons, List.map_nil]); first | done | rfl | (simp only [List.length_drop, List.length_take]; rfl)) ?_; (with_reducible refine (pinfoldlaw0_Num.calls 0 t117 _ A1.out).mono ?_); rintro e w' ⟨rfl, ⟨nd, rfl⟩⟩; refine ⟨_, rfl, ?_⟩) | (go_at_call 10; (with_reducible refine (name_May.calls k (⟨#[]⟩ : ByteArray) true _ A3.out).mono ?_); rintro e w' ⟨rfl, ⟨nd, rfl⟩⟩) | (go_at_call 10; (with_reducible refine (name_May.calls k (⟨#[97, 45, 49, 46, 108, 97, 110]⟩ : ByteArray) true _ A5.out).mono ?_); rintro e w' ⟨rfl, ⟨nd, rfl⟩⟩) | (go_at_call 10; (with_reducible refine (name_May.calls k (⟨#[65]⟩ : ByteArray) true _ A7.out).mono ?_); rintro e w' ⟨rfl, ⟨nd, rfl⟩⟩))
          go_ret
          exact ⟨by first | rfl | (simp [errW_none, errW_some] <;> rfl) | (simp [*, errW_none, errW_some] <;> rfl), by repeat (with_reducible first | exact HB.out | apply below_alloc | apply pw_below_drewN | apply below_drew1)⟩
        replace c8 := Bool.eq_false_iff.mpr c8
        subst c8
        have H1 : ((name_May.f k (⟨#[97, 46, 46, 98]⟩ : ByteArray)).bind fun t121 => (if t121 = true then (some false) else ((name_May.f k (⟨#[110, 105, 110, 101, 99, 104, 97, 114, 115]⟩ : ByteArray)).bind fun t122 => (if t122 = true then (some false) else ((name_Fold.f (⟨#[97, 66, 46, 90, 192]⟩ : ByteArray)).bind fun t123 => (if t123.toList = ([97, 98, 46, 122, 192] : List UInt8) then ((name_Labels.f k (⟨#[97, 46, 98]⟩ : ByteArray)).bind fun t124 => ((pinfoldlaw0_SameTexts.f k t124 (([(⟨#[97]⟩ : ByteArray), (⟨#[98]⟩ : ByteArray)] : List ByteArray))).bind fun t130 => (if t130 = true then ((name_Under.f k (⟨#[97, 46, 108, 97, 110]⟩ : ByteArray) (⟨#[108, 97, 110]⟩ : ByteArray)).bind fun t131 => (if t131 = true then ((name_Under.f k (⟨#[108, 97, 110]⟩ : ByteArray) (⟨#[]⟩ : ByteArray)).bind fun t132 => (if t132 = true then ((name_Under.f k (⟨#[97, 108, 97, 110]⟩ : ByteArray) (⟨#[108, 97, 110]⟩ : ByteArray)).bind fun t133 => (if t133 = true then (some false) else ((name_Under.f k (⟨#[108, 97, 110]⟩ : ByteArray) (⟨#[97, 46, 108, 97, 110]⟩ : ByteArray)).bind fun t134 => (some (!t134))))) else (some false))) else (some false))) else (some false)))) else (some false))))))) = some r := by rw [if_neg (show ¬ (false = true) by decide)] at H; exact H
        clear H
        have H := H1
        clear H1
        replace H := Option.bind_eq_some_iff.mp H
        obtain ⟨t121, A90, H⟩ := H
        replace H : (if t121 = true then (some false) else ((name_May.f k (⟨#[110, 105, 110, 101, 99, 104, 97, 114, 115]⟩ : ByteArray)).bind fun t122 => (if t122 = true then (some false) else ((name_Fold.f (⟨#[97, 66, 46, 90, 192]⟩ : ByteArray)).bind fun t123 => (if t123.toList = ([97, 98, 46, 122, 192] : List UInt8) then ((name_Labels.f k (⟨#[97, 46, 98]⟩ : ByteArray)).bind fun t124 => ((pinfoldlaw0_SameTexts.f k t124 (([(⟨#[97]⟩ : ByteArray), (⟨#[98]⟩ : ByteArray)] : List ByteArray))).bind fun t130 => (if t130 = true then ((name_Under.f k (⟨#[97, 46, 108, 97, 110]⟩ : ByteArray) (⟨#[108, 97, 110]⟩ : ByteArray)).bind fun t131 => (if t131 = true then ((name_Under.f k (⟨#[108, 97, 110]⟩ : ByteArray) (⟨#[]⟩ : ByteArray)).bind fun t132 => (if t132 = true then ((name_Under.f k (⟨#[97, 108, 97, 110]⟩ : ByteArray) (⟨#[108, 97, 110]⟩ : ByteArray)).bind fun t133 => (if t133 = true then (some false) else ((name_Under.f k (⟨#[108, 97, 110]⟩ : ByteArray) (⟨#[97, 46, 108, 97, 110]⟩ : ByteArray)).bind fun t134 => (some (!t134))))) else (some false))) else (some false))) else (some false)))) else (some false)))))) = some r := H
        have A9 := Aside0.mk A90
        clear A90
        by_cases c10 : t121 = true
        · subst c10
          have H1 : (some false) = some r := by rw [if_pos rfl] at H; exact H
          clear H
          have H := H1
          clear H1
          obtain rfl := Option.some.inj H
          go_enter Tryd.func19, Tryd.ntmps19
          go_wp2_with (first | ((with_reducible refine gate_callee (f := 20) rfl ?_); refine goesL_ (some 1) rfl rfl Tryd.func20 (by kernel_rfl) rfl #[.int .i64 0] rfl (by (try simp only [List.map_toArray, List.map_cons, List.map_nil]); first | done | rfl | (simp only [List.length_drop, List.length_take]; rfl)) ?_; (with_reducible refine (pinfoldlaw0_Num.calls 0 t117 _ A1.out).mono ?_); rintro e w' ⟨rfl, ⟨nd, rfl⟩⟩; refine ⟨_, rfl, ?_⟩) | (go_at_call 10; (with_reducible refine (name_May.calls k (⟨#[]⟩ : ByteArray) true _ A3.out).mono ?_); rintro e w' ⟨rfl, ⟨nd, rfl⟩⟩) | (go_at_call 10; (with_reducible refine (name_May.calls k (⟨#[97, 45, 49, 46, 108, 97, 110]⟩ : ByteArray) true _ A5.out).mono ?_); rintro e w' ⟨rfl, ⟨nd, rfl⟩⟩) | (go_at_call 10; (with_reducible refine (name_May.calls k (⟨#[65]⟩ : ByteArray) false _ A7.out).mono ?_); rintro e w' ⟨rfl, ⟨nd, rfl⟩⟩) | (go_at_call 10; (with_reducible refine (name_May.calls k (⟨#[97, 46, 46, 98]⟩ : ByteArray) true _ A9.out).mono ?_); rintro e w' ⟨rfl, ⟨nd, rfl⟩⟩))
          go_ret
          exact ⟨by first | rfl | (simp [errW_none, errW_some] <;> rfl) | (simp [*, errW_none, errW_some] <;> rfl), by repeat (with_reducible first | exact HB.out | apply below_alloc | apply pw_below_drewN | apply below_drew1)⟩
        replace c10 := Bool.eq_false_iff.mpr c10
        subst c10
        have H1 : ((name_May.f k (⟨#[110, 105, 110, 101, 99, 104, 97, 114, 115]⟩ : ByteArray)).bind fun t122 => (if t122 = true then (some false) else ((name_Fold.f (⟨#[97, 66, 46, 90, 192]⟩ : ByteArray)).bind fun t123 => (if t123.toList = ([97, 98, 46, 122, 192] : List UInt8) then ((name_Labels.f k (⟨#[97, 46, 98]⟩ : ByteArray)).bind fun t124 => ((pinfoldlaw0_SameTexts.f k t124 (([(⟨#[97]⟩ : ByteArray), (⟨#[98]⟩ : ByteArray)] : List ByteArray))).bind fun t130 => (if t130 = true then ((name_Under.f k (⟨#[97, 46, 108, 97, 110]⟩ : ByteArray) (⟨#[108, 97, 110]⟩ : ByteArray)).bind fun t131 => (if t131 = true then ((name_Under.f k (⟨#[108, 97, 110]⟩ : ByteArray) (⟨#[]⟩ : ByteArray)).bind fun t132 => (if t132 = true then ((name_Under.f k (⟨#[97, 108, 97, 110]⟩ : ByteArray) (⟨#[108, 97, 110]⟩ : ByteArray)).bind fun t133 => (if t133 = true then (some false) else ((name_Under.f k (⟨#[108, 97, 110]⟩ : ByteArray) (⟨#[97, 46, 108, 97, 110]⟩ : ByteArray)).bind fun t134 => (some (!t134))))) else (some false))) else (some false))) else (some false)))) else (some false))))) = some r := by rw [if_neg (show ¬ (false = true) by decide)] at H; exact H
        clear H
        have H := H1
        clear H1
        replace H := Option.bind_eq_some_iff.mp H
        obtain ⟨t122, A110, H⟩ := H
        replace H : (if t122 = true then (some false) else ((name_Fold.f (⟨#[97, 66, 46, 90, 192]⟩ : ByteArray)).bind fun t123 => (if t123.toList = ([97, 98, 46, 122, 192] : List UInt8) then ((name_Labels.f k (⟨#[97, 46, 98]⟩ : ByteArray)).bind fun t124 => ((pinfoldlaw0_SameTexts.f k t124 (([(⟨#[97]⟩ : ByteArray), (⟨#[98]⟩ : ByteArray)] : List ByteArray))).bind fun t130 => (if t130 = true then ((name_Under.f k (⟨#[97, 46, 108, 97, 110]⟩ : ByteArray) (⟨#[108, 97, 110]⟩ : ByteArray)).bind fun t131 => (if t131 = true then ((name_Under.f k (⟨#[108, 97, 110]⟩ : ByteArray) (⟨#[]⟩ : ByteArray)).bind fun t132 => (if t132 = true then ((name_Under.f k (⟨#[97, 108, 97, 110]⟩ : ByteArray) (⟨#[108, 97, 110]⟩ : ByteArray)).bind fun t133 => (if t133 = true then (some false) else ((name_Under.f k (⟨#[108, 97, 110]⟩ : ByteArray) (⟨#[97, 46, 108, 97, 110]⟩ : ByteArray)).bind fun t134 => (some (!t134))))) else (some false))) else (some false))) else (some false)))) else (some false)))) = some r := H
        have A11 := Aside0.mk A110
        clear A110
        by_cases c12 : t122 = true
        · subst c12
          have H1 : (some false) = some r := by rw [if_pos rfl] at H; exact H
          clear H
          have H := H1
          clear H1
          obtain rfl := Option.some.inj H
          go_enter Tryd.func19, Tryd.ntmps19
          go_wp2_with (first | ((with_reducible refine gate_callee (f := 20) rfl ?_); refine goesL_ (some 1) rfl rfl Tryd.func20 (by kernel_rfl) rfl #[.int .i64 0] rfl (by (try simp only [List.map_toArray, List.map_cons, List.map_nil]); first | done | rfl | (simp only [List.length_drop, List.length_take]; rfl)) ?_; (with_reducible refine (pinfoldlaw0_Num.calls 0 t117 _ A1.out).mono ?_); rintro e w' ⟨rfl, ⟨nd, rfl⟩⟩; refine ⟨_, rfl, ?_⟩) | (go_at_call 10; (with_reducible refine (name_May.calls k (⟨#[]⟩ : ByteArray) true _ A3.out).mono ?_); rintro e w' ⟨rfl, ⟨nd, rfl⟩⟩) | (go_at_call 10; (with_reducible refine (name_May.calls k (⟨#[97, 45, 49, 46, 108, 97, 110]⟩ : ByteArray) true _ A5.out).mono ?_); rintro e w' ⟨rfl, ⟨nd, rfl⟩⟩) | (go_at_call 10; (with_reducible refine (name_May.calls k (⟨#[65]⟩ : ByteArray) false _ A7.out).mono ?_); rintro e w' ⟨rfl, ⟨nd, rfl⟩⟩) | (go_at_call 10; (with_reducible refine (name_May.calls k (⟨#[97, 46, 46, 98]⟩ : ByteArray) false _ A9.out).mono ?_); rintro e w' ⟨rfl, ⟨nd, rfl⟩⟩) | (go_at_call 10; (with_reducible refine (name_May.calls k (⟨#[110, 105, 110, 101, 99, 104, 97, 114, 115]⟩ : ByteArray) true _ A11.out).mono ?_); rintro e w' ⟨rfl, ⟨nd, rfl⟩⟩))
          go_ret
          exact ⟨by first | rfl | (simp [errW_none, errW_some] <;> rfl) | (simp [*, errW_none, errW_some] <;> rfl), by repeat (with_reducible first | exact HB.out | apply below_alloc | apply pw_below_drewN | apply below_drew1)⟩
        replace c12 := Bool.eq_false_iff.mpr c12
        subst c12
        have H1 : ((name_Fold.f (⟨#[97, 66, 46, 90, 192]⟩ : ByteArray)).bind fun t123 => (if t123.toList = ([97, 98, 46, 122, 192] : List UInt8) then ((name_Labels.f k (⟨#[97, 46, 98]⟩ : ByteArray)).bind fun t124 => ((pinfoldlaw0_SameTexts.f k t124 (([(⟨#[97]⟩ : ByteArray), (⟨#[98]⟩ : ByteArray)] : List ByteArray))).bind fun t130 => (if t130 = true then ((name_Under.f k (⟨#[97, 46, 108, 97, 110]⟩ : ByteArray) (⟨#[108, 97, 110]⟩ : ByteArray)).bind fun t131 => (if t131 = true then ((name_Under.f k (⟨#[108, 97, 110]⟩ : ByteArray) (⟨#[]⟩ : ByteArray)).bind fun t132 => (if t132 = true then ((name_Under.f k (⟨#[97, 108, 97, 110]⟩ : ByteArray) (⟨#[108, 97, 110]⟩ : ByteArray)).bind fun t133 => (if t133 = true then (some false) else ((name_Under.f k (⟨#[108, 97, 110]⟩ : ByteArray) (⟨#[97, 46, 108, 97, 110]⟩ : ByteArray)).bind fun t134 => (some (!t134))))) else (some false))) else (some false))) else (some false)))) else (some false))) = some r := by rw [if_neg (show ¬ (false = true) by decide)] at H; exact H
        clear H
        have H := H1
        clear H1
        replace H := Option.bind_eq_some_iff.mp H
        obtain ⟨t123, A130, H⟩ := H
        replace H : (if t123.toList = ([97, 98, 46, 122, 192] : List UInt8) then ((name_Labels.f k (⟨#[97, 46, 98]⟩ : ByteArray)).bind fun t124 => ((pinfoldlaw0_SameTexts.f k t124 (([(⟨#[97]⟩ : ByteArray), (⟨#[98]⟩ : ByteArray)] : List ByteArray))).bind fun t130 => (if t130 = true then ((name_Under.f k (⟨#[97, 46, 108, 97, 110]⟩ : ByteArray) (⟨#[108, 97, 110]⟩ : ByteArray)).bind fun t131 => (if t131 = true then ((name_Under.f k (⟨#[108, 97, 110]⟩ : ByteArray) (⟨#[]⟩ : ByteArray)).bind fun t132 => (if t132 = true then ((name_Under.f k (⟨#[97, 108, 97, 110]⟩ : ByteArray) (⟨#[108, 97, 110]⟩ : ByteArray)).bind fun t133 => (if t133 = true then (some false) else ((name_Under.f k (⟨#[108, 97, 110]⟩ : ByteArray) (⟨#[97, 46, 108, 97, 110]⟩ : ByteArray)).bind fun t134 => (some (!t134))))) else (some false))) else (some false))) else (some false)))) else (some false)) = some r := H
        have A13 := Aside0.mk A130
        clear A130
        by_cases c14 : t123.toList = ([97, 98, 46, 122, 192] : List UInt8)
        · rw [if_pos c14] at H
          have c14b0 : (t123.toList == ([97, 98, 46, 122, 192] : List UInt8)) = true := beq_iff_eq.mpr c14
          have c14b1 : (t123.toList != ([97, 98, 46, 122, 192] : List UInt8)) = false := bne_eq_false_iff_eq.mpr c14
          clear c14
          replace H := Option.bind_eq_some_iff.mp H
          obtain ⟨t124, A150, H⟩ := H
          replace H : ((pinfoldlaw0_SameTexts.f k t124 (([(⟨#[97]⟩ : ByteArray), (⟨#[98]⟩ : ByteArray)] : List ByteArray))).bind fun t130 => (if t130 = true then ((name_Under.f k (⟨#[97, 46, 108, 97, 110]⟩ : ByteArray) (⟨#[108, 97, 110]⟩ : ByteArray)).bind fun t131 => (if t131 = true then ((name_Under.f k (⟨#[108, 97, 110]⟩ : ByteArray) (⟨#[]⟩ : ByteArray)).bind fun t132 => (if t132 = true then ((name_Under.f k (⟨#[97, 108, 97, 110]⟩ : ByteArray) (⟨#[108, 97, 110]⟩ : ByteArray)).bind fun t133 => (if t133 = true then (some false) else ((name_Under.f k (⟨#[108, 97, 110]⟩ : ByteArray) (⟨#[97, 46, 108, 97, 110]⟩ : ByteArray)).bind fun t134 => (some (!t134))))) else (some false))) else (some false))) else (some false))) = some r := H
          have A15 := Aside0.mk A150
          clear A150
          obtain ⟨y127, hy127⟩ : ∃ y_ : List ByteArray, y_ = (([(⟨#[97]⟩ : ByteArray), (⟨#[98]⟩ : ByteArray)] : List ByteArray)) := ⟨_, rfl⟩
          replace H : ((pinfoldlaw0_SameTexts.f k t124 y127).bind fun t130 => (if t130 = true then ((name_Under.f k (⟨#[97, 46, 108, 97, 110]⟩ : ByteArray) (⟨#[108, 97, 110]⟩ : ByteArray)).bind fun t131 => (if t131 = true then ((name_Under.f k (⟨#[108, 97, 110]⟩ : ByteArray) (⟨#[]⟩ : ByteArray)).bind fun t132 => (if t132 = true then ((name_Under.f k (⟨#[97, 108, 97, 110]⟩ : ByteArray) (⟨#[108, 97, 110]⟩ : ByteArray)).bind fun t133 => (if t133 = true then (some false) else ((name_Under.f k (⟨#[108, 97, 110]⟩ : ByteArray) (⟨#[97, 46, 108, 97, 110]⟩ : ByteArray)).bind fun t134 => (some (!t134))))) else (some false))) else (some false))) else (some false))) = some r := by first | (rw [hy127]; with_reducible exact H) | (have H2_ := (Option.bind_some _ _).symm.trans H; rw [hy127]; with_reducible exact H2_) | (have H2_ := (Option.bind_some _ _).symm.trans H; with_reducible exact H2_) | with_reducible exact H | (rw [hy127]; exact H) | exact H
          have Ny127 := Aside0.mk hy127
          clear hy127
          replace H := Option.bind_eq_some_iff.mp H
          obtain ⟨t130, A160, H⟩ := H
          replace H : (if t130 = true then ((name_Under.f k (⟨#[97, 46, 108, 97, 110]⟩ : ByteArray) (⟨#[108, 97, 110]⟩ : ByteArray)).bind fun t131 => (if t131 = true then ((name_Under.f k (⟨#[108, 97, 110]⟩ : ByteArray) (⟨#[]⟩ : ByteArray)).bind fun t132 => (if t132 = true then ((name_Under.f k (⟨#[97, 108, 97, 110]⟩ : ByteArray) (⟨#[108, 97, 110]⟩ : ByteArray)).bind fun t133 => (if t133 = true then (some false) else ((name_Under.f k (⟨#[108, 97, 110]⟩ : ByteArray) (⟨#[97, 46, 108, 97, 110]⟩ : ByteArray)).bind fun t134 => (some (!t134))))) else (some false))) else (some false))) else (some false)) = some r := H
          have A16 := Aside0.mk A160
          clear A160
          by_cases c17 : t130 = true
          · subst c17
            have H1 : ((name_Under.f k (⟨#[97, 46, 108, 97, 110]⟩ : ByteArray) (⟨#[108, 97, 110]⟩ : ByteArray)).bind fun t131 => (if t131 = true then ((name_Under.f k (⟨#[108, 97, 110]⟩ : ByteArray) (⟨#[]⟩ : ByteArray)).bind fun t132 => (if t132 = true then ((name_Under.f k (⟨#[97, 108, 97, 110]⟩ : ByteArray) (⟨#[108, 97, 110]⟩ : ByteArray)).bind fun t133 => (if t133 = true then (some false) else ((name_Under.f k (⟨#[108, 97, 110]⟩ : ByteArray) (⟨#[97, 46, 108, 97, 110]⟩ : ByteArray)).bind fun t134 => (some (!t134))))) else (some false))) else (some false))) = some r := by rw [if_pos rfl] at H; exact H
            clear H
            have H := H1
            clear H1
            replace H := Option.bind_eq_some_iff.mp H
            obtain ⟨t131, A180, H⟩ := H
            replace H : (if t131 = true then ((name_Under.f k (⟨#[108, 97, 110]⟩ : ByteArray) (⟨#[]⟩ : ByteArray)).bind fun t132 => (if t132 = true then ((name_Under.f k (⟨#[97, 108, 97, 110]⟩ : ByteArray) (⟨#[108, 97, 110]⟩ : ByteArray)).bind fun t133 => (if t133 = true then (some false) else ((name_Under.f k (⟨#[108, 97, 110]⟩ : ByteArray) (⟨#[97, 46, 108, 97, 110]⟩ : ByteArray)).bind fun t134 => (some (!t134))))) else (some false))) else (some false)) = some r := H
            have A18 := Aside0.mk A180
            clear A180
            by_cases c19 : t131 = true
            · subst c19
              have H1 : ((name_Under.f k (⟨#[108, 97, 110]⟩ : ByteArray) (⟨#[]⟩ : ByteArray)).bind fun t132 => (if t132 = true then ((name_Under.f k (⟨#[97, 108, 97, 110]⟩ : ByteArray) (⟨#[108, 97, 110]⟩ : ByteArray)).bind fun t133 => (if t133 = true then (some false) else ((name_Under.f k (⟨#[108, 97, 110]⟩ : ByteArray) (⟨#[97, 46, 108, 97, 110]⟩ : ByteArray)).bind fun t134 => (some (!t134))))) else (some false))) = some r := by rw [if_pos rfl] at H; exact H
              clear H
              have H := H1
              clear H1
              replace H := Option.bind_eq_some_iff.mp H
              obtain ⟨t132, A200, H⟩ := H
              replace H : (if t132 = true then ((name_Under.f k (⟨#[97, 108, 97, 110]⟩ : ByteArray) (⟨#[108, 97, 110]⟩ : ByteArray)).bind fun t133 => (if t133 = true then (some false) else ((name_Under.f k (⟨#[108, 97, 110]⟩ : ByteArray) (⟨#[97, 46, 108, 97, 110]⟩ : ByteArray)).bind fun t134 => (some (!t134))))) else (some false)) = some r := H
              have A20 := Aside0.mk A200
              clear A200
              by_cases c21 : t132 = true
              · subst c21
                have H1 : ((name_Under.f k (⟨#[97, 108, 97, 110]⟩ : ByteArray) (⟨#[108, 97, 110]⟩ : ByteArray)).bind fun t133 => (if t133 = true then (some false) else ((name_Under.f k (⟨#[108, 97, 110]⟩ : ByteArray) (⟨#[97, 46, 108, 97, 110]⟩ : ByteArray)).bind fun t134 => (some (!t134))))) = some r := by rw [if_pos rfl] at H; exact H
                clear H
                have H := H1
                clear H1
                replace H := Option.bind_eq_some_iff.mp H
                obtain ⟨t133, A220, H⟩ := H
                replace H : (if t133 = true then (some false) else ((name_Under.f k (⟨#[108, 97, 110]⟩ : ByteArray) (⟨#[97, 46, 108, 97, 110]⟩ : ByteArray)).bind fun t134 => (some (!t134)))) = some r := H
                have A22 := Aside0.mk A220
                clear A220
                by_cases c23 : t133 = true
                · subst c23
                  have H1 : (some false) = some r := by rw [if_pos rfl] at H; exact H
                  clear H
                  have H := H1
                  clear H1
                  obtain rfl := Option.some.inj H
                  go_enter Tryd.func19, Tryd.ntmps19
                  go_wp2_with (first | ((with_reducible refine gate_callee (f := 20) rfl ?_); refine goesL_ (some 1) rfl rfl Tryd.func20 (by kernel_rfl) rfl #[.int .i64 0] rfl (by (try simp only [List.map_toArray, List.map_cons, List.map_nil]); first | done | rfl | (simp only [List.length_drop, List.length_take]; rfl)) ?_; (with_reducible refine (pinfoldlaw0_Num.calls 0 t117 _ A1.out).mono ?_); rintro e w' ⟨rfl, ⟨nd, rfl⟩⟩; refine ⟨_, rfl, ?_⟩) | (go_at_call 10; (with_reducible refine (name_May.calls k (⟨#[]⟩ : ByteArray) true _ A3.out).mono ?_); rintro e w' ⟨rfl, ⟨nd, rfl⟩⟩) | (go_at_call 10; (with_reducible refine (name_May.calls k (⟨#[97, 45, 49, 46, 108, 97, 110]⟩ : ByteArray) true _ A5.out).mono ?_); rintro e w' ⟨rfl, ⟨nd, rfl⟩⟩) | (go_at_call 10; (with_reducible refine (name_May.calls k (⟨#[65]⟩ : ByteArray) false _ A7.out).mono ?_); rintro e w' ⟨rfl, ⟨nd, rfl⟩⟩) | (go_at_call 10; (with_reducible refine (name_May.calls k (⟨#[97, 46, 46, 98]⟩ : ByteArray) false _ A9.out).mono ?_); rintro e w' ⟨rfl, ⟨nd, rfl⟩⟩) | (go_at_call 10; (with_reducible refine (name_May.calls k (⟨#[110, 105, 110, 101, 99, 104, 97, 114, 115]⟩ : ByteArray) false _ A11.out).mono ?_); rintro e w' ⟨rfl, ⟨nd, rfl⟩⟩) | (go_at_call 12; (with_reducible refine (name_Fold.calls (⟨#[97, 66, 46, 90, 192]⟩ : ByteArray) t123 _ A13.out).mono ?_); rintro e w24 ⟨rfl, hb⟩; have n0_ := Aside0.mk (below_step (by repeat (with_reducible first | exact HB.out | apply below_alloc | apply pw_below_drewN | apply below_drew1)) hb); clear HB; have HB := n0_; clear n0_; (try clear hb)) | (go_at_call 9; (with_reducible refine (name_Labels.calls k (⟨#[97, 46, 98]⟩ : ByteArray) t124 _ A15.out).mono ?_); rintro e w25 ⟨v125, rfl, ho0, hb⟩; have n0_ := Aside0.mk (Kd.R_lower ho0 (below_size (by repeat (with_reducible first | exact HB.out | apply below_alloc | apply pw_below_drewN | apply below_drew1)))); have n1_ := Aside0.mk (below_step (by repeat (with_reducible first | exact HB.out | apply below_alloc | apply pw_below_drewN | apply below_drew1)) hb); clear HB; have HO126 := n0_; have HB := n1_; clear n0_ n1_; (try clear hb); (try clear ho0)) | ((with_reducible refine gate_dst (N := 27) rfl ?_); (try (refine gate_guard (by rfl) ?_; dsimp only)); refine Kd.R_lit Kd.string _ 9 ?hg (N := 27) ?hd (xs := ([(⟨#[97]⟩ : ByteArray), (⟨#[98]⟩ : ByteArray)] : List ByteArray)) (inner := [.string (⟨#[97]⟩ : ByteArray), .string (⟨#[98]⟩ : ByteArray)]) (ok := fun _ => True) (okp := fun _ => True) ?hr ?hp (fun _ hk => hk) trivial (Below.refl _ _) (Nat.le_refl _) (by simp) ?_; (case hd => rfl); (case hg => rfl); (case hr => first | (go_simp; done) | (go_simp; rfl)); (case hp => exact (Reps.one (show Kd.M Kd.string _ _ _ (⟨#[97]⟩ : ByteArray) [.string (⟨#[97]⟩ : ByteArray)] from rfl) (Reps.one (show Kd.M Kd.string _ _ _ (⟨#[98]⟩ : ByteArray) [.string (⟨#[98]⟩ : ByteArray)] from rfl) (Reps.none _ _)))); intro v128 w26 ho27 hb hg_ hnew_; clear hg_ hnew_; (first | rw [← Ny127.out] at ho27 | (simp only [Int.reduceToNat] at ho27; rw [← Ny127.out] at ho27)); have n0_ := Aside0.mk (Kd.R_elder' (by (with_reducible repeat (first | apply Kd.R_alloc | apply Kd.R_drewN | apply Kd.R_drew)); exact HO126.out) (Kd.R_base ho27) hb); have n1_ := Aside0.mk (Kd.R_lower (Kd.R_new' ho27 (Kd.R_lt (by (with_reducible repeat (first | apply Kd.R_alloc | apply Kd.R_drewN | apply Kd.R_drew)); exact HO126.out))) (below_size (by repeat (with_reducible first | exact HB.out | apply below_alloc | apply pw_below_drewN | apply below_drew1)))); have n2_ := Aside0.mk (below_step (by repeat (with_reducible first | exact HB.out | apply below_alloc | apply pw_below_drewN | apply below_drew1)) hb); clear HO126; clear HB; have HO126 := n0_; have HO129 := n1_; have HB := n2_; clear n0_ n1_ n2_; clear hb ho27; obtain ⟨Ao28, co28, eo28⟩ := Kd.R_slice HO126.out; subst eo28; obtain ⟨Ao29, co29, eo29⟩ := Kd.R_slice HO129.out; subst eo29) | (go_at_call 14; (with_reducible refine (pinfoldlaw0_SameTexts.calls k _ _ t124 _ _ y127 true _ ?side1 ?side2 ?side3 ?side4 A16.out).mono ?_); (case side1 => repeat (first | exact (Kd.R_reads' HO126.out).2.2 | (with_reducible refine Kd.C_alloc ?_ _) | (with_reducible refine Kd.C_drewN ?_ _) | (with_reducible refine Kd.C_drew ?_))); (case side2 => exact (Kd.R_reads' HO126.out).2.1); (case side3 => repeat (first | exact (Kd.R_reads' HO129.out).2.2 | (with_reducible refine Kd.C_alloc ?_ _) | (with_reducible refine Kd.C_drewN ?_ _) | (with_reducible refine Kd.C_drew ?_))); (case side4 => exact (Kd.R_reads' HO129.out).2.1); rintro e w' ⟨rfl, ⟨nd, rfl⟩⟩) | (go_at_call 16; (with_reducible refine (name_Under.calls k (⟨#[97, 46, 108, 97, 110]⟩ : ByteArray) (⟨#[108, 97, 110]⟩ : ByteArray) true _ A18.out).mono ?_); rintro e w' ⟨rfl, ⟨nd, rfl⟩⟩) | (go_at_call 16; (with_reducible refine (name_Under.calls k (⟨#[108, 97, 110]⟩ : ByteArray) (⟨#[]⟩ : ByteArray) true _ A20.out).mono ?_); rintro e w' ⟨rfl, ⟨nd, rfl⟩⟩) | (go_at_call 16; (with_reducible refine (name_Under.calls k (⟨#[97, 108, 97, 110]⟩ : ByteArray) (⟨#[108, 97, 110]⟩ : ByteArray) true _ A22.out).mono ?_); rintro e w' ⟨rfl, ⟨nd, rfl⟩⟩))
                  go_ret
                  exact ⟨by first | rfl | (simp [errW_none, errW_some] <;> rfl) | (simp [*, errW_none, errW_some] <;> rfl), by repeat (with_reducible first | exact HB.out | apply below_alloc | apply pw_below_drewN | apply below_drew1)⟩
                replace c23 := Bool.eq_false_iff.mpr c23
                subst c23
                have H1 : ((name_Under.f k (⟨#[108, 97, 110]⟩ : ByteArray) (⟨#[97, 46, 108, 97, 110]⟩ : ByteArray)).bind fun t134 => (some (!t134))) = some r := by rw [if_neg (show ¬ (false = true) by decide)] at H; exact H
                clear H
                have H := H1
                clear H1
                replace H := Option.bind_eq_some_iff.mp H
                obtain ⟨t134, A300, H⟩ := H
                replace H : (some (!t134)) = some r := H
                have A30 := Aside0.mk A300
                clear A300
                obtain rfl := Option.some.inj H
                go_enter Tryd.func19, Tryd.ntmps19
                go_wp2_with (first | ((with_reducible refine gate_callee (f := 20) rfl ?_); refine goesL_ (some 1) rfl rfl Tryd.func20 (by kernel_rfl) rfl #[.int .i64 0] rfl (by (try simp only [List.map_toArray, List.map_cons, List.map_nil]); first | done | rfl | (simp only [List.length_drop, List.length_take]; rfl)) ?_; (with_reducible refine (pinfoldlaw0_Num.calls 0 t117 _ A1.out).mono ?_); rintro e w' ⟨rfl, ⟨nd, rfl⟩⟩; refine ⟨_, rfl, ?_⟩) | (go_at_call 10; (with_reducible refine (name_May.calls k (⟨#[]⟩ : ByteArray) true _ A3.out).mono ?_); rintro e w' ⟨rfl, ⟨nd, rfl⟩⟩) | (go_at_call 10; (with_reducible refine (name_May.calls k (⟨#[97, 45, 49, 46, 108, 97, 110]⟩ : ByteArray) true _ A5.out).mono ?_); rintro e w' ⟨rfl, ⟨nd, rfl⟩⟩) | (go_at_call 10; (with_reducible refine (name_May.calls k (⟨#[65]⟩ : ByteArray) false _ A7.out).mono ?_); rintro e w' ⟨rfl, ⟨nd, rfl⟩⟩) | (go_at_call 10; (with_reducible refine (name_May.calls k (⟨#[97, 46, 46, 98]⟩ : ByteArray) false _ A9.out).mono ?_); rintro e w' ⟨rfl, ⟨nd, rfl⟩⟩) | (go_at_call 10; (with_reducible refine (name_May.calls k (⟨#[110, 105, 110, 101, 99, 104, 97, 114, 115]⟩ : ByteArray) false _ A11.out).mono ?_); rintro e w' ⟨rfl, ⟨nd, rfl⟩⟩) | (go_at_call 12; (with_reducible refine (name_Fold.calls (⟨#[97, 66, 46, 90, 192]⟩ : ByteArray) t123 _ A13.out).mono ?_); rintro e w31 ⟨rfl, hb⟩; have n0_ := Aside0.mk (below_step (by repeat (with_reducible first | exact HB.out | apply below_alloc | apply pw_below_drewN | apply below_drew1)) hb); clear HB; have HB := n0_; clear n0_; (try clear hb)) | (go_at_call 9; (with_reducible refine (name_Labels.calls k (⟨#[97, 46, 98]⟩ : ByteArray) t124 _ A15.out).mono ?_); rintro e w32 ⟨v125, rfl, ho0, hb⟩; have n0_ := Aside0.mk (Kd.R_lower ho0 (below_size (by repeat (with_reducible first | exact HB.out | apply below_alloc | apply pw_below_drewN | apply below_drew1)))); have n1_ := Aside0.mk (below_step (by repeat (with_reducible first | exact HB.out | apply below_alloc | apply pw_below_drewN | apply below_drew1)) hb); clear HB; have HO126 := n0_; have HB := n1_; clear n0_ n1_; (try clear hb); (try clear ho0)) | ((with_reducible refine gate_dst (N := 27) rfl ?_); (try (refine gate_guard (by rfl) ?_; dsimp only)); refine Kd.R_lit Kd.string _ 9 ?hg (N := 27) ?hd (xs := ([(⟨#[97]⟩ : ByteArray), (⟨#[98]⟩ : ByteArray)] : List ByteArray)) (inner := [.string (⟨#[97]⟩ : ByteArray), .string (⟨#[98]⟩ : ByteArray)]) (ok := fun _ => True) (okp := fun _ => True) ?hr ?hp (fun _ hk => hk) trivial (Below.refl _ _) (Nat.le_refl _) (by simp) ?_; (case hd => rfl); (case hg => rfl); (case hr => first | (go_simp; done) | (go_simp; rfl)); (case hp => exact (Reps.one (show Kd.M Kd.string _ _ _ (⟨#[97]⟩ : ByteArray) [.string (⟨#[97]⟩ : ByteArray)] from rfl) (Reps.one (show Kd.M Kd.string _ _ _ (⟨#[98]⟩ : ByteArray) [.string (⟨#[98]⟩ : ByteArray)] from rfl) (Reps.none _ _)))); intro v128 w33 ho34 hb hg_ hnew_; clear hg_ hnew_; (first | rw [← Ny127.out] at ho34 | (simp only [Int.reduceToNat] at ho34; rw [← Ny127.out] at ho34)); have n0_ := Aside0.mk (Kd.R_elder' (by (with_reducible repeat (first | apply Kd.R_alloc | apply Kd.R_drewN | apply Kd.R_drew)); exact HO126.out) (Kd.R_base ho34) hb); have n1_ := Aside0.mk (Kd.R_lower (Kd.R_new' ho34 (Kd.R_lt (by (with_reducible repeat (first | apply Kd.R_alloc | apply Kd.R_drewN | apply Kd.R_drew)); exact HO126.out))) (below_size (by repeat (with_reducible first | exact HB.out | apply below_alloc | apply pw_below_drewN | apply below_drew1)))); have n2_ := Aside0.mk (below_step (by repeat (with_reducible first | exact HB.out | apply below_alloc | apply pw_below_drewN | apply below_drew1)) hb); clear HO126; clear HB; have HO126 := n0_; have HO129 := n1_; have HB := n2_; clear n0_ n1_ n2_; clear hb ho34; obtain ⟨Ao35, co35, eo35⟩ := Kd.R_slice HO126.out; subst eo35; obtain ⟨Ao36, co36, eo36⟩ := Kd.R_slice HO129.out; subst eo36) | (go_at_call 14; (with_reducible refine (pinfoldlaw0_SameTexts.calls k _ _ t124 _ _ y127 true _ ?side1 ?side2 ?side3 ?side4 A16.out).mono ?_); (case side1 => repeat (first | exact (Kd.R_reads' HO126.out).2.2 | (with_reducible refine Kd.C_alloc ?_ _) | (with_reducible refine Kd.C_drewN ?_ _) | (with_reducible refine Kd.C_drew ?_))); (case side2 => exact (Kd.R_reads' HO126.out).2.1); (case side3 => repeat (first | exact (Kd.R_reads' HO129.out).2.2 | (with_reducible refine Kd.C_alloc ?_ _) | (with_reducible refine Kd.C_drewN ?_ _) | (with_reducible refine Kd.C_drew ?_))); (case side4 => exact (Kd.R_reads' HO129.out).2.1); rintro e w' ⟨rfl, ⟨nd, rfl⟩⟩) | (go_at_call 16; (with_reducible refine (name_Under.calls k (⟨#[97, 46, 108, 97, 110]⟩ : ByteArray) (⟨#[108, 97, 110]⟩ : ByteArray) true _ A18.out).mono ?_); rintro e w' ⟨rfl, ⟨nd, rfl⟩⟩) | (go_at_call 16; (with_reducible refine (name_Under.calls k (⟨#[108, 97, 110]⟩ : ByteArray) (⟨#[]⟩ : ByteArray) true _ A20.out).mono ?_); rintro e w' ⟨rfl, ⟨nd, rfl⟩⟩) | (go_at_call 16; (with_reducible refine (name_Under.calls k (⟨#[97, 108, 97, 110]⟩ : ByteArray) (⟨#[108, 97, 110]⟩ : ByteArray) false _ A22.out).mono ?_); rintro e w' ⟨rfl, ⟨nd, rfl⟩⟩) | (go_at_call 16; (with_reducible refine (name_Under.calls k (⟨#[108, 97, 110]⟩ : ByteArray) (⟨#[97, 46, 108, 97, 110]⟩ : ByteArray) t134 _ A30.out).mono ?_); rintro e w' ⟨rfl, ⟨nd, rfl⟩⟩))
                go_ret
                exact ⟨by first | rfl | (simp [errW_none, errW_some] <;> rfl) | (simp [*, errW_none, errW_some] <;> rfl), by repeat (with_reducible first | exact HB.out | apply below_alloc | apply pw_below_drewN | apply below_drew1)⟩
              replace c21 := Bool.eq_false_iff.mpr c21
              subst c21
              have H1 : (some false) = some r := by rw [if_neg (show ¬ (false = true) by decide)] at H; exact H
              clear H
              have H := H1
              clear H1
              obtain rfl := Option.some.inj H
              go_enter Tryd.func19, Tryd.ntmps19
              go_wp2_with (first | ((with_reducible refine gate_callee (f := 20) rfl ?_); refine goesL_ (some 1) rfl rfl Tryd.func20 (by kernel_rfl) rfl #[.int .i64 0] rfl (by (try simp only [List.map_toArray, List.map_cons, List.map_nil]); first | done | rfl | (simp only [List.length_drop, List.length_take]; rfl)) ?_; (with_reducible refine (pinfoldlaw0_Num.calls 0 t117 _ A1.out).mono ?_); rintro e w' ⟨rfl, ⟨nd, rfl⟩⟩; refine ⟨_, rfl, ?_⟩) | (go_at_call 10; (with_reducible refine (name_May.calls k (⟨#[]⟩ : ByteArray) true _ A3.out).mono ?_); rintro e w' ⟨rfl, ⟨nd, rfl⟩⟩) | (go_at_call 10; (with_reducible refine (name_May.calls k (⟨#[97, 45, 49, 46, 108, 97, 110]⟩ : ByteArray) true _ A5.out).mono ?_); rintro e w' ⟨rfl, ⟨nd, rfl⟩⟩) | (go_at_call 10; (with_reducible refine (name_May.calls k (⟨#[65]⟩ : ByteArray) false _ A7.out).mono ?_); rintro e w' ⟨rfl, ⟨nd, rfl⟩⟩) | (go_at_call 10; (with_reducible refine (name_May.calls k (⟨#[97, 46, 46, 98]⟩ : ByteArray) false _ A9.out).mono ?_); rintro e w' ⟨rfl, ⟨nd, rfl⟩⟩) | (go_at_call 10; (with_reducible refine (name_May.calls k (⟨#[110, 105, 110, 101, 99, 104, 97, 114, 115]⟩ : ByteArray) false _ A11.out).mono ?_); rintro e w' ⟨rfl, ⟨nd, rfl⟩⟩) | (go_at_call 12; (with_reducible refine (name_Fold.calls (⟨#[97, 66, 46, 90, 192]⟩ : ByteArray) t123 _ A13.out).mono ?_); rintro e w37 ⟨rfl, hb⟩; have n0_ := Aside0.mk (below_step (by repeat (with_reducible first | exact HB.out | apply below_alloc | apply pw_below_drewN | apply below_drew1)) hb); clear HB; have HB := n0_; clear n0_; (try clear hb)) | (go_at_call 9; (with_reducible refine (name_Labels.calls k (⟨#[97, 46, 98]⟩ : ByteArray) t124 _ A15.out).mono ?_); rintro e w38 ⟨v125, rfl, ho0, hb⟩; have n0_ := Aside0.mk (Kd.R_lower ho0 (below_size (by repeat (with_reducible first | exact HB.out | apply below_alloc | apply pw_below_drewN | apply below_drew1)))); have n1_ := Aside0.mk (below_step (by repeat (with_reducible first | exact HB.out | apply below_alloc | apply pw_below_drewN | apply below_drew1)) hb); clear HB; have HO126 := n0_; have HB := n1_; clear n0_ n1_; (try clear hb); (try clear ho0)) | ((with_reducible refine gate_dst (N := 27) rfl ?_); (try (refine gate_guard (by rfl) ?_; dsimp only)); refine Kd.R_lit Kd.string _ 9 ?hg (N := 27) ?hd (xs := ([(⟨#[97]⟩ : ByteArray), (⟨#[98]⟩ : ByteArray)] : List ByteArray)) (inner := [.string (⟨#[97]⟩ : ByteArray), .string (⟨#[98]⟩ : ByteArray)]) (ok := fun _ => True) (okp := fun _ => True) ?hr ?hp (fun _ hk => hk) trivial (Below.refl _ _) (Nat.le_refl _) (by simp) ?_; (case hd => rfl); (case hg => rfl); (case hr => first | (go_simp; done) | (go_simp; rfl)); (case hp => exact (Reps.one (show Kd.M Kd.string _ _ _ (⟨#[97]⟩ : ByteArray) [.string (⟨#[97]⟩ : ByteArray)] from rfl) (Reps.one (show Kd.M Kd.string _ _ _ (⟨#[98]⟩ : ByteArray) [.string (⟨#[98]⟩ : ByteArray)] from rfl) (Reps.none _ _)))); intro v128 w39 ho40 hb hg_ hnew_; clear hg_ hnew_; (first | rw [← Ny127.out] at ho40 | (simp only [Int.reduceToNat] at ho40; rw [← Ny127.out] at ho40)); have n0_ := Aside0.mk (Kd.R_elder' (by (with_reducible repeat (first | apply Kd.R_alloc | apply Kd.R_drewN | apply Kd.R_drew)); exact HO126.out) (Kd.R_base ho40) hb); have n1_ := Aside0.mk (Kd.R_lower (Kd.R_new' ho40 (Kd.R_lt (by (with_reducible repeat (first | apply Kd.R_alloc | apply Kd.R_drewN | apply Kd.R_drew)); exact HO126.out))) (below_size (by repeat (with_reducible first | exact HB.out | apply below_alloc | apply pw_below_drewN | apply below_drew1)))); have n2_ := Aside0.mk (below_step (by repeat (with_reducible first | exact HB.out | apply below_alloc | apply pw_below_drewN | apply below_drew1)) hb); clear HO126; clear HB; have HO126 := n0_; have HO129 := n1_; have HB := n2_; clear n0_ n1_ n2_; clear hb ho40; obtain ⟨Ao41, co41, eo41⟩ := Kd.R_slice HO126.out; subst eo41; obtain ⟨Ao42, co42, eo42⟩ := Kd.R_slice HO129.out; subst eo42) | (go_at_call 14; (with_reducible refine (pinfoldlaw0_SameTexts.calls k _ _ t124 _ _ y127 true _ ?side1 ?side2 ?side3 ?side4 A16.out).mono ?_); (case side1 => repeat (first | exact (Kd.R_reads' HO126.out).2.2 | (with_reducible refine Kd.C_alloc ?_ _) | (with_reducible refine Kd.C_drewN ?_ _) | (with_reducible refine Kd.C_drew ?_))); (case side2 => exact (Kd.R_reads' HO126.out).2.1); (case side3 => repeat (first | exact (Kd.R_reads' HO129.out).2.2 | (with_reducible refine Kd.C_alloc ?_ _) | (with_reducible refine Kd.C_drewN ?_ _) | (with_reducible refine Kd.C_drew ?_))); (case side4 => exact (Kd.R_reads' HO129.out).2.1); rintro e w' ⟨rfl, ⟨nd, rfl⟩⟩) | (go_at_call 16; (with_reducible refine (name_Under.calls k (⟨#[97, 46, 108, 97, 110]⟩ : ByteArray) (⟨#[108, 97, 110]⟩ : ByteArray) true _ A18.out).mono ?_); rintro e w' ⟨rfl, ⟨nd, rfl⟩⟩) | (go_at_call 16; (with_reducible refine (name_Under.calls k (⟨#[108, 97, 110]⟩ : ByteArray) (⟨#[]⟩ : ByteArray) false _ A20.out).mono ?_); rintro e w' ⟨rfl, ⟨nd, rfl⟩⟩))
              go_ret
              exact ⟨by first | rfl | (simp [errW_none, errW_some] <;> rfl) | (simp [*, errW_none, errW_some] <;> rfl), by repeat (with_reducible first | exact HB.out | apply below_alloc | apply pw_below_drewN | apply below_drew1)⟩
            replace c19 := Bool.eq_false_iff.mpr c19
            subst c19
            have H1 : (some false) = some r := by rw [if_neg (show ¬ (false = true) by decide)] at H; exact H
            clear H
            have H := H1
            clear H1
            obtain rfl := Option.some.inj H
            go_enter Tryd.func19, Tryd.ntmps19
            go_wp2_with (first | ((with_reducible refine gate_callee (f := 20) rfl ?_); refine goesL_ (some 1) rfl rfl Tryd.func20 (by kernel_rfl) rfl #[.int .i64 0] rfl (by (try simp only [List.map_toArray, List.map_cons, List.map_nil]); first | done | rfl | (simp only [List.length_drop, List.length_take]; rfl)) ?_; (with_reducible refine (pinfoldlaw0_Num.calls 0 t117 _ A1.out).mono ?_); rintro e w' ⟨rfl, ⟨nd, rfl⟩⟩; refine ⟨_, rfl, ?_⟩) | (go_at_call 10; (with_reducible refine (name_May.calls k (⟨#[]⟩ : ByteArray) true _ A3.out).mono ?_); rintro e w' ⟨rfl, ⟨nd, rfl⟩⟩) | (go_at_call 10; (with_reducible refine (name_May.calls k (⟨#[97, 45, 49, 46, 108, 97, 110]⟩ : ByteArray) true _ A5.out).mono ?_); rintro e w' ⟨rfl, ⟨nd, rfl⟩⟩) | (go_at_call 10; (with_reducible refine (name_May.calls k (⟨#[65]⟩ : ByteArray) false _ A7.out).mono ?_); rintro e w' ⟨rfl, ⟨nd, rfl⟩⟩) | (go_at_call 10; (with_reducible refine (name_May.calls k (⟨#[97, 46, 46, 98]⟩ : ByteArray) false _ A9.out).mono ?_); rintro e w' ⟨rfl, ⟨nd, rfl⟩⟩) | (go_at_call 10; (with_reducible refine (name_May.calls k (⟨#[110, 105, 110, 101, 99, 104, 97, 114, 115]⟩ : ByteArray) false _ A11.out).mono ?_); rintro e w' ⟨rfl, ⟨nd, rfl⟩⟩) | (go_at_call 12; (with_reducible refine (name_Fold.calls (⟨#[97, 66, 46, 90, 192]⟩ : ByteArray) t123 _ A13.out).mono ?_); rintro e w43 ⟨rfl, hb⟩; have n0_ := Aside0.mk (below_step (by repeat (with_reducible first | exact HB.out | apply below_alloc | apply pw_below_drewN | apply below_drew1)) hb); clear HB; have HB := n0_; clear n0_; (try clear hb)) | (go_at_call 9; (with_reducible refine (name_Labels.calls k (⟨#[97, 46, 98]⟩ : ByteArray) t124 _ A15.out).mono ?_); rintro e w44 ⟨v125, rfl, ho0, hb⟩; have n0_ := Aside0.mk (Kd.R_lower ho0 (below_size (by repeat (with_reducible first | exact HB.out | apply below_alloc | apply pw_below_drewN | apply below_drew1)))); have n1_ := Aside0.mk (below_step (by repeat (with_reducible first | exact HB.out | apply below_alloc | apply pw_below_drewN | apply below_drew1)) hb); clear HB; have HO126 := n0_; have HB := n1_; clear n0_ n1_; (try clear hb); (try clear ho0)) | ((with_reducible refine gate_dst (N := 27) rfl ?_); (try (refine gate_guard (by rfl) ?_; dsimp only)); refine Kd.R_lit Kd.string _ 9 ?hg (N := 27) ?hd (xs := ([(⟨#[97]⟩ : ByteArray), (⟨#[98]⟩ : ByteArray)] : List ByteArray)) (inner := [.string (⟨#[97]⟩ : ByteArray), .string (⟨#[98]⟩ : ByteArray)]) (ok := fun _ => True) (okp := fun _ => True) ?hr ?hp (fun _ hk => hk) trivial (Below.refl _ _) (Nat.le_refl _) (by simp) ?_; (case hd => rfl); (case hg => rfl); (case hr => first | (go_simp; done) | (go_simp; rfl)); (case hp => exact (Reps.one (show Kd.M Kd.string _ _ _ (⟨#[97]⟩ : ByteArray) [.string (⟨#[97]⟩ : ByteArray)] from rfl) (Reps.one (show Kd.M Kd.string _ _ _ (⟨#[98]⟩ : ByteArray) [.string (⟨#[98]⟩ : ByteArray)] from rfl) (Reps.none _ _)))); intro v128 w45 ho46 hb hg_ hnew_; clear hg_ hnew_; (first | rw [← Ny127.out] at ho46 | (simp only [Int.reduceToNat] at ho46; rw [← Ny127.out] at ho46)); have n0_ := Aside0.mk (Kd.R_elder' (by (with_reducible repeat (first | apply Kd.R_alloc | apply Kd.R_drewN | apply Kd.R_drew)); exact HO126.out) (Kd.R_base ho46) hb); have n1_ := Aside0.mk (Kd.R_lower (Kd.R_new' ho46 (Kd.R_lt (by (with_reducible repeat (first | apply Kd.R_alloc | apply Kd.R_drewN | apply Kd.R_drew)); exact HO126.out))) (below_size (by repeat (with_reducible first | exact HB.out | apply below_alloc | apply pw_below_drewN | apply below_drew1)))); have n2_ := Aside0.mk (below_step (by repeat (with_reducible first | exact HB.out | apply below_alloc | apply pw_below_drewN | apply below_drew1)) hb); clear HO126; clear HB; have HO126 := n0_; have HO129 := n1_; have HB := n2_; clear n0_ n1_ n2_; clear hb ho46; obtain ⟨Ao47, co47, eo47⟩ := Kd.R_slice HO126.out; subst eo47; obtain ⟨Ao48, co48, eo48⟩ := Kd.R_slice HO129.out; subst eo48) | (go_at_call 14; (with_reducible refine (pinfoldlaw0_SameTexts.calls k _ _ t124 _ _ y127 true _ ?side1 ?side2 ?side3 ?side4 A16.out).mono ?_); (case side1 => repeat (first | exact (Kd.R_reads' HO126.out).2.2 | (with_reducible refine Kd.C_alloc ?_ _) | (with_reducible refine Kd.C_drewN ?_ _) | (with_reducible refine Kd.C_drew ?_))); (case side2 => exact (Kd.R_reads' HO126.out).2.1); (case side3 => repeat (first | exact (Kd.R_reads' HO129.out).2.2 | (with_reducible refine Kd.C_alloc ?_ _) | (with_reducible refine Kd.C_drewN ?_ _) | (with_reducible refine Kd.C_drew ?_))); (case side4 => exact (Kd.R_reads' HO129.out).2.1); rintro e w' ⟨rfl, ⟨nd, rfl⟩⟩) | (go_at_call 16; (with_reducible refine (name_Under.calls k (⟨#[97, 46, 108, 97, 110]⟩ : ByteArray) (⟨#[108, 97, 110]⟩ : ByteArray) false _ A18.out).mono ?_); rintro e w' ⟨rfl, ⟨nd, rfl⟩⟩))
            go_ret
            exact ⟨by first | rfl | (simp [errW_none, errW_some] <;> rfl) | (simp [*, errW_none, errW_some] <;> rfl), by repeat (with_reducible first | exact HB.out | apply below_alloc | apply pw_below_drewN | apply below_drew1)⟩
          replace c17 := Bool.eq_false_iff.mpr c17
          subst c17
          have H1 : (some false) = some r := by rw [if_neg (show ¬ (false = true) by decide)] at H; exact H
          clear H
          have H := H1
          clear H1
          obtain rfl := Option.some.inj H
          go_enter Tryd.func19, Tryd.ntmps19
          go_wp2_with (first | ((with_reducible refine gate_callee (f := 20) rfl ?_); refine goesL_ (some 1) rfl rfl Tryd.func20 (by kernel_rfl) rfl #[.int .i64 0] rfl (by (try simp only [List.map_toArray, List.map_cons, List.map_nil]); first | done | rfl | (simp only [List.length_drop, List.length_take]; rfl)) ?_; (with_reducible refine (pinfoldlaw0_Num.calls 0 t117 _ A1.out).mono ?_); rintro e w' ⟨rfl, ⟨nd, rfl⟩⟩; refine ⟨_, rfl, ?_⟩) | (go_at_call 10; (with_reducible refine (name_May.calls k (⟨#[]⟩ : ByteArray) true _ A3.out).mono ?_); rintro e w' ⟨rfl, ⟨nd, rfl⟩⟩) | (go_at_call 10; (with_reducible refine (name_May.calls k (⟨#[97, 45, 49, 46, 108, 97, 110]⟩ : ByteArray) true _ A5.out).mono ?_); rintro e w' ⟨rfl, ⟨nd, rfl⟩⟩) | (go_at_call 10; (with_reducible refine (name_May.calls k (⟨#[65]⟩ : ByteArray) false _ A7.out).mono ?_); rintro e w' ⟨rfl, ⟨nd, rfl⟩⟩) | (go_at_call 10; (with_reducible refine (name_May.calls k (⟨#[97, 46, 46, 98]⟩ : ByteArray) false _ A9.out).mono ?_); rintro e w' ⟨rfl, ⟨nd, rfl⟩⟩) | (go_at_call 10; (with_reducible refine (name_May.calls k (⟨#[110, 105, 110, 101, 99, 104, 97, 114, 115]⟩ : ByteArray) false _ A11.out).mono ?_); rintro e w' ⟨rfl, ⟨nd, rfl⟩⟩) | (go_at_call 12; (with_reducible refine (name_Fold.calls (⟨#[97, 66, 46, 90, 192]⟩ : ByteArray) t123 _ A13.out).mono ?_); rintro e w49 ⟨rfl, hb⟩; have n0_ := Aside0.mk (below_step (by repeat (with_reducible first | exact HB.out | apply below_alloc | apply pw_below_drewN | apply below_drew1)) hb); clear HB; have HB := n0_; clear n0_; (try clear hb)) | (go_at_call 9; (with_reducible refine (name_Labels.calls k (⟨#[97, 46, 98]⟩ : ByteArray) t124 _ A15.out).mono ?_); rintro e w50 ⟨v125, rfl, ho0, hb⟩; have n0_ := Aside0.mk (Kd.R_lower ho0 (below_size (by repeat (with_reducible first | exact HB.out | apply below_alloc | apply pw_below_drewN | apply below_drew1)))); have n1_ := Aside0.mk (below_step (by repeat (with_reducible first | exact HB.out | apply below_alloc | apply pw_below_drewN | apply below_drew1)) hb); clear HB; have HO126 := n0_; have HB := n1_; clear n0_ n1_; (try clear hb); (try clear ho0)) | ((with_reducible refine gate_dst (N := 27) rfl ?_); (try (refine gate_guard (by rfl) ?_; dsimp only)); refine Kd.R_lit Kd.string _ 9 ?hg (N := 27) ?hd (xs := ([(⟨#[97]⟩ : ByteArray), (⟨#[98]⟩ : ByteArray)] : List ByteArray)) (inner := [.string (⟨#[97]⟩ : ByteArray), .string (⟨#[98]⟩ : ByteArray)]) (ok := fun _ => True) (okp := fun _ => True) ?hr ?hp (fun _ hk => hk) trivial (Below.refl _ _) (Nat.le_refl _) (by simp) ?_; (case hd => rfl); (case hg => rfl); (case hr => first | (go_simp; done) | (go_simp; rfl)); (case hp => exact (Reps.one (show Kd.M Kd.string _ _ _ (⟨#[97]⟩ : ByteArray) [.string (⟨#[97]⟩ : ByteArray)] from rfl) (Reps.one (show Kd.M Kd.string _ _ _ (⟨#[98]⟩ : ByteArray) [.string (⟨#[98]⟩ : ByteArray)] from rfl) (Reps.none _ _)))); intro v128 w51 ho52 hb hg_ hnew_; clear hg_ hnew_; (first | rw [← Ny127.out] at ho52 | (simp only [Int.reduceToNat] at ho52; rw [← Ny127.out] at ho52)); have n0_ := Aside0.mk (Kd.R_elder' (by (with_reducible repeat (first | apply Kd.R_alloc | apply Kd.R_drewN | apply Kd.R_drew)); exact HO126.out) (Kd.R_base ho52) hb); have n1_ := Aside0.mk (Kd.R_lower (Kd.R_new' ho52 (Kd.R_lt (by (with_reducible repeat (first | apply Kd.R_alloc | apply Kd.R_drewN | apply Kd.R_drew)); exact HO126.out))) (below_size (by repeat (with_reducible first | exact HB.out | apply below_alloc | apply pw_below_drewN | apply below_drew1)))); have n2_ := Aside0.mk (below_step (by repeat (with_reducible first | exact HB.out | apply below_alloc | apply pw_below_drewN | apply below_drew1)) hb); clear HO126; clear HB; have HO126 := n0_; have HO129 := n1_; have HB := n2_; clear n0_ n1_ n2_; clear hb ho52; obtain ⟨Ao53, co53, eo53⟩ := Kd.R_slice HO126.out; subst eo53; obtain ⟨Ao54, co54, eo54⟩ := Kd.R_slice HO129.out; subst eo54) | (go_at_call 14; (with_reducible refine (pinfoldlaw0_SameTexts.calls k _ _ t124 _ _ y127 false _ ?side1 ?side2 ?side3 ?side4 A16.out).mono ?_); (case side1 => repeat (first | exact (Kd.R_reads' HO126.out).2.2 | (with_reducible refine Kd.C_alloc ?_ _) | (with_reducible refine Kd.C_drewN ?_ _) | (with_reducible refine Kd.C_drew ?_))); (case side2 => exact (Kd.R_reads' HO126.out).2.1); (case side3 => repeat (first | exact (Kd.R_reads' HO129.out).2.2 | (with_reducible refine Kd.C_alloc ?_ _) | (with_reducible refine Kd.C_drewN ?_ _) | (with_reducible refine Kd.C_drew ?_))); (case side4 => exact (Kd.R_reads' HO129.out).2.1); rintro e w' ⟨rfl, ⟨nd, rfl⟩⟩))
          go_ret
          exact ⟨by first | rfl | (simp [errW_none, errW_some] <;> rfl) | (simp [*, errW_none, errW_some] <;> rfl), by repeat (with_reducible first | exact HB.out | apply below_alloc | apply pw_below_drewN | apply below_drew1)⟩
        rw [if_neg c14] at H
        have c14b0 : (t123.toList == ([97, 98, 46, 122, 192] : List UInt8)) = false := beq_eq_false_iff_ne.mpr c14
        have c14b1 : (t123.toList != ([97, 98, 46, 122, 192] : List UInt8)) = true := bne_iff_ne.mpr c14
        obtain rfl := Option.some.inj H
        go_enter Tryd.func19, Tryd.ntmps19
        go_wp2_with (first | ((with_reducible refine gate_callee (f := 20) rfl ?_); refine goesL_ (some 1) rfl rfl Tryd.func20 (by kernel_rfl) rfl #[.int .i64 0] rfl (by (try simp only [List.map_toArray, List.map_cons, List.map_nil]); first | done | rfl | (simp only [List.length_drop, List.length_take]; rfl)) ?_; (with_reducible refine (pinfoldlaw0_Num.calls 0 t117 _ A1.out).mono ?_); rintro e w' ⟨rfl, ⟨nd, rfl⟩⟩; refine ⟨_, rfl, ?_⟩) | (go_at_call 10; (with_reducible refine (name_May.calls k (⟨#[]⟩ : ByteArray) true _ A3.out).mono ?_); rintro e w' ⟨rfl, ⟨nd, rfl⟩⟩) | (go_at_call 10; (with_reducible refine (name_May.calls k (⟨#[97, 45, 49, 46, 108, 97, 110]⟩ : ByteArray) true _ A5.out).mono ?_); rintro e w' ⟨rfl, ⟨nd, rfl⟩⟩) | (go_at_call 10; (with_reducible refine (name_May.calls k (⟨#[65]⟩ : ByteArray) false _ A7.out).mono ?_); rintro e w' ⟨rfl, ⟨nd, rfl⟩⟩) | (go_at_call 10; (with_reducible refine (name_May.calls k (⟨#[97, 46, 46, 98]⟩ : ByteArray) false _ A9.out).mono ?_); rintro e w' ⟨rfl, ⟨nd, rfl⟩⟩) | (go_at_call 10; (with_reducible refine (name_May.calls k (⟨#[110, 105, 110, 101, 99, 104, 97, 114, 115]⟩ : ByteArray) false _ A11.out).mono ?_); rintro e w' ⟨rfl, ⟨nd, rfl⟩⟩) | (go_at_call 12; (with_reducible refine (name_Fold.calls (⟨#[97, 66, 46, 90, 192]⟩ : ByteArray) t123 _ A13.out).mono ?_); rintro e w55 ⟨rfl, hb⟩; have n0_ := Aside0.mk (below_step (by repeat (with_reducible first | exact HB.out | apply below_alloc | apply pw_below_drewN | apply below_drew1)) hb); clear HB; have HB := n0_; clear n0_; (try clear hb)))
        go_ret
        exact ⟨by first | rfl | (simp [errW_none, errW_some] <;> rfl) | (simp [*, errW_none, errW_some] <;> rfl), by repeat (with_reducible first | exact HB.out | apply below_alloc | apply pw_below_drewN | apply below_drew1)⟩
      replace c6 := Bool.eq_false_iff.mpr c6
      subst c6
      have H1 : (some false) = some r := by rw [if_neg (show ¬ (false = true) by decide)] at H; exact H
      clear H
      have H := H1
      clear H1
      obtain rfl := Option.some.inj H
      go_enter Tryd.func19, Tryd.ntmps19
      go_wp2_with (first | ((with_reducible refine gate_callee (f := 20) rfl ?_); refine goesL_ (some 1) rfl rfl Tryd.func20 (by kernel_rfl) rfl #[.int .i64 0] rfl (by (try simp only [List.map_toArray, List.map_cons, List.map_nil]); first | done | rfl | (simp only [List.length_drop, List.length_take]; rfl)) ?_; (with_reducible refine (pinfoldlaw0_Num.calls 0 t117 _ A1.out).mono ?_); rintro e w' ⟨rfl, ⟨nd, rfl⟩⟩; refine ⟨_, rfl, ?_⟩) | (go_at_call 10; (with_reducible refine (name_May.calls k (⟨#[]⟩ : ByteArray) true _ A3.out).mono ?_); rintro e w' ⟨rfl, ⟨nd, rfl⟩⟩) | (go_at_call 10; (with_reducible refine (name_May.calls k (⟨#[97, 45, 49, 46, 108, 97, 110]⟩ : ByteArray) false _ A5.out).mono ?_); rintro e w' ⟨rfl, ⟨nd, rfl⟩⟩))
      go_ret
      exact ⟨by first | rfl | (simp [errW_none, errW_some] <;> rfl) | (simp [*, errW_none, errW_some] <;> rfl), by repeat (with_reducible first | exact HB.out | apply below_alloc | apply pw_below_drewN | apply below_drew1)⟩
    replace c4 := Bool.eq_false_iff.mpr c4
    subst c4
    have H1 : (some false) = some r := by rw [if_neg (show ¬ (false = true) by decide)] at H; exact H
    clear H
    have H := H1
    clear H1
    obtain rfl := Option.some.inj H
    go_enter Tryd.func19, Tryd.ntmps19
    go_wp2_with (first | ((with_reducible refine gate_callee (f := 20) rfl ?_); refine goesL_ (some 1) rfl rfl Tryd.func20 (by kernel_rfl) rfl #[.int .i64 0] rfl (by (try simp only [List.map_toArray, List.map_cons, List.map_nil]); first | done | rfl | (simp only [List.length_drop, List.length_take]; rfl)) ?_; (with_reducible refine (pinfoldlaw0_Num.calls 0 t117 _ A1.out).mono ?_); rintro e w' ⟨rfl, ⟨nd, rfl⟩⟩; refine ⟨_, rfl, ?_⟩) | (go_at_call 10; (with_reducible refine (name_May.calls k (⟨#[]⟩ : ByteArray) false _ A3.out).mono ?_); rintro e w' ⟨rfl, ⟨nd, rfl⟩⟩))
    go_ret
    exact ⟨by first | rfl | (simp [errW_none, errW_some] <;> rfl) | (simp [*, errW_none, errW_some] <;> rfl), by repeat (with_reducible first | exact HB.out | apply below_alloc | apply pw_below_drewN | apply below_drew1)⟩
  rw [if_neg c2] at H
  have c2b0 : (t117 == 0) = false := beq_eq_false_iff_ne.mpr c2
  have c2b1 : (t117 != 0) = true := bne_iff_ne.mpr c2
  obtain rfl := Option.some.inj H
  go_enter Tryd.func19, Tryd.ntmps19
  go_wp2_with (first | ((with_reducible refine gate_callee (f := 20) rfl ?_); refine goesL_ (some 1) rfl rfl Tryd.func20 (by kernel_rfl) rfl #[.int .i64 0] rfl (by (try simp only [List.map_toArray, List.map_cons, List.map_nil]); first | done | rfl | (simp only [List.length_drop, List.length_take]; rfl)) ?_; (with_reducible refine (pinfoldlaw0_Num.calls 0 t117 _ A1.out).mono ?_); rintro e w' ⟨rfl, ⟨nd, rfl⟩⟩; refine ⟨_, rfl, ?_⟩))
  go_ret
  exact ⟨by first | rfl | (simp [errW_none, errW_some] <;> rfl) | (simp [*, errW_none, errW_some] <;> rfl), by repeat (with_reducible first | exact HB.out | apply below_alloc | apply pw_below_drewN | apply below_drew1)⟩

end Go.Proofs.YtfkgfjllgiblhaaDoor.PNameFolds
