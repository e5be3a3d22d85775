-- Made by wip/pr.py out of the translation (a turned copy of the kit's print; contracts by hand where said).
import Derived.Test.YtibalpbkmgegnaaDoorPNx0
import Derived.Test.YtibalpbkmgegnaaDoorPNx2
namespace Go.Proofs.YtibalpbkmgegnaaDoor.PN
open Go.RowKit Go.Proofs.YtibalpbkmgegnaaDoorW.PrintWords Go.Proofs.YtibalpbkmgegnaaDoorW.PrintLast Go.Proofs.YtibalpbkmgegnaaDoorW.PrintMore
-- shrunk
attribute [local go_sem] max2_int min2_int max_two min_two max_three min_three max_four min_four   -- for this text's walks alone
set_option linter.unusedVariables false
set_option linter.unusedSimpArgs false

/-! ### stringslite_IndexByte: function 89 -/
-- BY HAND
def stringslite_IndexByte.f (a0 : ByteArray) (a1 : Int) : Option Int := some (Lib.indexByte a0.data.toList a1.toNat.toUInt8)
set_option maxHeartbeats 8000000 in
set_option maxRecDepth 100000 in
theorem stringslite_IndexByte.calls (a0 : ByteArray) (a1 : Int) (r : Int) (w : World) (h : stringslite_IndexByte.f a0 a1 = some r) :
  Calls Tryd.prog 89 #[.string a0, .int .u8 a1] w fun e w' => e = .returned (.int .i64 r) ∧ Drawn0 w w' := by
 obtain rfl := e5_ h
 clear h
 go_enter Tryd.func89, Tryd.ntmps89
 go_wp2
 rw [run_callFunc_extern Tryd.func97 (by kernel_rfl) (by kernel_rfl) (by kernel_rfl) (e := Extern.BytealgIndexByte.indexByte) (by kernel_rfl), Lib.run_indexByteString]
 simp only [Result.andThen]
 rw [Oper.upon_value]
 go_wp2
 go_ret
 exact ⟨rfl, Drawn0.refl _⟩

/-! ### stringslite_Index: function 83 -/
-- BY HAND
/-- where the one byte of the second text stands first; -1: nowhere. -/
def stringslite_Index.at_ (a0 a1 : ByteArray) : Int := Lib.indexByte a0.data.toList (a1.data.toList.headD 0)
def stringslite_Index.f (a0 : ByteArray) (a1 : ByteArray) : Option Int := if a1.size = 1 then some (stringslite_Index.at_ a0 a1) else none
theorem stringslite_Index.one {a : ByteArray} (h : a.size = 1) : ∃ c, a = ⟨#[c]⟩ := by
 have hl : a.data.toList.length = 1 := by rw [data_length]; exact h
 obtain ⟨c, hc⟩ := List.length_eq_one_iff.1 hl
 refine ⟨c, ?_⟩
 have e : a = ⟨a.data⟩ := rfl
 rw [e, show a.data = #[c] from Array.toList_inj.1 hc]
set_option maxHeartbeats 8000000 in
set_option maxRecDepth 100000 in
theorem stringslite_Index.calls (a0 : ByteArray) (a1 : ByteArray) (r : Int) (w : World) (h : stringslite_Index.f a0 a1 = some r) :
  Calls Tryd.prog 83 #[.string a0, .string a1] w fun e w' => e = .returned (.int .i64 r) ∧ Drawn0 w w' := by
 unfold stringslite_Index.f at h
 by_cases hs : a1.size = 1
 ·rw [if_pos hs] at h
  obtain rfl := e5_ h
  clear h
  obtain ⟨c, rfl⟩ := stringslite_Index.one hs
  clear hs
  show Calls _ _ _ _ fun e w' => e = .returned (.int .i64 (Lib.indexByte a0.data.toList c)) ∧ Drawn0 w w'
  go_enter Tryd.func83, Tryd.ntmps83
  go_wp2_with (go_at_call 89; (with_reducible refine (stringslite_IndexByte.calls _ _ _ _ rfl).mono ?_); rintro e w' ⟨rfl, ⟨nd, rfl⟩⟩)
  ·have h : ([c] == a0.toList) = true := by assumption
   go_ret
   refine ⟨?_, by repeat (first | exact Drawn0.refl _ | apply Drawn0.step)⟩
   have e : a0.data.toList = [c] := by rw [← ByteArray.toList_eq]; exact (beq_iff_eq.1 h).symm
   rw [e]
   simp [Lib.indexByte]
  ·go_ret
   exact ⟨by first | rfl | (simp; done), by repeat (first | exact Drawn0.refl _ | apply Drawn0.step)⟩
 ·rw [if_neg hs] at h
  exact absurd h (by simp)

/-! ### stringslite_Cut: function 75 -/
-- BY HAND
/-- what stands ahead of a byte, what stands behind it, is it there. -/
def stringslite_Cut.v (a0 a1 : ByteArray) : ByteArray × ByteArray × Bool := if 0 ≤ stringslite_Index.at_ a0 a1 then (a0.extract 0 (stringslite_Index.at_ a0 a1).toNat, a0.extract ((stringslite_Index.at_ a0 a1).toNat + 1) a0.size, true) else (a0, ⟨#[]⟩, false)
def stringslite_Cut.f (a0 : ByteArray) (a1 : ByteArray) : Option (ByteArray × ByteArray × Bool) := if a1.size = 1 ∧ a0.size ≤ 562949953421312 then some (stringslite_Cut.v a0 a1) else none
theorem stringslite_Cut.in_ : ∀ (l : List UInt8) (c : UInt8), Lib.indexByte l c < (l.length : Int)
 | [], _ => by show (-1 : Int) < 0; decide
 | b :: l, c => by
  have := stringslite_Cut.in_ l c
  unfold Lib.indexByte
  simp only [List.length_cons]
  split
  ·omega
  ·split <;> omega
set_option maxHeartbeats 8000000 in
set_option maxRecDepth 100000 in
theorem stringslite_Cut.calls (a0 : ByteArray) (a1 : ByteArray) (r1 : ByteArray) (r2 : ByteArray) (r3 : Bool) (w : World) (h : stringslite_Cut.f a0 a1 = some (r1, r2, r3)) :
  Calls Tryd.prog 75 #[.string a0, .string a1] w fun e w' => e = .returned (.tuple #[.string r1, .string r2, .bool r3]) ∧ Drawn0 w w' := by
 unfold stringslite_Cut.f at h
 by_cases hs : a1.size = 1 ∧ a0.size ≤ 562949953421312
 ·rw [if_pos hs] at h
  obtain ⟨hs, hz⟩ := hs
  have hv := e5_ h
  clear h
  have hx : stringslite_Index.f a0 a1 = some (stringslite_Index.at_ a0 a1) := by unfold stringslite_Index.f; rw [if_pos hs]
  have hlt : stringslite_Index.at_ a0 a1 < (a0.size : Int) := by
   have := stringslite_Cut.in_ a0.data.toList (a1.data.toList.headD 0)
   rw [data_length] at this
   exact this
  unfold stringslite_Cut.v at hv
  obtain ⟨i, hi⟩ : ∃ i, stringslite_Index.at_ a0 a1 = i := ⟨_, rfl⟩
  rw [hi] at hx hlt hv
  clear hi
  have HX := am_ hx
  clear hx
  by_cases h0 : 0 ≤ i
  ·rw [if_pos h0] at hv
   simp only [Prod.mk.injEq] at hv
   obtain ⟨rfl, rfl, rfl⟩ := hv
   obtain ⟨c, rfl⟩ := stringslite_Index.one hs
   have hw : IntKind.i64.wrap (i + 1) = i + 1 := by rw [IntKind.wrap_i64]; omega
   have c1 : (0 : Int) ≤ i := h0
   have c2 : i ≤ (a0.size : Int) := by omega
   have c3 : (0 : Int) ≤ i + 1 := by omega
   have c4 : (i + 1 : Int) ≤ (a0.size : Int) := by omega
   have c5 : (i + 1).toNat = i.toNat + 1 := by omega
   clear hs hlt
   go_enter Tryd.func75, Tryd.ntmps75
   go_wp2_with (go_at_call 83; (with_reducible refine (stringslite_Index.calls _ _ _ _ HX.out).mono ?_); rintro e w' ⟨rfl, ⟨nd, rfl⟩⟩)
   go_quiet (fail)
   go_wp2
   go_ret3
   exact ⟨by first | rfl | (simp [c5]; done), by repeat (first | exact Drawn0.refl _ | apply Drawn0.step)⟩
  ·rw [if_neg h0] at hv
   simp only [Prod.mk.injEq] at hv
   obtain ⟨rfl, rfl, rfl⟩ := hv
   go_enter Tryd.func75, Tryd.ntmps75
   go_wp2_with (go_at_call 83; (with_reducible refine (stringslite_Index.calls _ _ _ _ HX.out).mono ?_); rintro e w' ⟨rfl, ⟨nd, rfl⟩⟩)
   go_ret3
   exact ⟨by first | rfl | (simp; done), by repeat (first | exact Drawn0.refl _ | apply Drawn0.step)⟩
 ·rw [if_neg hs] at h
  exact absurd h (by simp)

/-! ### strings_Cut: function 62 -/
-- BY HAND
def strings_Cut.f (a0 : ByteArray) (a1 : ByteArray) : Option (ByteArray × ByteArray × Bool) := stringslite_Cut.f a0 a1
set_option maxHeartbeats 8000000 in
set_option maxRecDepth 100000 in
theorem strings_Cut.calls (a0 : ByteArray) (a1 : ByteArray) (r1 : ByteArray) (r2 : ByteArray) (r3 : Bool) (w : World) (h : strings_Cut.f a0 a1 = some (r1, r2, r3)) :
  Calls Tryd.prog 62 #[.string a0, .string a1] w fun e w' => e = .returned (.tuple #[.string r1, .string r2, .bool r3]) ∧ Drawn0 w w' := by
 have HX : Aside0 (stringslite_Cut.f a0 a1 = some (r1, r2, r3)) := ⟨h⟩
 clear h
 go_enter Tryd.func62, Tryd.ntmps62
 go_wp2_with (go_at_call 75; (with_reducible refine (stringslite_Cut.calls _ _ _ _ _ _ HX.out).mono ?_); rintro e w' ⟨rfl, ⟨nd, rfl⟩⟩)
 go_ret3
 exact ⟨by first | rfl | (simp; done), by repeat (first | exact Drawn0.refl _ | apply Drawn0.step)⟩

/-! ### name_letter: function 76 -/
def name_letter.f (a0 : Int) : Option (Bool) := if a0 ≥ 97 then (if a0 ≤ 122 then (some true) else (if a0 ≥ 48 then (if a0 ≤ 57 then (some true) else (some (a0 == 45))) else (some (a0 == 45)))) else (if a0 ≥ 48 then (if a0 ≤ 57 then (some true) else (some (a0 == 45))) else (some (a0 == 45)))
set_option maxHeartbeats 8000000 in
set_option maxRecDepth 100000 in
theorem name_letter.calls (a0 : Int) (r : Bool) (w : World) (h : name_letter.f a0 = some r) :
  Calls Tryd.prog 76 #[.int .u8 a0] w fun e w' => e = .returned (.bool r) ∧ Drawn0 w w' := by
 have H : (if a0 ≥ 97 then (if a0 ≤ 122 then (some true) else (if a0 ≥ 48 then (if a0 ≤ 57 then (some true) else (some (a0 == 45))) else (some (a0 == 45)))) else (if a0 ≥ 48 then (if a0 ≤ 57 then (some true) else (some (a0 == 45))) else (some (a0 == 45)))) = some r := h
 clear h
 by_cases c2 : a0 ≥ 97
 ·rw [if_pos c2] at H
  have c2b0 : decide (97 ≤ a0) = true := decide_eq_true c2
  clear c2
  by_cases c3 : a0 ≤ 122
  ·rw [if_pos c3] at H
   have c3b0 : decide (a0 ≤ 122) = true := decide_eq_true c3
   clear c3
   obtain rfl := e5_ H
   go_enter Tryd.func76, Tryd.ntmps76
   go_wp2
   go_ret
   exact ⟨by first | rfl | (simp; done) | (simp [*]; done), by repeat (first | exact Drawn0.refl _ | apply Drawn0.step)⟩
  rw [if_neg c3] at H
  have c3b0 : decide (a0 ≤ 122) = false := decide_eq_false c3
  clear c3
  by_cases c4 : a0 ≥ 48
  ·rw [if_pos c4] at H
   have c4b0 : decide (48 ≤ a0) = true := decide_eq_true c4
   clear c4
   by_cases c5 : a0 ≤ 57
   ·rw [if_pos c5] at H
    have c5b0 : decide (a0 ≤ 57) = true := decide_eq_true c5
    clear c5
    obtain rfl := e5_ H
    go_enter Tryd.func76, Tryd.ntmps76
    go_wp2
    go_ret
    exact ⟨by first | rfl | (simp; done) | (simp [*]; done), by repeat (first | exact Drawn0.refl _ | apply Drawn0.step)⟩
   rw [if_neg c5] at H
   have c5b0 : decide (a0 ≤ 57) = false := decide_eq_false c5
   clear c5
   obtain rfl := e5_ H
   go_enter Tryd.func76, Tryd.ntmps76
   go_wp2
   go_ret
   exact ⟨by first | rfl | (simp; done) | (simp [*]; done), by repeat (first | exact Drawn0.refl _ | apply Drawn0.step)⟩
  rw [if_neg c4] at H
  have c4b0 : decide (48 ≤ a0) = false := decide_eq_false c4
  clear c4
  obtain rfl := e5_ H
  go_enter Tryd.func76, Tryd.ntmps76
  go_wp2
  go_ret
  exact ⟨by first | rfl | (simp; done) | (simp [*]; done), by repeat (first | exact Drawn0.refl _ | apply Drawn0.step)⟩
 rw [if_neg c2] at H
 have c2b0 : decide (97 ≤ a0) = false := decide_eq_false c2
 clear c2
 by_cases c6 : a0 ≥ 48
 ·rw [if_pos c6] at H
  have c6b0 : decide (48 ≤ a0) = true := decide_eq_true c6
  clear c6
  by_cases c7 : a0 ≤ 57
  ·rw [if_pos c7] at H
   have c7b0 : decide (a0 ≤ 57) = true := decide_eq_true c7
   clear c7
   obtain rfl := e5_ H
   go_enter Tryd.func76, Tryd.ntmps76
   go_wp2
   go_ret
   exact ⟨by first | rfl | (simp; done) | (simp [*]; done), by repeat (first | exact Drawn0.refl _ | apply Drawn0.step)⟩
  rw [if_neg c7] at H
  have c7b0 : decide (a0 ≤ 57) = false := decide_eq_false c7
  clear c7
  obtain rfl := e5_ H
  go_enter Tryd.func76, Tryd.ntmps76
  go_wp2
  go_ret
  exact ⟨by first | rfl | (simp; done) | (simp [*]; done), by repeat (first | exact Drawn0.refl _ | apply Drawn0.step)⟩
 rw [if_neg c6] at H
 have c6b0 : decide (48 ≤ a0) = false := decide_eq_false c6
 clear c6
 obtain rfl := e5_ H
 go_enter Tryd.func76, Tryd.ntmps76
 go_wp2
 go_ret
 exact ⟨by first | rfl | (simp; done) | (simp [*]; done), by repeat (first | exact Drawn0.refl _ | apply Drawn0.step)⟩

/-! ### name_Label: function 63 -/
def name_Label.l0 : Nat → ByteArray → Int → Int → Option (Bool)
 | 0, _, _, _ => none
 | k + 1, x0, x5, x6 => if x6 < x5 then (if 0 ≤ x6 then (if x6 < (x0.size : Int) then ((name_letter.f (bt x0 x6)).bind fun t101 => (if t101 = true then (name_Label.l0 k x0 x5 (wrap64 (x6 + 1))) else (some false))) else (none)) else (none)) else (if (x0.size : Int) ≥ 1 then (some (decide ((x0.size : Int) ≤ 8))) else (some false))
def name_Label.f (k : Nat) (a0 : ByteArray) : Option (Bool) := name_Label.l0 k a0 (a0.size : Int) 0
theorem name_Label.mono_l : ∀ k, (∀ y0 y1 y2, LeO (name_Label.l0 k y0 y1 y2) (name_Label.l0 (k + 1) y0 y1 y2))
 | 0 => fun _ _ _ r h => by simp [name_Label.l0] at h
 | k + 1 => by
  have ih0 := name_Label.mono_l k
  ·intro y0 y1 y2
   unfold name_Label.l0
   repeat' first
   | (with_reducible exact ih0 _ _ _)
   | (with_reducible exact LeO.refl _)
   | (with_reducible exact LeO.none _)
   | (with_reducible refine LeO.ite ?_ ?_)
   | (with_reducible refine LeO.bind ?_ (fun _ => ?_))
   | exact ih0 _ _ _
   | exact LeO.none _
   | refine LeO.ite ?_ ?_
   | refine LeO.bind ?_ (fun _ => ?_)
theorem name_Label.mono : ∀ a0 k, LeO (name_Label.f k a0) (name_Label.f (k + 1) a0) := by
 intro a0 k
 have ih0 := name_Label.mono_l k
 unfold name_Label.f
 repeat' first
   | (with_reducible exact ih0 _ _ _)
   | (with_reducible exact LeO.refl _)
   | (with_reducible exact LeO.none _)
   | (with_reducible refine LeO.ite ?_ ?_)
   | (with_reducible refine LeO.bind ?_ (fun _ => ?_))
   | exact ih0 _ _ _
   | exact LeO.none _
   | refine LeO.ite ?_ ?_
   | refine LeO.bind ?_ (fun _ => ?_)
set_option maxHeartbeats 8000000 in
set_option maxRecDepth 100000 in
theorem name_Label.calls (k : Nat) (a0 : ByteArray) (r : Bool) (w : World) (h : name_Label.f k a0 = some r) :
  Calls Tryd.prog 63 #[.string a0] w fun e w' => e = .returned (.bool r) ∧ Drawn0 w w' := by
 have H : (name_Label.l0 k a0 (a0.size : Int) 0) = some r := h
 clear h
 have H' := am_ H
 clear H
 go_enter Tryd.func63, Tryd.ntmps63
 go_wp2
 go_loopg [6] k (fun kq v6 w' => ∃ (x6_1 : Int), v6 = .int .i64 x6_1 ∧ Aside0 (name_Label.l0 kq a0 (a0.size : Int) x6_1 = some r) ∧ Aside0 (kq ≤ k) ∧ Drawn0 w w')
 case atStart => exact ⟨(0), (by first | rfl | (simp; done) | (simp [*]; done)), H', ⟨Nat.le_refl _⟩, by repeat (first | exact Drawn0.refl _ | apply Drawn0.step)⟩
 case round =>
  clear H'
  obtain ⟨x6_1, rfl, HA, HK1, ⟨m1, rfl⟩⟩ := hrel
  cases gk with
  | zero => exact absurd HA.out (by simp [name_Label.l0])
  | succ k1 =>
   have H := HA.out
   clear HA
   simp only [name_Label.l0] at H
   by_cases c2 : x6_1 < (a0.size : Int)
   ·rw [if_pos c2] at H
    have c2b0 : decide (x6_1 < (a0.size : Int)) = true := decide_eq_true c2
    clear c2
    by_cases c3 : 0 ≤ x6_1
    rotate_left
    ·rw [if_neg c3] at H
     exact absurd H (by simp)
    rw [if_pos c3] at H
    have c3b0 : decide (0 ≤ x6_1) = true := decide_eq_true c3
    clear c3
    by_cases c4 : x6_1 < (a0.size : Int)
    rotate_left
    ·rw [if_neg c4] at H
     exact absurd H (by simp)
    rw [if_pos c4] at H
    have c4b0 : decide (x6_1 < (a0.size : Int)) = true := decide_eq_true c4
    clear c4
    replace H := e4_ H
    obtain ⟨t101, A60, H⟩ := H
    replace H : (if t101 = true then (name_Label.l0 k1 a0 (a0.size : Int) (wrap64 (x6_1 + 1))) else (some false)) = some r := H
    have A6 := am_ A60
    clear A60
    by_cases c7 : t101 = true
    ·subst c7
     have H1 : (name_Label.l0 k1 a0 (a0.size : Int) (wrap64 (x6_1 + 1))) = some r := by rw [if_pos rfl] at H; exact H
     clear H
     have H := H1
     clear H1
     have H' := am_ H
     clear H
     have p5 : 0 ≤ (x6_1 : Int) := of_decide_eq_true (by first | (with_reducible assumption) | assumption)
     have q5 : x6_1 < (a0.size : Int) := of_decide_eq_true (by first | (with_reducible assumption) | assumption)
     have hx5 := bt_at a0 x6_1
     replace p5 := eq_true p5
     replace q5 := eq_true q5
     go_wp2_with (first | ((with_reducible refine gate_callee (f := 76) rfl ?_); refine goesL_ (some 12) rfl rfl Tryd.func76 (by kernel_rfl) rfl #[.int .u8 (bt a0 x6_1)] rfl (by (try simp only [List.map_toArray, List.map_cons, List.map_nil]); first | done | rfl | (simp only [List.length_drop, List.length_take]; rfl)) ?_; (with_reducible refine (name_letter.calls (bt a0 x6_1) true _ A6.out).mono ?_); rintro e w' ⟨rfl, ⟨nd, rfl⟩⟩; refine ⟨_, rfl, ?_⟩))
     go_roundg k1
     case measure => have := HK1.out; omega
     case rel => exact ⟨(wrap64 (x6_1 + 1)), (by first | rfl | (simp; done) | (simp [*]; done)), H', ⟨by have := HK1.out; omega⟩, by repeat (first | exact Drawn0.refl _ | apply Drawn0.step)⟩
    replace c7 := e3_ c7
    subst c7
    have H1 : (some false) = some r := by rw [if_neg (show ¬ (false = true) by decide)] at H; exact H
    clear H
    have H := H1
    clear H1
    obtain rfl := e5_ H
    have p5 : 0 ≤ (x6_1 : Int) := of_decide_eq_true (by first | (with_reducible assumption) | assumption)
    have q5 : x6_1 < (a0.size : Int) := of_decide_eq_true (by first | (with_reducible assumption) | assumption)
    have hx5 := bt_at a0 x6_1
    replace p5 := eq_true p5
    replace q5 := eq_true q5
    go_wp2_with (first | ((with_reducible refine gate_callee (f := 76) rfl ?_); refine goesL_ (some 12) rfl rfl Tryd.func76 (by kernel_rfl) rfl #[.int .u8 (bt a0 x6_1)] rfl (by (try simp only [List.map_toArray, List.map_cons, List.map_nil]); first | done | rfl | (simp only [List.length_drop, List.length_take]; rfl)) ?_; (with_reducible refine (name_letter.calls (bt a0 x6_1) false _ A6.out).mono ?_); rintro e w' ⟨rfl, ⟨nd, rfl⟩⟩; refine ⟨_, rfl, ?_⟩))
    go_ret
    exact ⟨by first | rfl | (simp; done) | (simp [*]; done), by repeat (first | exact Drawn0.refl _ | apply Drawn0.step)⟩
   rw [if_neg c2] at H
   have c2b0 : decide (x6_1 < (a0.size : Int)) = false := decide_eq_false c2
   clear c2
   by_cases c8 : (a0.size : Int) ≥ 1
   ·rw [if_pos c8] at H
    have c8b0 : decide (1 ≤ (a0.size : Int)) = true := decide_eq_true c8
    have c8b1 : decide (1 ≤ a0.size) = true := decide_eq_true (by omega)
    clear c8
    obtain rfl := e5_ H
    go_wp2
    go_ret
    exact ⟨by first | rfl | (simp; done) | (simp [*]; done), by repeat (first | exact Drawn0.refl _ | apply Drawn0.step)⟩
   rw [if_neg c8] at H
   have c8b0 : decide (1 ≤ (a0.size : Int)) = false := decide_eq_false c8
   have c8b1 : decide (1 ≤ a0.size) = false := decide_eq_false (by omega)
   clear c8
   obtain rfl := e5_ H
   go_wp2
   go_ret
   exact ⟨by first | rfl | (simp; done) | (simp [*]; done), by repeat (first | exact Drawn0.refl _ | apply Drawn0.step)⟩

/-! ### name_May: function 41 -/
def name_May.l0 : Nat → Int → ByteArray → Bool → Option (Bool)
 | 0, _, _, _ => none
 | k + 1, x3, x4, x5 => if x5 = true then ((strings_Cut.f x4 (⟨#[46]⟩ : ByteArray)).bind fun bt102 => ((name_Label.f k bt102.1).bind fun t105 => (if t105 = true then (if (wrap64 (x3 + 1)) > 8 then (some false) else (name_May.l0 k (wrap64 (x3 + 1)) bt102.2.1 bt102.2.2)) else (some false)))) else (some true)
def name_May.f (k : Nat) (a0 : ByteArray) : Option (Bool) := name_May.l0 k 0 a0 (a0.toList != ([] : List UInt8))
theorem name_May.mono_l : ∀ k, (∀ y0 y1 y2, LeO (name_May.l0 k y0 y1 y2) (name_May.l0 (k + 1) y0 y1 y2))
 | 0 => fun _ _ _ r h => by simp [name_May.l0] at h
 | k + 1 => by
  have ih0 := name_May.mono_l k
  ·intro y0 y1 y2
   unfold name_May.l0
   repeat' first
   | (with_reducible exact ih0 _ _ _)
   | (with_reducible exact name_Label.mono _ _)
   | (with_reducible exact LeO.refl _)
   | (with_reducible exact LeO.none _)
   | (with_reducible refine LeO.ite ?_ ?_)
   | (with_reducible refine LeO.bind ?_ (fun _ => ?_))
   | exact ih0 _ _ _
   | exact name_Label.mono _ _
   | exact LeO.none _
   | refine LeO.ite ?_ ?_
   | refine LeO.bind ?_ (fun _ => ?_)
theorem name_May.mono : ∀ a0 k, LeO (name_May.f k a0) (name_May.f (k + 1) a0) := by
 intro a0 k
 have ih0 := name_May.mono_l k
 unfold name_May.f
 repeat' first
   | (with_reducible exact ih0 _ _ _)
   | (with_reducible exact name_Label.mono _ _)
   | (with_reducible exact LeO.refl _)
   | (with_reducible exact LeO.none _)
   | (with_reducible refine LeO.ite ?_ ?_)
   | (with_reducible refine LeO.bind ?_ (fun _ => ?_))
   | exact ih0 _ _ _
   | exact name_Label.mono _ _
   | exact LeO.none _
   | refine LeO.ite ?_ ?_
   | refine LeO.bind ?_ (fun _ => ?_)
set_option maxHeartbeats 8000000 in
set_option maxRecDepth 100000 in
theorem name_May.calls (k : Nat) (a0 : ByteArray) (r : Bool) (w : World) (h : name_May.f k a0 = some r) :
  Calls Tryd.prog 41 #[.string a0] w fun e w' => e = .returned (.bool r) ∧ Drawn0 w w' := by
 have H : (name_May.l0 k 0 a0 (a0.toList != ([] : List UInt8))) = some r := h
 clear h
 have H' := am_ H
 clear H
 go_enter Tryd.func41, Tryd.ntmps41
 go_wp2
 go_loopg [3, 4, 5] k (fun kq v3 v4 v5 w' => ∃ (x3_1 : Int) (x4_1 : ByteArray) (x5_1 : Bool), v3 = .int .i64 x3_1 ∧ v4 = .string x4_1 ∧ v5 = .bool x5_1 ∧ Aside0 (name_May.l0 kq x3_1 x4_1 x5_1 = some r) ∧ Aside0 (kq ≤ k) ∧ Drawn0 w w')
 case atStart => exact ⟨(0), (a0), ((a0.toList != ([] : List UInt8))), (by first | rfl | (simp; done) | (simp [*]; done) | (simp only [str_ne_]; rfl) | (simp only [str_eq_]; rfl)), (by first | rfl | (simp; done) | (simp [*]; done) | (simp only [str_ne_]; rfl) | (simp only [str_eq_]; rfl)), (by first | rfl | (simp; done) | (simp [*]; done) | (simp only [str_ne_]; rfl) | (simp only [str_eq_]; rfl)), H', ⟨Nat.le_refl _⟩, by repeat (first | exact Drawn0.refl _ | apply Drawn0.step)⟩
 case round =>
  clear H'
  obtain ⟨x3_1, x4_1, x5_1, rfl, rfl, rfl, HA, HK1, ⟨m1, rfl⟩⟩ := hrel
  cases gk with
  | zero => exact absurd HA.out (by simp [name_May.l0])
  | succ k1 =>
   have H := HA.out
   clear HA
   simp only [name_May.l0] at H
   by_cases c2 : x5_1 = true
   ·subst c2
    have H1 : ((strings_Cut.f x4_1 (⟨#[46]⟩ : ByteArray)).bind fun bt102 => ((name_Label.f k1 bt102.1).bind fun t105 => (if t105 = true then (if (wrap64 (x3_1 + 1)) > 8 then (some false) else (name_May.l0 k1 (wrap64 (x3_1 + 1)) bt102.2.1 bt102.2.2)) else (some false)))) = some r := by rw [if_pos rfl] at H; exact H
    clear H
    have H := H1
    clear H1
    replace H := e4_ H
    obtain ⟨⟨t102, t103, t104⟩, A30, H⟩ := H
    replace H : ((name_Label.f k1 t102).bind fun t105 => (if t105 = true then (if (wrap64 (x3_1 + 1)) > 8 then (some false) else (name_May.l0 k1 (wrap64 (x3_1 + 1)) t103 t104)) else (some false))) = some r := H
    have A3 := am_ A30
    clear A30
    replace H := e4_ H
    obtain ⟨t105, A40, H⟩ := H
    replace H : (if t105 = true then (if (wrap64 (x3_1 + 1)) > 8 then (some false) else (name_May.l0 k1 (wrap64 (x3_1 + 1)) t103 t104)) else (some false)) = some r := H
    have A4 := am_ A40
    clear A40
    by_cases c5 : t105 = true
    ·subst c5
     have H1 : (if (wrap64 (x3_1 + 1)) > 8 then (some false) else (name_May.l0 k1 (wrap64 (x3_1 + 1)) t103 t104)) = some r := by rw [if_pos rfl] at H; exact H
     clear H
     have H := H1
     clear H1
     by_cases c6 : (wrap64 (x3_1 + 1)) > 8
     ·rw [if_pos c6] at H
      have c6b0 : decide (8 < (wrap64 (x3_1 + 1))) = true := decide_eq_true c6
      clear c6
      obtain rfl := e5_ H
      go_wp2_with (first | ((with_reducible refine gate_callee (f := 62) rfl ?_); refine goesL_ (some 15) rfl rfl Tryd.func62 (by kernel_rfl) rfl #[.string x4_1, .string (⟨#[46]⟩ : ByteArray)] rfl (by (try simp only [List.map_toArray, List.map_cons, List.map_nil]); first | done | rfl | (simp only [List.length_drop, List.length_take]; rfl)) ?_; (with_reducible refine (strings_Cut.calls x4_1 (⟨#[46]⟩ : ByteArray) t102 t103 t104 _ A3.out).mono ?_); rintro e w' ⟨rfl, ⟨nd, rfl⟩⟩; refine ⟨_, rfl, ?_⟩) | ((with_reducible refine gate_callee (f := 63) rfl ?_); refine goesL_ (some 22) rfl rfl Tryd.func63 (by kernel_rfl) rfl #[.string t102] rfl (by (try simp only [List.map_toArray, List.map_cons, List.map_nil]); first | done | rfl | (simp only [List.length_drop, List.length_take]; rfl)) ?_; (with_reducible refine (name_Label.calls k1 t102 true _ A4.out).mono ?_); rintro e w' ⟨rfl, ⟨nd, rfl⟩⟩; refine ⟨_, rfl, ?_⟩))
      go_ret
      exact ⟨by first | rfl | (simp; done) | (simp [*]; done) | (simp only [str_ne_]; rfl) | (simp only [str_eq_]; rfl), by repeat (first | exact Drawn0.refl _ | apply Drawn0.step)⟩
     rw [if_neg c6] at H
     have c6b0 : decide (8 < (wrap64 (x3_1 + 1))) = false := decide_eq_false c6
     clear c6
     have H' := am_ H
     clear H
     go_wp2_with (first | ((with_reducible refine gate_callee (f := 62) rfl ?_); refine goesL_ (some 15) rfl rfl Tryd.func62 (by kernel_rfl) rfl #[.string x4_1, .string (⟨#[46]⟩ : ByteArray)] rfl (by (try simp only [List.map_toArray, List.map_cons, List.map_nil]); first | done | rfl | (simp only [List.length_drop, List.length_take]; rfl)) ?_; (with_reducible refine (strings_Cut.calls x4_1 (⟨#[46]⟩ : ByteArray) t102 t103 t104 _ A3.out).mono ?_); rintro e w' ⟨rfl, ⟨nd, rfl⟩⟩; refine ⟨_, rfl, ?_⟩) | ((with_reducible refine gate_callee (f := 63) rfl ?_); refine goesL_ (some 22) rfl rfl Tryd.func63 (by kernel_rfl) rfl #[.string t102] rfl (by (try simp only [List.map_toArray, List.map_cons, List.map_nil]); first | done | rfl | (simp only [List.length_drop, List.length_take]; rfl)) ?_; (with_reducible refine (name_Label.calls k1 t102 true _ A4.out).mono ?_); rintro e w' ⟨rfl, ⟨nd, rfl⟩⟩; refine ⟨_, rfl, ?_⟩))
     go_roundg k1
     case measure => have := HK1.out; omega
     case rel => exact ⟨(wrap64 (x3_1 + 1)), (t103), (t104), (by first | rfl | (simp; done) | (simp [*]; done) | (simp only [str_ne_]; rfl) | (simp only [str_eq_]; rfl)), (by first | rfl | (simp; done) | (simp [*]; done) | (simp only [str_ne_]; rfl) | (simp only [str_eq_]; rfl)), (by first | rfl | (simp; done) | (simp [*]; done) | (simp only [str_ne_]; rfl) | (simp only [str_eq_]; rfl)), H', ⟨by have := HK1.out; omega⟩, by repeat (first | exact Drawn0.refl _ | apply Drawn0.step)⟩
    replace c5 := e3_ c5
    subst c5
    have H1 : (some false) = some r := by rw [if_neg (show ¬ (false = true) by decide)] at H; exact H
    clear H
    have H := H1
    clear H1
    obtain rfl := e5_ H
    go_wp2_with (first | ((with_reducible refine gate_callee (f := 62) rfl ?_); refine goesL_ (some 15) rfl rfl Tryd.func62 (by kernel_rfl) rfl #[.string x4_1, .string (⟨#[46]⟩ : ByteArray)] rfl (by (try simp only [List.map_toArray, List.map_cons, List.map_nil]); first | done | rfl | (simp only [List.length_drop, List.length_take]; rfl)) ?_; (with_reducible refine (strings_Cut.calls x4_1 (⟨#[46]⟩ : ByteArray) t102 t103 t104 _ A3.out).mono ?_); rintro e w' ⟨rfl, ⟨nd, rfl⟩⟩; refine ⟨_, rfl, ?_⟩) | ((with_reducible refine gate_callee (f := 63) rfl ?_); refine goesL_ (some 22) rfl rfl Tryd.func63 (by kernel_rfl) rfl #[.string t102] rfl (by (try simp only [List.map_toArray, List.map_cons, List.map_nil]); first | done | rfl | (simp only [List.length_drop, List.length_take]; rfl)) ?_; (with_reducible refine (name_Label.calls k1 t102 false _ A4.out).mono ?_); rintro e w' ⟨rfl, ⟨nd, rfl⟩⟩; refine ⟨_, rfl, ?_⟩))
    go_ret
    exact ⟨by first | rfl | (simp; done) | (simp [*]; done) | (simp only [str_ne_]; rfl) | (simp only [str_eq_]; rfl), by repeat (first | exact Drawn0.refl _ | apply Drawn0.step)⟩
   replace c2 := e3_ c2
   subst c2
   have H1 : (some true) = some r := by rw [if_neg (show ¬ (false = true) by decide)] at H; exact H
   clear H
   have H := H1
   clear H1
   obtain rfl := e5_ H
   go_wp2
   go_ret
   exact ⟨by first | rfl | (simp; done) | (simp [*]; done) | (simp only [str_ne_]; rfl) | (simp only [str_eq_]; rfl), by repeat (first | exact Drawn0.refl _ | apply Drawn0.step)⟩

/-! ### name_May_c: function 41 -/
-- inc name1.inc
theorem letter_eq (b : Int) : name_letter.f b = some (letterB b) := by
 have e : ∀ x : Bool, (x = true ↔ ((97 ≤ b ∧ b ≤ 122) ∨ (48 ≤ b ∧ b ≤ 57) ∨ b = 45)) → some x = some (letterB b) := by
  intro x hx
  congr 1
  rw [Bool.eq_iff_iff, hx]
  simp only [letterB, decide_eq_true_eq]
 unfold name_letter.f
 repeat' split
 all_goals apply e
 all_goals simp only [beq_iff_eq, true_iff]
 all_goals omega

theorem label_loop (s : ByteArray) (hs : s.size ≤ 4611686018427387904) (d : Nat) : ∀ (k i : Nat), i + d = s.size → d < k →
  name_Label.l0 k s (s.size : Int) (i : Int) = some (((bytesOf s).drop i).all letterB && decide (1 ≤ s.size ∧ s.size ≤ 8)) := by
 induction d with
 | zero =>
  intro k i hi hk
  obtain ⟨k, rfl⟩ : ∃ m, k = m + 1 := ⟨k - 1, by omega⟩
  rw [name_Label.l0, if_neg (by omega), drop_end s i (by omega)]
  simp only [List.all_nil, Bool.true_and]
  split
  ·congr 1
   rw [Bool.eq_iff_iff]
   simp only [decide_eq_true_eq]
   omega
  ·congr 1
   symm
   rw [decide_eq_false_iff_not]
   omega
 | succ d ih =>
  intro k i hi hk
  obtain ⟨k, rfl⟩ : ∃ m, k = m + 1 := ⟨k - 1, by omega⟩
  rw [name_Label.l0, if_pos (by omega), if_pos (by omega), if_pos (by omega), letter_eq, drop_cons s i (by omega)]
  simp only [Option.bind_some, List.all_cons]
  cases letterB (bt s i) with
  | true =>
   rw [if_pos rfl, w64 (by omega)]
   have := ih k (i + 1) (by omega) (by omega)
   rw [show ((i : Int) + 1) = ((i + 1 : Nat) : Int) by omega, this]
   simp
  | false => simp
theorem label_eq (k : Nat) (s : ByteArray) (hs : s.size ≤ 4611686018427387904) (hk : s.size < k) : name_Label.f k s = some (labelB (bytesOf s)) := by
 unfold name_Label.f
 have := label_loop s hs s.size k 0 (by omega) hk
 rw [show ((0 : Nat) : Int) = 0 by rfl] at this
 rw [this]
 unfold labelB
 rw [List.drop_zero, bytesOf_length]

theorem may_loop (m : Nat) : ∀ (k n : Nat) (s : ByteArray), s.size ≤ m → s.size ≤ 562949953421312 → m + 2 ≤ k → n ≤ 8 →
  name_May.l0 k (n : Int) s true = some ((cutL (bytesOf s)).all labelB && decide (n + (cutL (bytesOf s)).length ≤ 8)) := by
 induction m with
 | zero =>
  intro k n s hm hs hk hn
  obtain ⟨k, rfl⟩ : ∃ j, k = j + 1 := ⟨k - 1, by omega⟩
  have hz : bytesOf s = [] := List.length_eq_zero_iff.1 (by rw [bytesOf_length]; omega)
  rw [name_May.l0, if_pos rfl]
  have hd : s.data.toList = [] := List.length_eq_zero_iff.1 (by rw [data_length]; omega)
  have hc : strings_Cut.f s ⟨#[46]⟩ = some (s, ⟨#[]⟩, false) := by
   unfold strings_Cut.f stringslite_Cut.f
   rw [if_pos ⟨rfl, hs⟩]
   unfold stringslite_Cut.v stringslite_Index.at_
   rw [hd]
   rfl
  rw [hc]
  simp only [Option.bind_some]
  rw [label_eq k s (by omega) (by omega), hz]
  simp [labelB, cutL]
 | succ m ih =>
  intro k n s hm hs hk hn
  obtain ⟨k, rfl⟩ : ∃ j, k = j + 1 := ⟨k - 1, by omega⟩
  rw [name_May.l0, if_pos rfl]
  rcases cut_index s.data.toList with ⟨h1, h2⟩ | ⟨h1, h1', h2⟩
  ·have hc : strings_Cut.f s ⟨#[46]⟩ = some (s, ⟨#[]⟩, false) := by
    unfold strings_Cut.f stringslite_Cut.f
    rw [if_pos ⟨rfl, hs⟩]
    unfold stringslite_Cut.v stringslite_Index.at_
    rw [show (⟨#[46]⟩ : ByteArray).data.toList.headD 0 = 46 from rfl, h1, if_neg (by decide)]
   have h2' : cutL (bytesOf s) = [bytesOf s] := h2
   rw [hc, h2']
   simp only [Option.bind_some]
   rw [label_eq k s (by omega) (by omega)]
   simp only [Option.bind_some, List.all_cons, List.all_nil, Bool.and_true, List.length_cons, List.length_nil]
   cases labelB (bytesOf s) with
   | true =>
    rw [if_pos rfl, w64 (by omega)]
    by_cases h8 : (n : Int) + 1 > 8
    ·rw [if_pos h8, decide_eq_false (by omega)]
     rfl
    ·rw [if_neg h8, decide_eq_true (by omega)]
     obtain ⟨k, rfl⟩ : ∃ j, k = j + 1 := ⟨k - 1, by omega⟩
     rw [name_May.l0, if_neg (by decide)]
     rfl
   | false => simp
  ·have hc : strings_Cut.f s ⟨#[46]⟩ = some (s.extract 0 (Lib.indexByte s.data.toList 46).toNat, s.extract ((Lib.indexByte s.data.toList 46).toNat + 1) s.size, true) := by
    unfold strings_Cut.f stringslite_Cut.f
    rw [if_pos ⟨rfl, hs⟩]
    unfold stringslite_Cut.v stringslite_Index.at_
    rw [show (⟨#[46]⟩ : ByteArray).data.toList.headD 0 = 46 from rfl, if_pos h1]
   have h2' : cutL (bytesOf s) = (bytesOf s).take (Lib.indexByte s.data.toList 46).toNat :: cutL ((bytesOf s).drop ((Lib.indexByte s.data.toList 46).toNat + 1)) := h2
   rw [data_length] at h1'
   obtain ⟨i, hi⟩ : ∃ i : Nat, (Lib.indexByte s.data.toList 46).toNat = i := ⟨_, rfl⟩
   rw [hi] at hc h2'
   have hil : i < s.size := by omega
   rw [hc]
   simp only [Option.bind_some]
   have e1 : bytesOf (s.extract 0 i) = (bytesOf s).take i := by rw [bytesOf_extract, List.drop_zero, Nat.sub_zero]
   have e2 : bytesOf (s.extract (i + 1) s.size) = (bytesOf s).drop (i + 1) := by
    rw [bytesOf_extract, List.take_of_length_le (by rw [List.length_drop, bytesOf_length]; omega)]
   have z1 : (s.extract 0 i).size = i := by rw [ByteArray.size_extract]; omega
   have z2 : (s.extract (i + 1) s.size).size = s.size - (i + 1) := by rw [ByteArray.size_extract]; omega
   rw [label_eq k _ (by omega) (by omega), e1, h2']
   simp only [Option.bind_some, List.all_cons, List.length_cons]
   cases labelB ((bytesOf s).take i) with
   | true =>
    rw [if_pos rfl, w64 (by omega)]
    have hp : 0 < (cutL ((bytesOf s).drop (i + 1))).length := List.length_pos_iff.2 (cutL_ne _)
    by_cases h8 : (n : Int) + 1 > 8
    ·rw [if_pos h8, decide_eq_false (by omega)]
     simp
    ·rw [if_neg h8, show (n : Int) + 1 = ((n + 1 : Nat) : Int) by omega, ih k (n + 1) _ (by omega) (by omega) (by omega) (by omega), e2]
     simp only [Bool.true_and]
     rw [show n + 1 + (cutL ((bytesOf s).drop (i + 1))).length = n + ((cutL ((bytesOf s).drop (i + 1))).length + 1) by omega]
   | false => simp

/-- what the program says of a name. -/
theorem name_eq (k : Nat) (s : ByteArray) (hs : s.size ≤ 562949953421312) (hk : s.size + 2 ≤ k) : name_May.f k s = some (nameB (bytesOf s)) := by
 unfold name_May.f nameB
 by_cases h : s.size = 0
 ·have hz : bytesOf s = [] := List.length_eq_zero_iff.1 (by rw [bytesOf_length]; omega)
  have ht : (s.toList != ([] : List UInt8)) = false := by rw [(toList_nil s).2 h]; rfl
  obtain ⟨k, rfl⟩ : ∃ j, k = j + 1 := ⟨k - 1, by omega⟩
  rw [ht, name_May.l0, if_neg (by decide), hz]
  rfl
 ·have hz : bytesOf s ≠ [] := fun e => h (by rw [← bytesOf_length, e]; rfl)
  have ht : (s.toList != ([] : List UInt8)) = true := by
   rw [bne_iff_ne]
   exact fun e => h ((toList_nil s).1 e)
  have := may_loop s.size k 0 s (Nat.le_refl _) hs hk (by omega)
  rw [show ((0 : Nat) : Int) = 0 by rfl] at this
  rw [ht, this, decide_eq_false hz, Bool.false_or, Nat.zero_add]
def name_May_c.f (a0 : ByteArray) : Option Bool := if a0.size ≤ 562949953421312 then some (nameB (bytesOf a0)) else none
theorem name_May_c.calls (a0 : ByteArray) (r : Bool) (w : World) (h : name_May_c.f a0 = some r) :
  Calls Tryd.prog 41 #[.string a0] w fun e w' => e = .returned (.bool r) ∧ Drawn0 w w' := by
 unfold name_May_c.f at h
 by_cases hs : a0.size ≤ 562949953421312
 ·rw [if_pos hs] at h
  obtain rfl := e5_ h
  exact name_May.calls (a0.size + 2) a0 _ w (name_eq _ a0 hs (Nat.le_refl _))
 ·rw [if_neg hs] at h
  cases h

/-! ### strings_Count: function 86 -/
-- BY HAND
/-- how often the one byte of the second text stands in the first. -/
def strings_Count.at_ (a0 a1 : ByteArray) : Nat := Lib.countByte a0.data.toList (a1.data.toList.headD 0)
def strings_Count.f (a0 : ByteArray) (a1 : ByteArray) : Option Int := if a1.size = 1 then some (strings_Count.at_ a0 a1) else none
theorem strings_Count.one {a : ByteArray} (h : a.size = 1) : ∃ c, a = ⟨#[c]⟩ := by
 have hl : a.data.toList.length = 1 := by rw [data_length]; exact h
 obtain ⟨c, hc⟩ := List.length_eq_one_iff.1 hl
 refine ⟨c, ?_⟩
 have e : a = ⟨a.data⟩ := rfl
 rw [e, show a.data = #[c] from Array.toList_inj.1 hc]
set_option maxHeartbeats 8000000 in
set_option maxRecDepth 100000 in
theorem strings_Count.calls (a0 : ByteArray) (a1 : ByteArray) (r : Int) (w : World) (h : strings_Count.f a0 a1 = some r) :
  Calls Tryd.prog 86 #[.string a0, .string a1] w fun e w' => e = .returned (.int .i64 r) ∧ Drawn0 w w' := by
 unfold strings_Count.f at h
 by_cases hs : a1.size = 1
 ·rw [if_pos hs] at h
  obtain rfl := e5_ h
  clear h
  obtain ⟨c, rfl⟩ := strings_Count.one hs
  clear hs
  show Calls _ _ _ _ fun e w' => e = .returned (.int .i64 (Lib.countByte a0.data.toList c)) ∧ Drawn0 w w'
  go_enter Tryd.func86, Tryd.ntmps86
  go_wp2
  rw [run_callFunc_extern Tryd.func96 (by kernel_rfl) (by kernel_rfl) (by kernel_rfl) (e := Extern.BytealgCount.count) (by kernel_rfl), Lib.run_countString]
  simp only [Result.andThen]
  rw [Oper.upon_value]
  go_wp2
  go_ret
  exact ⟨rfl, Drawn0.refl _⟩
 ·rw [if_neg hs] at h
  exact absurd h (by simp)

/-! ### strings_Index: function 87 -/
def strings_Index.f (a0 : ByteArray) (a1 : ByteArray) : Option (Int) := (stringslite_Index.f a0 a1).bind fun t106 => (some t106)
set_option maxHeartbeats 8000000 in
set_option maxRecDepth 100000 in
theorem strings_Index.calls (a0 : ByteArray) (a1 : ByteArray) (r : Int) (w : World) (h : strings_Index.f a0 a1 = some r) :
  Calls Tryd.prog 87 #[.string a0, .string a1] w fun e w' => e = .returned (.int .i64 r) ∧ Drawn0 w w' := by
 have H : ((stringslite_Index.f a0 a1).bind fun t106 => (some t106)) = some r := h
 clear h
 replace H := e4_ H
 obtain ⟨t106, A30, H⟩ := H
 replace H : (some t106) = some r := H
 have A3 := am_ A30
 clear A30
 obtain rfl := e5_ H
 go_enter Tryd.func87, Tryd.ntmps87
 go_wp2_with (first | ((with_reducible refine gate_callee (f := 83) rfl ?_); refine goesL_ (some 7) rfl rfl Tryd.func83 (by kernel_rfl) rfl #[.string a0, .string a1] rfl (by (try simp only [List.map_toArray, List.map_cons, List.map_nil]); first | done | rfl | (simp only [List.length_drop, List.length_take]; rfl)) ?_; (with_reducible refine (stringslite_Index.calls a0 a1 t106 _ A3.out).mono ?_); rintro e w' ⟨rfl, ⟨nd, rfl⟩⟩; refine ⟨_, rfl, ?_⟩))
 go_ret
 exact ⟨by first | rfl | (simp; done) | (simp [*]; done), by repeat (first | exact Drawn0.refl _ | apply Drawn0.step)⟩

/-! ### strings_genSplit: function 80 -/
-- BY HAND
/-- a text, cut at its points, so many times at most. -/
def strings_genSplit.cut : Nat → ByteArray → List ByteArray
 | 0, s => [s]
 | m + 1, s => if Lib.indexByte s.data.toList 46 = -1 then [s] else s.extract 0 (Lib.indexByte s.data.toList 46).toNat :: strings_genSplit.cut m (s.extract ((Lib.indexByte s.data.toList 46).toNat + 1) s.size)
theorem strings_genSplit.cut_miss (m : Nat) (s : ByteArray) (h : Lib.indexByte s.data.toList 46 = -1) : strings_genSplit.cut m s = [s] := by
 cases m with
 | zero => rfl
 | succ m => unfold strings_genSplit.cut; rw [if_pos h]
theorem strings_genSplit.cut_hit (m : Nat) (s : ByteArray) (i : Nat) (h : Lib.indexByte s.data.toList 46 = i) : strings_genSplit.cut (m + 1) s = s.extract 0 i :: strings_genSplit.cut m (s.extract (i + 1) s.size) := by
 have e : (Lib.indexByte s.data.toList 46).toNat = i := by omega
 rw [strings_genSplit.cut, if_neg (by omega), e]
theorem strings_genSplit.index_or : ∀ L : List UInt8, Lib.indexByte L 46 = -1 ∨ ∃ i : Nat, Lib.indexByte L 46 = i ∧ i < L.length
 | [] => .inl rfl
 | b :: L => by
  by_cases hb : b = 46
  ·subst hb
   exact .inr ⟨0, by simp [Lib.indexByte], by simp⟩
  ·have hne : (b == 46) = false := by simpa using hb
   rcases strings_genSplit.index_or L with h | ⟨i, h, hi⟩
   ·exact .inl (by simp [Lib.indexByte, hne, h])
   ·refine .inr ⟨i + 1, ?_, by simp only [List.length_cons]; omega⟩
    have h4 : ((i : Int) == -1) = false := by
     rw [beq_eq_false_iff_ne]
     omega
    simp [Lib.indexByte, hne, h, h4]
theorem strings_genSplit.cut_length (m : Nat) : ∀ s, (strings_genSplit.cut m s).length ≤ m + 1 := by
 induction m with
 | zero => intro s; exact Nat.le_refl _
 | succ m ih =>
  intro s
  unfold strings_genSplit.cut
  split
  ·simp
  ·have := ih (s.extract ((Lib.indexByte s.data.toList 46).toNat + 1) s.size)
   simp only [List.length_cons]
   omega
def strings_genSplit.f (a0 : ByteArray) (a1 : ByteArray) (a2 : Int) (a3 : Int) : Option (List ByteArray) :=
 if a1 = ⟨#[46]⟩ ∧ a2 = 0 ∧ a3 = -1 ∧ a0.size ≤ 100000 then some (strings_genSplit.cut (strings_Count.at_ a0 ⟨#[46]⟩) a0) else none
theorem strings_genSplit.row {w : World} {base g N : Nat} {ps : List ByteArray} (hb : base ≤ g) (h : w.heap[g]? = some (.cells (Lib.cellsOf ps N) 9 (0, 0))) (hl : ps.length ≤ N) (hN : N ≤ 1000000) :
  Kd.R Kd.string 9 w base (fun _ => True) (.slice (some ⟨g, 0, none⟩) ps.length N) ps := by
 refine Kd.R_of_own ⟨by rw [encs_length, Nat.mul_one], .inr ⟨g, N, Lib.cellsOf ps N, rfl, hb, h, hl, by simp only [maxLen]; omega, by rw [Lib.cellsOf_size hl, Nat.mul_one], ?_⟩⟩ (fun _ _ => trivial)
 unfold Lib.cellsOf encs
 rw [Nat.mul_one, List.take_append_of_le_length (by rw [List.length_map]; exact Nat.le_refl _), List.take_of_length_le (by rw [List.length_map]; exact Nat.le_refl _)]
set_option maxHeartbeats 8000000 in
set_option maxRecDepth 100000 in
theorem strings_genSplit.calls (a0 : ByteArray) (a1 : ByteArray) (a2 : Int) (a3 : Int) (r : List ByteArray) (w : World) (h : strings_genSplit.f a0 a1 a2 a3 = some r) :
  Calls Tryd.prog 80 #[.string a0, .string a1, .int .i64 a2, .int .i64 a3] w fun e w' => ∃ v0_ : Value, e = .returned (v0_) ∧ Kd.R Kd.string 9 w' w.heap.size (fun _ => True) v0_ r ∧ Below w.heap.size w w' := by
 unfold strings_genSplit.f at h
 by_cases hc : a1 = ⟨#[46]⟩ ∧ a2 = 0 ∧ a3 = -1 ∧ a0.size ≤ 100000
 ·rw [if_pos hc] at h
  obtain ⟨rfl, rfl, rfl, hs⟩ := hc
  have hcl : strings_Count.at_ a0 ⟨#[46]⟩ ≤ a0.size := by
   unfold strings_Count.at_ Lib.countByte
   have := List.count_le_length (a := ((⟨#[46]⟩ : ByteArray).data.toList.headD 0)) (l := a0.data.toList)
   rw [data_length] at this
   exact this
  have hCC : ∀ W, Calls Tryd.prog 86 #[.string a0, .string ⟨#[46]⟩] W fun e w' => e = .returned (.int .i64 (strings_Count.at_ a0 ⟨#[46]⟩ : Nat)) ∧ Drawn0 W w' := fun W => strings_Count.calls a0 ⟨#[46]⟩ _ W rfl
  obtain ⟨cn, hcn⟩ : ∃ cn : Nat, strings_Count.at_ a0 ⟨#[46]⟩ = cn := ⟨_, rfl⟩
  rw [hcn] at hCC h hcl
  clear hcn
  obtain rfl := e5_ h
  clear h
  have hI : ∀ (x : ByteArray) (W : World), Calls Tryd.prog 87 #[.string x, .string ⟨#[46]⟩] W fun e w' => e = .returned (.int .i64 (Lib.indexByte x.data.toList 46)) ∧ Drawn0 W w' := fun x W => strings_Index.calls x ⟨#[46]⟩ _ W rfl
  have hlen := am_ (strings_genSplit.cut_length cn a0)
  have eN : min ((cn : Int) + 1) ((a0.size : Int) + 1) = ((cn + 1 : Nat) : Int) := by omega
  have hmk := fun W => run_make_row' (P := Tryd.prog) (w := W) 47 9 (.string ByteArray.empty) 16 Tryd.underlying47 info9 rfl .i64 .i64 (cn + 1) (by omega) (by omega)
  have e1 : ((cn + 1 : Nat) : Int) = (cn : Int) + 1 := by omega
  simp only [e1] at hmk
  go_enter Tryd.func80, Tryd.ntmps80
  go_wp2_with (first | (go_at_call 86; refine (hCC _).mono ?_; rintro e w' ⟨rfl, ⟨nd, rfl⟩⟩))
  clear hmk hCC
  go_loopg [0, 10] cn (fun d s0 s10 wr => ∃ (done : List ByteArray) (rest : ByteArray), s0 = .string rest ∧ s10 = .int .i64 done.length ∧ done.length ≤ cn ∧ d = cn - done.length ∧ rest.size ≤ a0.size ∧
   Aside0 (wr.heap[w.heap.size]? = some (.cells (Lib.cellsOf done (cn + 1)) 9 (0, 0))) ∧ Aside0 (Below w.heap.size w wr) ∧ Aside0 (done ++ strings_genSplit.cut (cn - done.length) rest = strings_genSplit.cut cn a0))
  case atStart => exact ⟨[], a0, rfl, rfl, Nat.zero_le _, rfl, Nat.le_refl _, ⟨by rw [Lib.cellsOf_nil]; exact blk_new _ _⟩, ⟨by repeat (first | exact Below.refl _ _ | apply p3_ | apply p1_ | apply p2_)⟩, ⟨rfl⟩⟩
  case round =>
   obtain ⟨done, rest, rfl, rfl, hd, rfl, hrs, HH, HB, HS⟩ := hrel
   have hnext : (Lib.cellsOf done (cn + 1))[done.length]? = some (.string ByteArray.empty) := Lib.cellsOf_next (by omega)
   have hx := (bc_ HH.out done.length).trans hnext
   have hz := bf_ HH.out done.length
   clear hnext
   have fin : strings_genSplit.cut (cn - done.length) rest = [rest] → ∀ W : World, W.heap[w.heap.size]? = some (.cells ((Lib.cellsOf done (cn + 1)).setIfInBounds done.length (.string rest)) 9 (0, 0)) → Kd.R Kd.string 9 W w.heap.size (fun _ => True) (.slice (some ⟨w.heap.size, 0, none⟩) (done.length + 1) (cn + 1)) (strings_genSplit.cut cn a0) := fun e W hW => by
    have e2 := HS.out
    rw [e] at e2
    rw [Lib.cellsOf_set (by omega)] at hW
    rw [← e2]
    have := strings_genSplit.row (base := w.heap.size) (Nat.le_refl _) hW (by rw [List.length_append, List.length_singleton]; omega) (by omega)
    rw [List.length_append, List.length_singleton] at this
    exact this
   by_cases hlt : done.length < cn
   ·have hltz : ((done.length : Nat) : Int) < (cn : Int) := by omega
    rcases strings_genSplit.index_or rest.data.toList with hix | ⟨i, hix, hroom⟩
    ·have HF := am_ (fin (strings_genSplit.cut_miss _ rest hix))
     clear fin
     go_wp2_with (first | (go_at_call 87; refine (hI rest _).mono ?_; rintro e w' ⟨rfl, ⟨nd2, rfl⟩⟩; rw [hix]))
     go_ret
     exact ⟨_, rfl, HF.out _ (blk_set (k2_ HH.out _) _ _), (show Below w.heap.size w (wr.drewN nd2) by repeat (with_reducible first | exact HB.out | apply p3_ | apply p1_ | apply p2_)).setCell (Nat.le_refl _) _⟩
    ·rw [data_length] at hroom
     clear fin
     go_wp2_with (first | (go_at_call 87; refine (hI rest _).mono ?_; rintro e w' ⟨rfl, ⟨nd2, rfl⟩⟩; rw [hix]))
     go_roundg (cn - (done.length + 1))
     case measure => first | omega | (simp; omega)
     case rel =>
      refine ⟨done ++ [rest.extract 0 i], rest.extract (i + 1) rest.size, by simp, by simp, by simp; omega, by simp, by rw [ByteArray.size_extract]; omega, ⟨?_⟩, ⟨(show Below w.heap.size w (wr.drewN nd2) by repeat (with_reducible first | exact HB.out | apply p3_ | apply p1_ | apply p2_)).setCell (Nat.le_refl _) _⟩, ⟨?_⟩⟩
      ·rw [← Lib.cellsOf_set (by omega)]
       have := blk_set (k2_ HH.out nd2) done.length (.string (rest.extract 0 i))
       simpa using this
      ·rw [← HS.out, show cn - done.length = (cn - (done.length + 1)) + 1 by omega, strings_genSplit.cut_hit _ rest i hix]
       simp
   ·have hltz : ¬ (((done.length : Nat) : Int) < (cn : Int)) := by omega
    have HF := am_ (fin (by rw [show cn - done.length = 0 by omega]; rfl))
    clear fin
    go_wp2
    go_ret
    exact ⟨_, rfl, HF.out _ (blk_set HH.out _ _), HB.out.setCell (Nat.le_refl _) _⟩
 ·rw [if_neg hc] at h
  cases h

/-! ### strings_Split: function 71 -/
-- BY HAND
def strings_Split.f (a0 : ByteArray) (a1 : ByteArray) : Option (List ByteArray) := strings_genSplit.f a0 a1 0 (-1)
set_option maxHeartbeats 8000000 in
set_option maxRecDepth 100000 in
theorem strings_Split.calls (a0 : ByteArray) (a1 : ByteArray) (r : List ByteArray) (w : World) (h : strings_Split.f a0 a1 = some r) :
  Calls Tryd.prog 71 #[.string a0, .string a1] w fun e w' => ∃ v0_ : Value, e = .returned (v0_) ∧ Kd.R Kd.string 9 w' w.heap.size (fun _ => True) v0_ r ∧ Below w.heap.size w w' := by
 have HX : Aside0 (strings_genSplit.f a0 a1 0 (-1) = some r) := ⟨h⟩
 clear h
 go_enter Tryd.func71, Tryd.ntmps71
 go_wp2_with (go_at_call 80; (with_reducible refine (strings_genSplit.calls _ _ _ _ _ _ HX.out).mono ?_); rintro e w' ⟨v0_, rfl, hR, hB⟩)
 go_ret
 exact ⟨_, rfl, hR, hB⟩

/-! ### name_Labels: function 57 -/
def name_Labels.f (a0 : ByteArray) : Option (List ByteArray) := if a0.toList = ([] : List UInt8) then (some ([] : List ByteArray)) else ((name_May_c.f a0).bind fun t107 => (if t107 = true then ((strings_Split.f a0 (⟨#[46]⟩ : ByteArray)).bind fun t108 => (some t108)) else (some ([] : List ByteArray))))
set_option maxHeartbeats 8000000 in
set_option maxRecDepth 100000 in
theorem name_Labels.calls (a0 : ByteArray) (r : List ByteArray) (w : World) (h : name_Labels.f a0 = some r) :
  Calls Tryd.prog 57 #[.string a0] w fun e w' => ∃ v0_ : Value, e = .returned (v0_) ∧ Kd.R Kd.string 9 w' w.heap.size (fun _ => True) v0_ r ∧ Below w.heap.size w w' := by
 have HB := am_ (Below.refl w.heap.size w)
 have H : (if a0.toList = ([] : List UInt8) then (some ([] : List ByteArray)) else ((name_May_c.f a0).bind fun t107 => (if t107 = true then ((strings_Split.f a0 (⟨#[46]⟩ : ByteArray)).bind fun t108 => (some t108)) else (some ([] : List ByteArray))))) = some r := h
 clear h
 by_cases c2 : a0.toList = ([] : List UInt8)
 ·rw [if_pos c2] at H
  have c2b0 : (a0.toList == ([] : List UInt8)) = true := beq_iff_eq.mpr c2
  have c2b1 : (a0.toList != ([] : List UInt8)) = false := e1_ c2
  clear c2
  obtain rfl := e5_ H
  go_enter Tryd.func57, Tryd.ntmps57
  go_wp2
  go_ret
  exact ⟨_, by first | rfl | (simp [errW_none, errW_some] <;> rfl) | (simp [*, errW_none, errW_some] <;> rfl) | (simp only [str_ne_]; rfl) | (simp only [str_eq_]; rfl), by first | exact Kd.R_nil _ _ _ _ _ | exact Kd.N_nil _ _ _ _ _ | exact Kd.V_nil _ _ _ _ _ | exact Kd.Q_nil _ _ _ _ _ | exact Kd.S_nil _ _ _ _ _, by repeat (with_reducible first | exact HB.out | apply p3_ | apply p1_ | apply p2_)⟩
 rw [if_neg c2] at H
 have c2b0 : (a0.toList == ([] : List UInt8)) = false := e2_ c2
 have c2b1 : (a0.toList != ([] : List UInt8)) = true := bne_iff_ne.mpr c2
 replace H := e4_ H
 obtain ⟨t107, A30, H⟩ := H
 replace H : (if t107 = true then ((strings_Split.f a0 (⟨#[46]⟩ : ByteArray)).bind fun t108 => (some t108)) else (some ([] : List ByteArray))) = some r := H
 have A3 := am_ A30
 clear A30
 by_cases c4 : t107 = true
 ·subst c4
  have H1 : ((strings_Split.f a0 (⟨#[46]⟩ : ByteArray)).bind fun t108 => (some t108)) = some r := by rw [if_pos rfl] at H; exact H
  clear H
  have H := H1
  clear H1
  replace H := e4_ H
  obtain ⟨t108, A50, H⟩ := H
  replace H : (some t108) = some r := H
  have A5 := am_ A50
  clear A50
  obtain rfl := e5_ H
  go_enter Tryd.func57, Tryd.ntmps57
  go_wp2_with (first | (go_at_call 41; (with_reducible refine (name_May_c.calls a0 true _ A3.out).mono ?_); rintro e w' ⟨rfl, ⟨nd, rfl⟩⟩) | ((with_reducible refine gate_callee (f := 71) rfl ?_); refine goesL_ (some 11) rfl rfl Tryd.func71 (by kernel_rfl) rfl #[.string a0, .string (⟨#[46]⟩ : ByteArray)] rfl (by (try simp only [List.map_toArray, List.map_cons, List.map_nil]); first | done | rfl | (simp only [List.length_drop, List.length_take]; rfl)) ?_; (with_reducible refine (strings_Split.calls a0 (⟨#[46]⟩ : ByteArray) t108 _ A5.out).mono ?_); rintro e w6 ⟨v109, rfl, ho0, hb⟩; refine ⟨_, rfl, ?_⟩; have n0_ := am_ (Kd.R_lower ho0 (bz_ (by repeat (with_reducible first | exact HB.out | apply p3_ | apply p1_ | apply p2_)))); have n1_ := am_ (bt_ (by repeat (with_reducible first | exact HB.out | apply p3_ | apply p1_ | apply p2_)) hb); clear HB; have HO110 := n0_; have HB := n1_; clear n0_ n1_; (try clear hb); (try clear ho0)))
  go_ret
  exact ⟨_, by first | rfl | (simp [errW_none, errW_some] <;> rfl) | (simp [*, errW_none, errW_some] <;> rfl) | (simp only [str_ne_]; rfl) | (simp only [str_eq_]; rfl), by (with_reducible repeat (first | apply r1_ | apply r2_ | apply r3_)); exact HO110.out, by repeat (with_reducible first | exact HB.out | apply p3_ | apply p1_ | apply p2_)⟩
 replace c4 := e3_ c4
 subst c4
 have H1 : (some ([] : List ByteArray)) = some r := by rw [if_neg (show ¬ (false = true) by decide)] at H; exact H
 clear H
 have H := H1
 clear H1
 obtain rfl := e5_ H
 go_enter Tryd.func57, Tryd.ntmps57
 go_wp2_with (first | (go_at_call 41; (with_reducible refine (name_May_c.calls a0 false _ A3.out).mono ?_); rintro e w' ⟨rfl, ⟨nd, rfl⟩⟩))
 go_ret
 exact ⟨_, by first | rfl | (simp [errW_none, errW_some] <;> rfl) | (simp [*, errW_none, errW_some] <;> rfl) | (simp only [str_ne_]; rfl) | (simp only [str_eq_]; rfl), by first | exact Kd.R_nil _ _ _ _ _ | exact Kd.N_nil _ _ _ _ _ | exact Kd.V_nil _ _ _ _ _ | exact Kd.Q_nil _ _ _ _ _ | exact Kd.S_nil _ _ _ _ _, by repeat (with_reducible first | exact HB.out | apply p3_ | apply p1_ | apply p2_)⟩

end Go.Proofs.YtibalpbkmgegnaaDoor.PN
