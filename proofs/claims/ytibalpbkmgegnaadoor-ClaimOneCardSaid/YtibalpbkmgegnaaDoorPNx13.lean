-- Made by wip/pr.py out of the translation (a turned copy of the kit's print; contracts by hand where said).
import Derived.Test.YtibalpbkmgegnaaDoorPNx0
import Derived.Test.YtibalpbkmgegnaaDoorPNx2
import Derived.Test.YtibalpbkmgegnaaDoorPNx12
namespace Go.Proofs.YtibalpbkmgegnaaDoor.PN
open Go.RowKit Go.Proofs.YtibalpbkmgegnaaDoorW.PrintWords Go.Proofs.YtibalpbkmgegnaaDoorW.PrintLast Go.Proofs.YtibalpbkmgegnaaDoorW.PrintMore
-- shrunk
attribute [local go_sem] max2_int min2_int max_two min_two max_three min_three max_four min_four   -- for this text's walks alone
set_option linter.unusedVariables false
set_option linter.unusedSimpArgs false

/-! ### pinfoldref1_NameMay: function 33 -/
def pinfoldref1_NameMay.l0 : Nat → List ByteArray → Int → Option (Bool)
 | 0, _, _ => none
 | k + 1, x3, x4 => if x4 < (x3.length : Int) then (if 0 ≤ x4 then ((pinfoldref1_labelMay.f k (rdOf ByteArray.empty x3 x4)).bind fun t153 => (if t153 = true then (pinfoldref1_NameMay.l0 k x3 (wrap64 (x4 + 1))) else (some false))) else (none)) else (some (decide ((x3.length : Int) ≤ 8)))
def pinfoldref1_NameMay.f (k : Nat) (a0 : ByteArray) : Option (Bool) := if a0.toList = ([] : List UInt8) then (some true) else ((pinfoldref1_parts.f k a0).bind fun t149 => (pinfoldref1_NameMay.l0 k t149 0))
theorem pinfoldref1_NameMay.mono_l : ∀ k, (∀ y0 y1, LeO (pinfoldref1_NameMay.l0 k y0 y1) (pinfoldref1_NameMay.l0 (k + 1) y0 y1))
 | 0 => fun _ _ r h => by simp [pinfoldref1_NameMay.l0] at h
 | k + 1 => by
  have ih0 := pinfoldref1_NameMay.mono_l k
  ·intro y0 y1
   unfold pinfoldref1_NameMay.l0
   repeat' first
   | (with_reducible exact ih0 _ _)
   | (with_reducible exact pinfoldref1_labelMay.mono _ _)
   | (with_reducible exact pinfoldref1_parts.mono _ _)
   | (with_reducible exact LeO.refl _)
   | (with_reducible exact LeO.none _)
   | (with_reducible refine LeO.ite ?_ ?_)
   | (with_reducible refine LeO.bind ?_ (fun _ => ?_))
   | exact ih0 _ _
   | exact pinfoldref1_labelMay.mono _ _
   | exact pinfoldref1_parts.mono _ _
   | exact LeO.none _
   | refine LeO.ite ?_ ?_
   | refine LeO.bind ?_ (fun _ => ?_)
theorem pinfoldref1_NameMay.mono : ∀ a0 k, LeO (pinfoldref1_NameMay.f k a0) (pinfoldref1_NameMay.f (k + 1) a0) := by
 intro a0 k
 have ih0 := pinfoldref1_NameMay.mono_l k
 unfold pinfoldref1_NameMay.f
 repeat' first
   | (with_reducible exact ih0 _ _)
   | (with_reducible exact pinfoldref1_labelMay.mono _ _)
   | (with_reducible exact pinfoldref1_parts.mono _ _)
   | (with_reducible exact LeO.refl _)
   | (with_reducible exact LeO.none _)
   | (with_reducible refine LeO.ite ?_ ?_)
   | (with_reducible refine LeO.bind ?_ (fun _ => ?_))
   | exact ih0 _ _
   | exact pinfoldref1_labelMay.mono _ _
   | exact pinfoldref1_parts.mono _ _
   | exact LeO.none _
   | refine LeO.ite ?_ ?_
   | refine LeO.bind ?_ (fun _ => ?_)
set_option maxHeartbeats 8000000 in
set_option maxRecDepth 100000 in
theorem pinfoldref1_NameMay.calls (k : Nat) (a0 : ByteArray) (r : Bool) (w : World) (h : pinfoldref1_NameMay.f k a0 = some r) :
  Calls Tryd.prog 33 #[.string a0] w fun e w' => e = .returned (.bool r) ∧ Below w.heap.size w w' := by
 have HB := am_ (Below.refl w.heap.size w)
 have H : (if a0.toList = ([] : List UInt8) then (some true) else ((pinfoldref1_parts.f k a0).bind fun t149 => (pinfoldref1_NameMay.l0 k t149 0))) = some r := h
 clear h
 by_cases c2 : a0.toList = ([] : List UInt8)
 ·rw [if_pos c2] at H
  have c2b0 : (a0.toList == ([] : List UInt8)) = true := beq_iff_eq.mpr c2
  have c2b1 : (a0.toList != ([] : List UInt8)) = false := e1_ c2
  clear c2
  obtain rfl := e5_ H
  go_enter Tryd.func33, Tryd.ntmps33
  go_wp2
  go_ret
  exact ⟨by first | rfl | (simp [errW_none, errW_some] <;> rfl) | (simp [*, errW_none, errW_some] <;> rfl) | (simp only [str_ne_]; rfl) | (simp only [str_eq_]; rfl), by repeat (with_reducible first | exact HB.out | apply p3_ | apply p1_ | apply p2_)⟩
 rw [if_neg c2] at H
 have c2b0 : (a0.toList == ([] : List UInt8)) = false := e2_ c2
 have c2b1 : (a0.toList != ([] : List UInt8)) = true := bne_iff_ne.mpr c2
 replace H := e4_ H
 obtain ⟨t149, A30, H⟩ := H
 replace H : (pinfoldref1_NameMay.l0 k t149 0) = some r := H
 have A3 := am_ A30
 clear A30
 have H' := am_ H
 clear H
 go_enter Tryd.func33, Tryd.ntmps33
 go_wp2_with (first | ((with_reducible refine gate_callee (f := 55) rfl ?_); refine goesL_ (some 8) rfl rfl Tryd.func55 (by kernel_rfl) rfl #[.string a0] rfl (by (try simp only [List.map_toArray, List.map_cons, List.map_nil]); first | done | rfl | (simp only [List.length_drop, List.length_take]; rfl)) ?_; (with_reducible refine (pinfoldref1_parts.calls k a0 t149 _ A3.out).mono ?_); rintro e w4 ⟨v150, rfl, ho0, hb⟩; refine ⟨_, rfl, ?_⟩; have n0_ := am_ (Kd.R_lower ho0 (bz_ (by repeat (with_reducible first | exact HB.out | apply p3_ | apply p1_ | apply p2_)))); have n1_ := am_ (bt_ (by repeat (with_reducible first | exact HB.out | apply p3_ | apply p1_ | apply p2_)) hb); clear HB; have HO151 := n0_; have HB := n1_; clear n0_ n1_; (try clear hb); (try clear ho0)))
 go_loopg [4] k (fun kq v4 w' => ∃ (x4_1 : Int), v4 = .int .i64 x4_1 ∧ Aside0 (pinfoldref1_NameMay.l0 kq t149 x4_1 = some r) ∧ Aside0 (kq ≤ k) ∧ Aside0 (Kd.R Kd.string 9 w' w.heap.size (fun _ => True) v150 t149) ∧ Aside0 (Below w.heap.size w w'))
 case atStart => exact ⟨(0), (by first | rfl | (simp; done) | (simp [*]; done) | (simp only [str_ne_]; rfl) | (simp only [str_eq_]; rfl)), H', ⟨Nat.le_refl _⟩, ⟨by (with_reducible repeat (first | apply r1_ | apply r2_ | apply r3_)); exact HO151.out⟩, ⟨by repeat (with_reducible first | exact HB.out | apply p3_ | apply p1_ | apply p2_)⟩⟩
 case round =>
  clear H'
  (try clear c2); (try clear c2b0); (try clear c2b1)
  obtain ⟨x4_1, rfl, HA, HK1, HO_3, HB⟩ := hrel
  cases gk with
  | zero => exact absurd HA.out (by simp [pinfoldref1_NameMay.l0])
  | succ k1 =>
   have H := HA.out
   clear HA
   simp only [pinfoldref1_NameMay.l0] at H
   by_cases c5 : x4_1 < (t149.length : Int)
   ·rw [if_pos c5] at H
    have c5b0 : decide (x4_1 < (t149.length : Int)) = true := decide_eq_true c5
    clear c5
    by_cases c6 : 0 ≤ x4_1
    rotate_left
    ·rw [if_neg c6] at H
     exact absurd H (by simp)
    rw [if_pos c6] at H
    have c6b0 : decide (0 ≤ x4_1) = true := decide_eq_true c6
    clear c6
    replace H := e4_ H
    obtain ⟨t153, A70, H⟩ := H
    replace H : (if t153 = true then (pinfoldref1_NameMay.l0 k1 t149 (wrap64 (x4_1 + 1))) else (some false)) = some r := H
    have A7 := am_ A70
    clear A70
    by_cases c8 : t153 = true
    ·subst c8
     have H1 : (pinfoldref1_NameMay.l0 k1 t149 (wrap64 (x4_1 + 1))) = some r := by rw [if_pos rfl] at H; exact H
     clear H
     have H := H1
     clear H1
     have H' := am_ H
     clear H
     obtain ⟨Ao9, co9, eo9⟩ := Kd.R_slice HO_3.out
     subst eo9
     have p152 : 0 ≤ (x4_1 : Int) := of_decide_eq_true (by first | (with_reducible assumption) | assumption)
     have q152 : x4_1 < (t149.length : Int) := of_decide_eq_true (by first | (with_reducible assumption) | assumption)
     obtain ⟨ad152, e152, hx152_0⟩ := Kd.at_string (Kd.R_reads' HO_3.out).2.2 x4_1 p152 q152
     cases e152
     replace p152 := eq_true p152
     replace q152 := eq_true q152
     go_wp2_with (first | ((with_reducible refine gate_callee (f := 56) rfl ?_); refine goesL_ (some 19) rfl rfl Tryd.func56 (by kernel_rfl) rfl #[.string (rdOf ByteArray.empty t149 x4_1)] rfl (by (try simp only [List.map_toArray, List.map_cons, List.map_nil]); first | done | rfl | (simp only [List.length_drop, List.length_take]; rfl)) ?_; (with_reducible refine (pinfoldref1_labelMay.calls k1 (rdOf ByteArray.empty t149 x4_1) true _ A7.out).mono ?_); rintro e w' ⟨rfl, ⟨nd, rfl⟩⟩; refine ⟨_, rfl, ?_⟩))
     go_roundg k1
     case measure => have := HK1.out; omega
     case rel => exact ⟨(wrap64 (x4_1 + 1)), (by first | rfl | (simp; done) | (simp [*]; done) | (simp only [str_ne_]; rfl) | (simp only [str_eq_]; rfl)), H', ⟨by have := HK1.out; omega⟩, ⟨by (with_reducible repeat (first | apply r1_ | apply r2_ | apply r3_)); exact HO_3.out⟩, ⟨by repeat (with_reducible first | exact HB.out | apply p3_ | apply p1_ | apply p2_)⟩⟩
    replace c8 := e3_ c8
    subst c8
    have H1 : (some false) = some r := by rw [if_neg (show ¬ (false = true) by decide)] at H; exact H
    clear H
    have H := H1
    clear H1
    obtain rfl := e5_ H
    obtain ⟨Ao10, co10, eo10⟩ := Kd.R_slice HO_3.out
    subst eo10
    have p152 : 0 ≤ (x4_1 : Int) := of_decide_eq_true (by first | (with_reducible assumption) | assumption)
    have q152 : x4_1 < (t149.length : Int) := of_decide_eq_true (by first | (with_reducible assumption) | assumption)
    obtain ⟨ad152, e152, hx152_0⟩ := Kd.at_string (Kd.R_reads' HO_3.out).2.2 x4_1 p152 q152
    cases e152
    replace p152 := eq_true p152
    replace q152 := eq_true q152
    go_wp2_with (first | ((with_reducible refine gate_callee (f := 56) rfl ?_); refine goesL_ (some 19) rfl rfl Tryd.func56 (by kernel_rfl) rfl #[.string (rdOf ByteArray.empty t149 x4_1)] rfl (by (try simp only [List.map_toArray, List.map_cons, List.map_nil]); first | done | rfl | (simp only [List.length_drop, List.length_take]; rfl)) ?_; (with_reducible refine (pinfoldref1_labelMay.calls k1 (rdOf ByteArray.empty t149 x4_1) false _ A7.out).mono ?_); rintro e w' ⟨rfl, ⟨nd, rfl⟩⟩; refine ⟨_, rfl, ?_⟩))
    go_ret
    exact ⟨by first | rfl | (simp [errW_none, errW_some] <;> rfl) | (simp [*, errW_none, errW_some] <;> rfl) | (simp only [str_ne_]; rfl) | (simp only [str_eq_]; rfl), by repeat (with_reducible first | exact HB.out | apply p3_ | apply p1_ | apply p2_)⟩
   rw [if_neg c5] at H
   have c5b0 : decide (x4_1 < (t149.length : Int)) = false := decide_eq_false c5
   clear c5
   obtain rfl := e5_ H
   obtain ⟨Ao11, co11, eo11⟩ := Kd.R_slice HO_3.out
   subst eo11
   go_wp2
   go_ret
   exact ⟨by first | rfl | (simp [errW_none, errW_some] <;> rfl) | (simp [*, errW_none, errW_some] <;> rfl) | (simp only [str_ne_]; rfl) | (simp only [str_eq_]; rfl), by repeat (with_reducible first | exact HB.out | apply p3_ | apply p1_ | apply p2_)⟩

/-! ### pinfoldref1_NameMay_c: function 33 -/
-- inc refname.inc
theorem cutL_len : ∀ l, (cutL l).length ≤ l.length + 1
 | [] => by simp [cutL]
 | b :: l => by
  have ih := cutL_len l
  have hn := cutL_ne l
  unfold cutL
  split
  ·simp only [List.length_cons]; omega
  ·cases hc : cutL l with
   | nil => exact absurd hc hn
   | cons q qs =>
    rw [hc] at ih
    simp only [glue, List.length_cons] at ih ⊢
    omega
theorem extract_end (s : ByteArray) (a b : Nat) (h : b ≤ a) : bytesOf (s.extract a b) = [] := by
 rw [bytesOf_extract, show b - a = 0 by omega, List.take_zero]
theorem extract_next (s : ByteArray) (a b : Nat) (h : a ≤ b) (hb : b < s.size) : bytesOf (s.extract a (b + 1)) = bytesOf (s.extract a b) ++ [bt s b] := by
 rw [bytesOf_extract, bytesOf_extract, show b + 1 - a = (b - a) + 1 by omega, List.take_succ_eq_append_getElem (by rw [List.length_drop, bytesOf_length]; omega)]
 congr 1
 have := drop_cons s b hb
 rw [show b = a + (b - a) by omega, ← List.drop_drop] at this
 rw [List.drop_eq_getElem_cons (by rw [List.length_drop, bytesOf_length]; omega)] at this
 rw [List.cons.injEq] at this
 rw [this.1, show a + (b - a) = b by omega]

theorem reflabel_loop (s : ByteArray) (hs : s.size ≤ 4611686018427387904) (d : Nat) : ∀ (k i : Nat), i + d = s.size → d < k →
  pinfoldref1_labelMay.l0 k s (i : Int) = some (((bytesOf s).drop i).all letterB && decide (1 ≤ s.size ∧ s.size ≤ 8)) := by
 have key : ∀ (x : Option Bool) (b : Int), (if b < 97 then (if b < 48 then (if b = 45 then x else some false) else (if b > 57 then (if b = 45 then x else some false) else x)) else (if b > 122 then (if b < 48 then (if b = 45 then x else some false) else (if b > 57 then (if b = 45 then x else some false) else x)) else x)) = if letterB b = true then x else some false := by
  intro x b
  unfold letterB
  simp only [decide_eq_true_eq]
  repeat' split
  all_goals first
   | rfl
   | (exfalso; omega)
 induction d with
 | zero =>
  intro k i hi hk
  obtain ⟨k, rfl⟩ : ∃ m, k = m + 1 := ⟨k - 1, by omega⟩
  rw [pinfoldref1_labelMay.l0, if_neg (by omega), drop_end s i (by omega)]
  simp only [List.all_nil, Bool.true_and]
  split
  ·congr 1
   rw [Bool.eq_iff_iff]
   simp only [decide_eq_true_eq]
   omega
  ·congr 1
   symm
   rw [decide_eq_false_iff_not]
   omega
 | succ d ih =>
  intro k i hi hk
  obtain ⟨k, rfl⟩ : ∃ m, k = m + 1 := ⟨k - 1, by omega⟩
  rw [pinfoldref1_labelMay.l0, if_pos (by omega), if_pos (by omega), key, drop_cons s i (by omega)]
  simp only [List.all_cons]
  cases letterB (bt s i) with
  | true =>
   rw [if_pos rfl, w64 (by omega)]
   have := ih k (i + 1) (by omega) (by omega)
   rw [show ((i : Int) + 1) = ((i + 1 : Nat) : Int) by omega, this]
   simp
  | false => simp
theorem reflabel_eq (k : Nat) (s : ByteArray) (hs : s.size ≤ 4611686018427387904) (hk : s.size < k) : pinfoldref1_labelMay.f k s = some (labelB (bytesOf s)) := by
 unfold pinfoldref1_labelMay.f
 have := reflabel_loop s hs s.size k 0 (by omega) hk
 rw [show ((0 : Nat) : Int) = 0 by rfl] at this
 rw [this]
 unfold labelB
 rw [List.drop_zero, bytesOf_length]

theorem parts_loop (s : ByteArray) (hs : s.size ≤ 140737488351232) (d : Nat) : ∀ (k i f : Nat) (out : List ByteArray), i + d = s.size → d + 2 ≤ k → f ≤ i → out.length + d + 1 ≤ 8796093022208 →
  ∃ r, pinfoldref1_parts.l0 k s out (f : Int) (i : Int) = some (out ++ r) ∧ r.map bytesOf = glue (bytesOf (s.extract f i)) (cutL ((bytesOf s).drop i)) ∧ ∀ x ∈ r, x.size ≤ s.size := by
 induction d with
 | zero =>
  intro k i f out hi hk hf ho
  obtain ⟨k, rfl⟩ : ∃ m, k = m + 2 := ⟨k - 2, by omega⟩
  refine ⟨[s.extract f i], ?_, ?_, ?_⟩
  ·rw [pinfoldref1_parts.l0, if_pos (by omega), if_pos (by omega), if_pos (by omega), if_pos (by omega), if_pos (by omega), w64 (by omega), pinfoldref1_parts.l0, if_neg (by omega), Int.toNat_natCast, Int.toNat_natCast]
  ·rw [drop_end s i (by omega)]
   simp [cutL, glue]
  ·intro x hx
   rw [List.mem_singleton.1 hx, ByteArray.size_extract]
   omega
 | succ d ih =>
  intro k i f out hi hk hf ho
  obtain ⟨k, rfl⟩ : ∃ m, k = m + 1 := ⟨k - 1, by omega⟩
  rw [pinfoldref1_parts.l0, if_pos (by omega), if_neg (by omega), if_pos (by omega), if_pos (by omega), drop_cons s i (by omega)]
  by_cases hp : bt s i = 46
  ·obtain ⟨r, h1, h2, h3⟩ := ih k (i + 1) (i + 1) (out ++ [s.extract f i]) (by omega) (by omega) (by omega) (by rw [List.length_append, List.length_singleton]; omega)
   refine ⟨s.extract f i :: r, ?_, ?_, ?_⟩
   ·rw [if_pos hp, if_pos (by omega), if_pos (by omega), if_pos (by omega), w64 (by omega), Int.toNat_natCast, Int.toNat_natCast, show ((i : Int) + 1) = ((i + 1 : Nat) : Int) by omega, h1, List.append_assoc]
    rfl
   ·rw [extract_end s (i + 1) (i + 1) (Nat.le_refl _), glue_nil _ (cutL_ne _)] at h2
    rw [List.map_cons, h2, hp, cutL_point]
    simp [glue]
   ·intro x hx
    rcases List.mem_cons.1 hx with rfl | hx
    ·rw [ByteArray.size_extract]
     omega
    ·exact h3 x hx
  ·obtain ⟨r, h1, h2, h3⟩ := ih k (i + 1) f out (by omega) (by omega) (by omega) (by omega)
   refine ⟨r, ?_, ?_, h3⟩
   ·rw [if_neg hp, w64 (by omega), show ((i : Int) + 1) = ((i + 1 : Nat) : Int) by omega, h1]
   ·rw [h2, cutL_other _ _ hp, extract_next s f i hf (by omega), glue_glue]
theorem parts_eq (k : Nat) (s : ByteArray) (hs : s.size ≤ 8796093022000) (hk : s.size + 2 ≤ k) :
  ∃ r, pinfoldref1_parts.f k s = some r ∧ r.map bytesOf = cutL (bytesOf s) ∧ ∀ x ∈ r, x.size ≤ s.size := by
 obtain ⟨r, h1, h2, h3⟩ := parts_loop s (by omega) s.size k 0 0 [] (by omega) hk (by omega) (by simp only [List.length_nil]; omega)
 refine ⟨r, ?_, ?_, h3⟩
 ·unfold pinfoldref1_parts.f
  rw [show ((0 : Nat) : Int) = 0 by rfl, List.nil_append] at h1
  exact h1
 ·rw [h2, extract_end s 0 0 (Nat.le_refl _), glue_nil _ (cutL_ne _), List.drop_zero]

theorem refname_loop (r : List ByteArray) (m : Nat) (hr : ∀ x ∈ r, x.size ≤ m) (hm : m ≤ 140737488351232) (hl : r.length ≤ 140737488351232) (d : Nat) : ∀ (k i : Nat), i + d = r.length → d + m + 2 ≤ k →
  pinfoldref1_NameMay.l0 k r (i : Int) = some (((r.map bytesOf).drop i).all labelB && decide (r.length ≤ 8)) := by
 induction d with
 | zero =>
  intro k i hi hk
  obtain ⟨k, rfl⟩ : ∃ j, k = j + 1 := ⟨k - 1, by omega⟩
  rw [pinfoldref1_NameMay.l0, if_neg (by omega), List.drop_eq_nil_of_le (by rw [List.length_map]; omega), List.all_nil, Bool.true_and]
  congr 1
  rw [Bool.eq_iff_iff]
  simp only [decide_eq_true_eq]
  omega
 | succ d ih =>
  intro k i hi hk
  obtain ⟨k, rfl⟩ : ∃ j, k = j + 1 := ⟨k - 1, by omega⟩
  have hil : i < r.length := by omega
  have e : rdOf ByteArray.empty r (i : Int) = r[i] := by
   unfold rdOf
   rw [Int.toNat_natCast, List.getD_eq_getElem?_getD, List.getElem?_eq_getElem hil]
   rfl
  have hx := hr r[i] (List.getElem_mem hil)
  rw [pinfoldref1_NameMay.l0, if_pos (by omega), if_pos (by omega), e, reflabel_eq k r[i] (by omega) (by omega), List.drop_eq_getElem_cons (by rw [List.length_map]; exact hil), List.all_cons, List.getElem_map]
  simp only [Option.bind_some]
  cases labelB (bytesOf r[i]) with
  | true =>
   rw [if_pos rfl, w64 (by omega), show ((i : Int) + 1) = ((i + 1 : Nat) : Int) by omega, ih k (i + 1) (by omega) (by omega), Bool.true_and]
  | false => rfl
/-- what the document says of a name. -/
theorem refname_eq (k : Nat) (s : ByteArray) (hs : s.size ≤ 8796093022000) (hk : 2 * s.size + 10 ≤ k) : pinfoldref1_NameMay.f k s = some (nameB (bytesOf s)) := by
 unfold pinfoldref1_NameMay.f nameB
 by_cases h : s.size = 0
 ·have hz : bytesOf s = [] := List.length_eq_zero_iff.1 (by rw [bytesOf_length]; omega)
  rw [if_pos ((toList_nil s).2 h), hz]
  rfl
 ·have hz : bytesOf s ≠ [] := fun e => h (by rw [← bytesOf_length, e]; rfl)
  obtain ⟨r, h1, h2, h3⟩ := parts_eq k s hs (by omega)
  have hl : r.length = (cutL (bytesOf s)).length := by rw [← h2, List.length_map]
  have hc := cutL_len (bytesOf s)
  rw [bytesOf_length] at hc
  have := refname_loop r s.size h3 (by omega) (by omega) r.length k 0 (by omega) (by omega)
  rw [show ((0 : Nat) : Int) = 0 by rfl] at this
  rw [if_neg (fun e => h ((toList_nil s).1 e)), h1, Option.bind_some, this, List.drop_zero, h2, decide_eq_false hz, Bool.false_or, hl]
def pinfoldref1_NameMay_c.f (a0 : ByteArray) : Option Bool := if a0.size ≤ 8796093022000 then some (nameB (bytesOf a0)) else none
theorem pinfoldref1_NameMay_c.calls (a0 : ByteArray) (r : Bool) (w : World) (h : pinfoldref1_NameMay_c.f a0 = some r) :
  Calls Tryd.prog 33 #[.string a0] w fun e w' => e = .returned (.bool r) ∧ Below w.heap.size w w' := by
 unfold pinfoldref1_NameMay_c.f at h
 by_cases hs : a0.size ≤ 8796093022000
 ·rw [if_pos hs] at h
  obtain rfl := e5_ h
  exact pinfoldref1_NameMay.calls (2 * a0.size + 10) a0 _ w (refname_eq _ a0 hs (Nat.le_refl _))
 ·rw [if_neg hs] at h
  cases h

/-! ### pinfoldref11_LeaseMay: function 31 -/
-- BY HAND
-- 33
def pinfoldref11_LeaseMay_c.f (a0_0 : Int) (a0_1 : Int) (a0_2 : ByteArray) (a0_3 : Int) (a0_4 : ByteArray) (a0_5 : Bool) : Option Bool := if a0_4.size ≤ 8796093022000 then some (leaseB a0_0 a0_1 a0_2 a0_3 a0_4 a0_5) else none
set_option maxHeartbeats 8000000 in
set_option maxRecDepth 100000 in
theorem pinfoldref11_LeaseMay_c.calls (a0_0 : Int) (a0_1 : Int) (a0_2 : ByteArray) (a0_3 : Int) (a0_4 : ByteArray) (a0_5 : Bool) (r : Bool) (w : World) (h : pinfoldref11_LeaseMay_c.f a0_0 a0_1 a0_2 a0_3 a0_4 a0_5 = some r) :
  Calls Tryd.prog 31 #[.agg #[.int .i64 a0_0, .int .i64 a0_1, .string a0_2, .int .i64 a0_3, .string a0_4, .bool a0_5]] w fun e w' => e = .returned (.bool r) ∧ Below w.heap.size w w' := by
 unfold pinfoldref11_LeaseMay_c.f at h
 by_cases hs : a0_4.size ≤ 8796093022000
 rotate_left
 ·rw [if_neg hs] at h
  cases h
 rw [if_pos hs] at h
 replace h := e5_ h
 obtain ⟨b1, h1⟩ : ∃ b, nameB (bytesOf a0_4) = b := ⟨_, rfl⟩
 unfold leaseB at h
 rw [h1] at h
 have C1 := am_ (fun W => pinfoldref1_NameMay_c.calls a0_4 b1 W (by unfold pinfoldref1_NameMay_c.f; rw [if_pos hs, h1]))
 have HB := am_ (Below.refl w.heap.size w)
 have BX := am_ (blk_new w (.cells #[.int .i64 a0_0, .int .i64 a0_1, .string a0_2, .int .i64 a0_3, .string a0_4, .bool a0_5] 36))
 have v0 := bc_ BX.out 0; have v1 := bc_ BX.out 1; have v2 := bc_ BX.out 2; have v3 := bc_ BX.out 3; have v4 := bc_ BX.out 4; have v5 := bc_ BX.out 5
 clear h1 hs
 by_cases hA : ((2 ≤ a0_0 ∧ a0_0 ≤ 254) ∧ (0 ≤ a0_1 ∧ a0_1 ≤ 3) ∧ a0_2.size ≤ 16 ∧ (0 ≤ a0_3 ∧ a0_3 ≤ 1099511627776) ∧ b1 = true)
 rotate_left
 ·have HF := am_ (show false = r by
   rw [← h, eq_comm, Bool.eq_false_iff]
   intro e
   simp only [Bool.and_eq_true, decide_eq_true_eq] at e
   refine hA ⟨e.1.1.1.1, ?_, e.1.1.2, e.1.2, e.2⟩
   have h := e.1.1.1.2
   unfold stateB at h
   by_cases q0 : a0_1 = 0 ∨ a0_1 = 3
   ·omega
   rw [if_neg q0] at h
   by_cases q1 : a0_1 = 1
   ·omega
   rw [if_neg q1] at h
   by_cases q2 : a0_1 = 2
   ·omega
   rw [if_neg q2] at h
   cases h)
  have hA2 := am_ hA
  clear h hA
  go_enter Tryd.func31, Tryd.ntmps31
  go_wp2_with (first | (go_at_call 33; (with_reducible refine (C1.out _).mono ?_); rintro e w1 ⟨rfl, hb2⟩; replace BX := am_ (kb_ (show _ from (by (with_reducible repeat (first | exact BX.out | refine k2_ ?_ _ | refine k3_ ?_ | refine k1_ ?_ _)))) hb2); replace HB := am_ (bt_ (show Below w.heap.size w _ from (by repeat (with_reducible first | exact HB.out | apply p3_ | apply p1_ | apply p2_))) hb2); clear hb2; clear v0 v1 v2 v3 v4 v5; have v0 := bc_ BX.out 0; have v1 := bc_ BX.out 1; have v2 := bc_ BX.out 2; have v3 := bc_ BX.out 3; have v4 := bc_ BX.out 4; have v5 := bc_ BX.out 5))
  all_goals (try go_ret)
  all_goals first
   | exact ⟨ret_bool HF.out, (by repeat (with_reducible first | exact HB.out | apply p3_ | apply p1_ | apply p2_))⟩
   | (exfalso; refine hA2.out ⟨⟨?_, ?_⟩, ⟨?_, ?_⟩, ?_, ⟨?_, ?_⟩, ?_⟩ <;> first | omega | assumption | (simp_all; done) | (simp_all; omega))
 obtain ⟨⟨g1, g2⟩, ⟨g3, g4⟩, g5, ⟨g6, g7⟩, rfl⟩ := hA
 rw [decide_eq_true (show 2 ≤ a0_0 ∧ a0_0 ≤ 254 from ⟨g1, g2⟩), decide_eq_true g5, decide_eq_true (show 0 ≤ a0_3 ∧ a0_3 ≤ 1099511627776 from ⟨g6, g7⟩), Bool.and_true, Bool.and_true, Bool.and_true, Bool.true_and] at h
 have d1 : decide (a0_0 < 2) = false := decide_eq_false (by omega)
 have d2 : decide (254 < a0_0) = false := decide_eq_false (by omega)
 have d5 : decide (16 < (a0_2.size : Int)) = false := decide_eq_false (by omega)
 have d6 : decide (a0_3 < 0) = false := decide_eq_false (by omega)
 have d7 : decide (1099511627776 < a0_3) = false := decide_eq_false (by omega)
 obtain ⟨c2, hc2⟩ : ∃ c, a0_2.toList.isEmpty = c := ⟨_, rfl⟩
 obtain ⟨c4, hc4⟩ : ∃ c, a0_4.toList.isEmpty = c := ⟨_, rfl⟩
 have e2 : decide (a0_2.toList = []) = c2 := by rw [← hc2]; cases a0_2.toList <;> rfl
 have e4 : decide (a0_4.toList = []) = c4 := by rw [← hc4]; cases a0_4.toList <;> rfl
 have e2n : decide (a0_2.toList ≠ []) = !c2 := by rw [← hc2]; cases a0_2.toList <;> rfl
 have e4n : decide (a0_4.toList ≠ []) = !c4 := by rw [← hc4]; cases a0_4.toList <;> rfl
 have e2b : (a0_2.toList == []) = c2 := by rw [← hc2]; cases a0_2.toList <;> rfl
 have e4b : (a0_4.toList == []) = c4 := by rw [← hc4]; cases a0_4.toList <;> rfl
 unfold stateB at h
 rw [e4, e2n, e4n] at h
 clear e2 e4 e2n e4n g1 g2 g5 g6 g7
 have hst : a0_1 = 0 ∨ a0_1 = 1 ∨ a0_1 = 2 ∨ a0_1 = 3 := by omega
 clear g3 g4
 rcases hst with rfl | rfl | rfl | rfl <;> cases c2 <;> cases c4 <;> cases a0_5
 all_goals
  have HF := am_ h
  clear h
  go_enter Tryd.func31, Tryd.ntmps31
  go_wp2_with (first | (go_at_call 33; (with_reducible refine (C1.out _).mono ?_); rintro e w1 ⟨rfl, hb2⟩; replace BX := am_ (kb_ (show _ from (by (with_reducible repeat (first | exact BX.out | refine k2_ ?_ _ | refine k3_ ?_ | refine k1_ ?_ _)))) hb2); replace HB := am_ (bt_ (show Below w.heap.size w _ from (by repeat (with_reducible first | exact HB.out | apply p3_ | apply p1_ | apply p2_))) hb2); clear hb2; clear v0 v1 v2 v3 v4 v5; have v0 := bc_ BX.out 0; have v1 := bc_ BX.out 1; have v2 := bc_ BX.out 2; have v3 := bc_ BX.out 3; have v4 := bc_ BX.out 4; have v5 := bc_ BX.out 5))
  go_ret
  exact ⟨ret_bool (by rw [← HF.out]; rfl), HB.out⟩

/-! ### pinfoldref11_Live: function 12 -/
-- BY HAND
-- 31
def pinfoldref11_Live_c.f (a0_0 : Int) (a0_1 : Int) (a0_2 : ByteArray) (a0_3 : Int) (a0_4 : ByteArray) (a0_5 : Bool) (a1 : Int) : Option Bool := if a0_4.size ≤ 8796093022000 then some (liveB a0_0 a0_1 a0_2 a0_3 a0_4 a0_5 a1) else none
set_option maxHeartbeats 8000000 in
set_option maxRecDepth 100000 in
theorem pinfoldref11_Live_c.calls (a0_0 : Int) (a0_1 : Int) (a0_2 : ByteArray) (a0_3 : Int) (a0_4 : ByteArray) (a0_5 : Bool) (a1 : Int) (r : Bool) (w : World) (h : pinfoldref11_Live_c.f a0_0 a0_1 a0_2 a0_3 a0_4 a0_5 a1 = some r) :
  Calls Tryd.prog 12 #[.agg #[.int .i64 a0_0, .int .i64 a0_1, .string a0_2, .int .i64 a0_3, .string a0_4, .bool a0_5], .int .i64 a1] w fun e w' => e = .returned (.bool r) ∧ Below w.heap.size w w' := by
 unfold pinfoldref11_Live_c.f at h
 by_cases hs : a0_4.size ≤ 8796093022000
 rotate_left
 ·rw [if_neg hs] at h
  cases h
 rw [if_pos hs] at h
 replace h := e5_ h
 unfold liveB at h
 obtain ⟨b1, h1⟩ : ∃ b, leaseB a0_0 a0_1 a0_2 a0_3 a0_4 a0_5 = b := ⟨_, rfl⟩
 rw [h1] at h
 have C1 := am_ (fun W => pinfoldref11_LeaseMay_c.calls a0_0 a0_1 a0_2 a0_3 a0_4 a0_5 b1 W (by unfold pinfoldref11_LeaseMay_c.f; rw [if_pos hs, h1]))
 have HR := am_ h
 have HB := am_ (Below.refl w.heap.size w)
 have BX := am_ (blk_new w (.cells #[.int .i64 a0_0, .int .i64 a0_1, .string a0_2, .int .i64 a0_3, .string a0_4, .bool a0_5] 36))
 have v0 := bc_ BX.out 0; have v1 := bc_ BX.out 1; have v2 := bc_ BX.out 2; have v3 := bc_ BX.out 3; have v4 := bc_ BX.out 4; have v5 := bc_ BX.out 5
 clear h h1 hs
 go_enter Tryd.func12, Tryd.ntmps12
 go_wp2_with (first | (go_at_call 31; (with_reducible refine (C1.out _).mono ?_); rintro e w1 ⟨rfl, hb2⟩; replace BX := am_ (kb_ (show _ from (by (with_reducible repeat (first | exact BX.out | refine k2_ ?_ _ | refine k3_ ?_ | refine k1_ ?_ _)))) hb2); replace HB := am_ (bt_ (show Below w.heap.size w _ from (by repeat (with_reducible first | exact HB.out | apply p3_ | apply p1_ | apply p2_))) hb2); clear hb2; clear v0 v1 v2 v3 v4 v5; have v0 := bc_ BX.out 0; have v1 := bc_ BX.out 1; have v2 := bc_ BX.out 2; have v3 := bc_ BX.out 3; have v4 := bc_ BX.out 4; have v5 := bc_ BX.out 5))
 all_goals (try go_ret)
 all_goals refine ⟨ret_bool ?_, ?_⟩
 all_goals first
  | exact HB.out
  | (rw [← HR.out]; clear HR HB C1 BX v0 v1 v2 v3 v4 v5; (simp_all; done))
  | (rw [← HR.out]; clear HR HB C1 BX v0 v1 v2 v3 v4 v5; simp_all <;> omega)

/-! ### pinfoldref1_Labels: function 34 -/
def pinfoldref1_Labels.f (k : Nat) (a0 : ByteArray) : Option (List ByteArray) := if a0.toList = ([] : List UInt8) then (some ([] : List ByteArray)) else ((pinfoldref1_NameMay_c.f a0).bind fun t154 => (if t154 = true then ((pinfoldref1_parts.f k a0).bind fun t155 => (some t155)) else (some ([] : List ByteArray))))
theorem pinfoldref1_Labels.mono : ∀ a0 k, LeO (pinfoldref1_Labels.f k a0) (pinfoldref1_Labels.f (k + 1) a0) := by
 intro a0 k
 unfold pinfoldref1_Labels.f
 repeat' first
   | (with_reducible exact pinfoldref1_parts.mono _ _)
   | (with_reducible exact LeO.refl _)
   | (with_reducible exact LeO.none _)
   | (with_reducible refine LeO.ite ?_ ?_)
   | (with_reducible refine LeO.bind ?_ (fun _ => ?_))
   | exact pinfoldref1_parts.mono _ _
   | exact LeO.none _
   | refine LeO.ite ?_ ?_
   | refine LeO.bind ?_ (fun _ => ?_)
set_option maxHeartbeats 8000000 in
set_option maxRecDepth 100000 in
theorem pinfoldref1_Labels.calls (k : Nat) (a0 : ByteArray) (r : List ByteArray) (w : World) (h : pinfoldref1_Labels.f k a0 = some r) :
  Calls Tryd.prog 34 #[.string a0] w fun e w' => ∃ v0_ : Value, e = .returned (v0_) ∧ Kd.R Kd.string 9 w' w.heap.size (fun _ => True) v0_ r ∧ Below w.heap.size w w' := by
 have HB := am_ (Below.refl w.heap.size w)
 have H : (if a0.toList = ([] : List UInt8) then (some ([] : List ByteArray)) else ((pinfoldref1_NameMay_c.f a0).bind fun t154 => (if t154 = true then ((pinfoldref1_parts.f k a0).bind fun t155 => (some t155)) else (some ([] : List ByteArray))))) = some r := h
 clear h
 by_cases c2 : a0.toList = ([] : List UInt8)
 ·rw [if_pos c2] at H
  have c2b0 : (a0.toList == ([] : List UInt8)) = true := beq_iff_eq.mpr c2
  have c2b1 : (a0.toList != ([] : List UInt8)) = false := e1_ c2
  clear c2
  obtain rfl := e5_ H
  go_enter Tryd.func34, Tryd.ntmps34
  go_wp2
  go_ret
  exact ⟨_, by first | rfl | (simp [errW_none, errW_some] <;> rfl) | (simp [*, errW_none, errW_some] <;> rfl) | (simp only [str_ne_]; rfl) | (simp only [str_eq_]; rfl), by first | exact Kd.R_nil _ _ _ _ _ | exact Kd.N_nil _ _ _ _ _ | exact Kd.V_nil _ _ _ _ _ | exact Kd.Q_nil _ _ _ _ _ | exact Kd.S_nil _ _ _ _ _, by repeat (with_reducible first | exact HB.out | apply p3_ | apply p1_ | apply p2_)⟩
 rw [if_neg c2] at H
 have c2b0 : (a0.toList == ([] : List UInt8)) = false := e2_ c2
 have c2b1 : (a0.toList != ([] : List UInt8)) = true := bne_iff_ne.mpr c2
 replace H := e4_ H
 obtain ⟨t154, A30, H⟩ := H
 replace H : (if t154 = true then ((pinfoldref1_parts.f k a0).bind fun t155 => (some t155)) else (some ([] : List ByteArray))) = some r := H
 have A3 := am_ A30
 clear A30
 by_cases c4 : t154 = true
 ·subst c4
  have H1 : ((pinfoldref1_parts.f k a0).bind fun t155 => (some t155)) = some r := by rw [if_pos rfl] at H; exact H
  clear H
  have H := H1
  clear H1
  replace H := e4_ H
  obtain ⟨t155, A50, H⟩ := H
  replace H : (some t155) = some r := H
  have A5 := am_ A50
  clear A50
  obtain rfl := e5_ H
  go_enter Tryd.func34, Tryd.ntmps34
  go_wp2_with (first | (go_at_call 33; (with_reducible refine (pinfoldref1_NameMay_c.calls a0 true _ A3.out).mono ?_); rintro e w6 ⟨rfl, hb⟩; have n0_ := am_ (bt_ (by repeat (with_reducible first | exact HB.out | apply p3_ | apply p1_ | apply p2_)) hb); clear HB; have HB := n0_; clear n0_; (try clear hb)) | ((with_reducible refine gate_callee (f := 55) rfl ?_); refine goesL_ (some 11) rfl rfl Tryd.func55 (by kernel_rfl) rfl #[.string a0] rfl (by (try simp only [List.map_toArray, List.map_cons, List.map_nil]); first | done | rfl | (simp only [List.length_drop, List.length_take]; rfl)) ?_; (with_reducible refine (pinfoldref1_parts.calls k a0 t155 _ A5.out).mono ?_); rintro e w7 ⟨v156, rfl, ho0, hb⟩; refine ⟨_, rfl, ?_⟩; have n0_ := am_ (Kd.R_lower ho0 (bz_ (by repeat (with_reducible first | exact HB.out | apply p3_ | apply p1_ | apply p2_)))); have n1_ := am_ (bt_ (by repeat (with_reducible first | exact HB.out | apply p3_ | apply p1_ | apply p2_)) hb); clear HB; have HO157 := n0_; have HB := n1_; clear n0_ n1_; (try clear hb); (try clear ho0)))
  go_ret
  exact ⟨_, by first | rfl | (simp [errW_none, errW_some] <;> rfl) | (simp [*, errW_none, errW_some] <;> rfl) | (simp only [str_ne_]; rfl) | (simp only [str_eq_]; rfl), by (with_reducible repeat (first | apply r1_ | apply r2_ | apply r3_)); exact HO157.out, by repeat (with_reducible first | exact HB.out | apply p3_ | apply p1_ | apply p2_)⟩
 replace c4 := e3_ c4
 subst c4
 have H1 : (some ([] : List ByteArray)) = some r := by rw [if_neg (show ¬ (false = true) by decide)] at H; exact H
 clear H
 have H := H1
 clear H1
 obtain rfl := e5_ H
 go_enter Tryd.func34, Tryd.ntmps34
 go_wp2_with (first | (go_at_call 33; (with_reducible refine (pinfoldref1_NameMay_c.calls a0 false _ A3.out).mono ?_); rintro e w8 ⟨rfl, hb⟩; have n0_ := am_ (bt_ (by repeat (with_reducible first | exact HB.out | apply p3_ | apply p1_ | apply p2_)) hb); clear HB; have HB := n0_; clear n0_; (try clear hb)))
 go_ret
 exact ⟨_, by first | rfl | (simp [errW_none, errW_some] <;> rfl) | (simp [*, errW_none, errW_some] <;> rfl) | (simp only [str_ne_]; rfl) | (simp only [str_eq_]; rfl), by first | exact Kd.R_nil _ _ _ _ _ | exact Kd.N_nil _ _ _ _ _ | exact Kd.V_nil _ _ _ _ _ | exact Kd.Q_nil _ _ _ _ _ | exact Kd.S_nil _ _ _ _ _, by repeat (with_reducible first | exact HB.out | apply p3_ | apply p1_ | apply p2_)⟩

/-! ### pinfoldref1_Labels_c: function 34 -/
theorem reflabels_eq_ (s : ByteArray) (hs : s.size ≤ 8796093022000) : pinfoldref1_Labels.f (s.size + 2) s = some (labelsS s) := by
 unfold pinfoldref1_Labels.f pinfoldref1_NameMay_c.f labelsS
 rw [if_pos hs, Option.bind_some]
 by_cases q : s.toList = ([] : List UInt8)
 ·have hz := (toList_nil s).1 q
  rw [if_pos q, if_neg (by simp [hz])]
 ·have hz : s.size ≠ 0 := fun e => q ((toList_nil s).2 e)
  rw [if_neg q]
  cases h : nameB (bytesOf s) with
  | false => simp
  | true =>
   obtain ⟨r, h1, h2, _⟩ := parts_eq (s.size + 2) s hs (Nat.le_refl _)
   rw [if_pos rfl, h1, if_pos (by simp [hz]), of_map_bytes _ _ h2]
   rfl
def pinfoldref1_Labels_c.f (a0 : ByteArray) : Option (List ByteArray) := if a0.size ≤ 8796093022000 then some (labelsS a0) else none
theorem pinfoldref1_Labels_c.calls (a0 : ByteArray) (r : List ByteArray) (w : World) (h : pinfoldref1_Labels_c.f a0 = some r) :
  Calls Tryd.prog 34 #[.string a0] w fun e w' => ∃ v0_ : Value, e = .returned (v0_) ∧ Kd.R Kd.string 9 w' w.heap.size (fun _ => True) v0_ r ∧ Below w.heap.size w w' := by
 unfold pinfoldref1_Labels_c.f at h
 by_cases hs : a0.size ≤ 8796093022000
 ·rw [if_pos hs] at h
  exact pinfoldref1_Labels.calls _ a0 r w (by rw [reflabels_eq_ a0 hs]; exact h)
 ·rw [if_neg hs] at h
  cases h

/-! ### pinfoldref11_clientMay: function 53 -/
def pinfoldref11_clientMay.f (a0 : ByteArray) : Option (Bool) := if (a0.size : Int) ≥ 1 then (some (decide ((a0.size : Int) ≤ 16))) else (some false)
set_option maxHeartbeats 8000000 in
set_option maxRecDepth 100000 in
theorem pinfoldref11_clientMay.calls (a0 : ByteArray) (r : Bool) (w : World) (h : pinfoldref11_clientMay.f a0 = some r) :
  Calls Tryd.prog 53 #[.string a0] w fun e w' => e = .returned (.bool r) ∧ Drawn0 w w' := by
 have H : (if (a0.size : Int) ≥ 1 then (some (decide ((a0.size : Int) ≤ 16))) else (some false)) = some r := h
 clear h
 by_cases c2 : (a0.size : Int) ≥ 1
 ·rw [if_pos c2] at H
  have c2b0 : decide (1 ≤ (a0.size : Int)) = true := decide_eq_true c2
  have c2b1 : decide (1 ≤ a0.size) = true := decide_eq_true (by omega)
  clear c2
  obtain rfl := e5_ H
  go_enter Tryd.func53, Tryd.ntmps53
  go_wp2
  go_ret
  exact ⟨by first | rfl | (simp; done) | (simp [*]; done), by repeat (first | exact Drawn0.refl _ | apply Drawn0.step)⟩
 rw [if_neg c2] at H
 have c2b0 : decide (1 ≤ (a0.size : Int)) = false := decide_eq_false c2
 have c2b1 : decide (1 ≤ a0.size) = false := decide_eq_false (by omega)
 clear c2
 obtain rfl := e5_ H
 go_enter Tryd.func53, Tryd.ntmps53
 go_wp2
 go_ret
 exact ⟨by first | rfl | (simp; done) | (simp [*]; done), by repeat (first | exact Drawn0.refl _ | apply Drawn0.step)⟩

/-! ### pinfoldref11_clientMay_c: function 53 -/
def pinfoldref11_clientMay_c.f (a0 : ByteArray) : Option Bool := some (clientB a0)
theorem pinfoldref11_clientMay_c.calls (a0 : ByteArray) (r : Bool) (w : World) (h : pinfoldref11_clientMay_c.f a0 = some r) :
  Calls Tryd.prog 53 #[.string a0] w fun e w' => e = .returned (.bool r) ∧ Drawn0 w w' := by
 refine pinfoldref11_clientMay.calls a0 r w ?_
 rw [← h]
 unfold pinfoldref11_clientMay.f pinfoldref11_clientMay_c.f clientB
 by_cases q : (a0.size : Int) ≥ 1
 ·rw [if_pos q]
  congr 1
  rw [Bool.eq_iff_iff, decide_eq_true_eq, decide_eq_true_eq]
  omega
 ·rw [if_neg q]
  congr 1
  symm
  rw [decide_eq_false_iff_not]
  omega

/-! ### pinfoldref1_Under: function 35 -/
def pinfoldref1_Under.f (a0 : ByteArray) (a1 : ByteArray) : Option (Bool) := (pinfoldref1_NameMay_c.f a0).bind fun t158 => (if t158 = true then ((pinfoldref1_NameMay_c.f a1).bind fun t159 => (if t159 = true then (if a1.toList = ([] : List UInt8) then (some true) else (if a0.toList = a1.toList then (some true) else (if (wrap64 ((a0.size : Int) - (a1.size : Int))) > 1 then (if 0 ≤ (wrap64 ((a0.size : Int) - (a1.size : Int))) then (if (wrap64 ((a0.size : Int) - (a1.size : Int))) ≤ (a0.size : Int) then (if (a0.extract ((wrap64 ((a0.size : Int) - (a1.size : Int))) : Int).toNat a0.size).toList = a1.toList then (if 0 ≤ (wrap64 ((wrap64 ((a0.size : Int) - (a1.size : Int))) - 1)) then (if (wrap64 ((wrap64 ((a0.size : Int) - (a1.size : Int))) - 1)) < (a0.size : Int) then (some ((bt a0 (wrap64 ((wrap64 ((a0.size : Int) - (a1.size : Int))) - 1))) == 46)) else (none)) else (none)) else (some false)) else (none)) else (none)) else (some false)))) else (some false))) else (some false))
set_option maxHeartbeats 8000000 in
set_option maxRecDepth 100000 in
theorem pinfoldref1_Under.calls (a0 : ByteArray) (a1 : ByteArray) (r : Bool) (w : World) (h : pinfoldref1_Under.f a0 a1 = some r) :
  Calls Tryd.prog 35 #[.string a0, .string a1] w fun e w' => e = .returned (.bool r) ∧ Below w.heap.size w w' := by
 have HB := am_ (Below.refl w.heap.size w)
 have H : ((pinfoldref1_NameMay_c.f a0).bind fun t158 => (if t158 = true then ((pinfoldref1_NameMay_c.f a1).bind fun t159 => (if t159 = true then (if a1.toList = ([] : List UInt8) then (some true) else (if a0.toList = a1.toList then (some true) else (if (wrap64 ((a0.size : Int) - (a1.size : Int))) > 1 then (if 0 ≤ (wrap64 ((a0.size : Int) - (a1.size : Int))) then (if (wrap64 ((a0.size : Int) - (a1.size : Int))) ≤ (a0.size : Int) then (if (a0.extract ((wrap64 ((a0.size : Int) - (a1.size : Int))) : Int).toNat a0.size).toList = a1.toList then (if 0 ≤ (wrap64 ((wrap64 ((a0.size : Int) - (a1.size : Int))) - 1)) then (if (wrap64 ((wrap64 ((a0.size : Int) - (a1.size : Int))) - 1)) < (a0.size : Int) then (some ((bt a0 (wrap64 ((wrap64 ((a0.size : Int) - (a1.size : Int))) - 1))) == 46)) else (none)) else (none)) else (some false)) else (none)) else (none)) else (some false)))) else (some false))) else (some false))) = some r := h
 clear h
 replace H := e4_ H
 obtain ⟨t158, A30, H⟩ := H
 replace H : (if t158 = true then ((pinfoldref1_NameMay_c.f a1).bind fun t159 => (if t159 = true then (if a1.toList = ([] : List UInt8) then (some true) else (if a0.toList = a1.toList then (some true) else (if (wrap64 ((a0.size : Int) - (a1.size : Int))) > 1 then (if 0 ≤ (wrap64 ((a0.size : Int) - (a1.size : Int))) then (if (wrap64 ((a0.size : Int) - (a1.size : Int))) ≤ (a0.size : Int) then (if (a0.extract ((wrap64 ((a0.size : Int) - (a1.size : Int))) : Int).toNat a0.size).toList = a1.toList then (if 0 ≤ (wrap64 ((wrap64 ((a0.size : Int) - (a1.size : Int))) - 1)) then (if (wrap64 ((wrap64 ((a0.size : Int) - (a1.size : Int))) - 1)) < (a0.size : Int) then (some ((bt a0 (wrap64 ((wrap64 ((a0.size : Int) - (a1.size : Int))) - 1))) == 46)) else (none)) else (none)) else (some false)) else (none)) else (none)) else (some false)))) else (some false))) else (some false)) = some r := H
 have A3 := am_ A30
 clear A30
 by_cases c4 : t158 = true
 ·subst c4
  have H1 : ((pinfoldref1_NameMay_c.f a1).bind fun t159 => (if t159 = true then (if a1.toList = ([] : List UInt8) then (some true) else (if a0.toList = a1.toList then (some true) else (if (wrap64 ((a0.size : Int) - (a1.size : Int))) > 1 then (if 0 ≤ (wrap64 ((a0.size : Int) - (a1.size : Int))) then (if (wrap64 ((a0.size : Int) - (a1.size : Int))) ≤ (a0.size : Int) then (if (a0.extract ((wrap64 ((a0.size : Int) - (a1.size : Int))) : Int).toNat a0.size).toList = a1.toList then (if 0 ≤ (wrap64 ((wrap64 ((a0.size : Int) - (a1.size : Int))) - 1)) then (if (wrap64 ((wrap64 ((a0.size : Int) - (a1.size : Int))) - 1)) < (a0.size : Int) then (some ((bt a0 (wrap64 ((wrap64 ((a0.size : Int) - (a1.size : Int))) - 1))) == 46)) else (none)) else (none)) else (some false)) else (none)) else (none)) else (some false)))) else (some false))) = some r := by rw [if_pos rfl] at H; exact H
  clear H
  have H := H1
  clear H1
  replace H := e4_ H
  obtain ⟨t159, A50, H⟩ := H
  replace H : (if t159 = true then (if a1.toList = ([] : List UInt8) then (some true) else (if a0.toList = a1.toList then (some true) else (if (wrap64 ((a0.size : Int) - (a1.size : Int))) > 1 then (if 0 ≤ (wrap64 ((a0.size : Int) - (a1.size : Int))) then (if (wrap64 ((a0.size : Int) - (a1.size : Int))) ≤ (a0.size : Int) then (if (a0.extract ((wrap64 ((a0.size : Int) - (a1.size : Int))) : Int).toNat a0.size).toList = a1.toList then (if 0 ≤ (wrap64 ((wrap64 ((a0.size : Int) - (a1.size : Int))) - 1)) then (if (wrap64 ((wrap64 ((a0.size : Int) - (a1.size : Int))) - 1)) < (a0.size : Int) then (some ((bt a0 (wrap64 ((wrap64 ((a0.size : Int) - (a1.size : Int))) - 1))) == 46)) else (none)) else (none)) else (some false)) else (none)) else (none)) else (some false)))) else (some false)) = some r := H
  have A5 := am_ A50
  clear A50
  by_cases c6 : t159 = true
  ·subst c6
   have H1 : (if a1.toList = ([] : List UInt8) then (some true) else (if a0.toList = a1.toList then (some true) else (if (wrap64 ((a0.size : Int) - (a1.size : Int))) > 1 then (if 0 ≤ (wrap64 ((a0.size : Int) - (a1.size : Int))) then (if (wrap64 ((a0.size : Int) - (a1.size : Int))) ≤ (a0.size : Int) then (if (a0.extract ((wrap64 ((a0.size : Int) - (a1.size : Int))) : Int).toNat a0.size).toList = a1.toList then (if 0 ≤ (wrap64 ((wrap64 ((a0.size : Int) - (a1.size : Int))) - 1)) then (if (wrap64 ((wrap64 ((a0.size : Int) - (a1.size : Int))) - 1)) < (a0.size : Int) then (some ((bt a0 (wrap64 ((wrap64 ((a0.size : Int) - (a1.size : Int))) - 1))) == 46)) else (none)) else (none)) else (some false)) else (none)) else (none)) else (some false)))) = some r := by rw [if_pos rfl] at H; exact H
   clear H
   have H := H1
   clear H1
   by_cases c7 : a1.toList = ([] : List UInt8)
   ·rw [if_pos c7] at H
    have c7b0 : (a1.toList == ([] : List UInt8)) = true := beq_iff_eq.mpr c7
    have c7b1 : (a1.toList != ([] : List UInt8)) = false := e1_ c7
    clear c7
    obtain rfl := e5_ H
    go_enter Tryd.func35, Tryd.ntmps35
    go_wp2_with (first | ((with_reducible refine gate_callee (f := 33) rfl ?_); refine goesL_ (some 7) rfl rfl Tryd.func33 (by kernel_rfl) rfl #[.string a0] rfl (by (try simp only [List.map_toArray, List.map_cons, List.map_nil]); first | done | rfl | (simp only [List.length_drop, List.length_take]; rfl)) ?_; (with_reducible refine (pinfoldref1_NameMay_c.calls a0 true _ A3.out).mono ?_); rintro e w8 ⟨rfl, hb⟩; refine ⟨_, rfl, ?_⟩; have n0_ := am_ (bt_ (by repeat (with_reducible first | exact HB.out | apply p3_ | apply p1_ | apply p2_)) hb); clear HB; have HB := n0_; clear n0_; (try clear hb)) | (go_at_call 33; (with_reducible refine (pinfoldref1_NameMay_c.calls a1 true _ A5.out).mono ?_); rintro e w9 ⟨rfl, hb⟩; have n0_ := am_ (bt_ (by repeat (with_reducible first | exact HB.out | apply p3_ | apply p1_ | apply p2_)) hb); clear HB; have HB := n0_; clear n0_; (try clear hb)))
    go_ret
    exact ⟨by first | rfl | (simp [errW_none, errW_some] <;> rfl) | (simp [*, errW_none, errW_some] <;> rfl) | (simp only [str_ne_]; rfl) | (simp only [str_eq_]; rfl), by repeat (with_reducible first | exact HB.out | apply p3_ | apply p1_ | apply p2_)⟩
   rw [if_neg c7] at H
   have c7b0 : (a1.toList == ([] : List UInt8)) = false := e2_ c7
   have c7b1 : (a1.toList != ([] : List UInt8)) = true := bne_iff_ne.mpr c7
   by_cases c10 : a0.toList = a1.toList
   ·rw [if_pos c10] at H
    have c10b0 : (a0.toList == a1.toList) = true := beq_iff_eq.mpr c10
    have c10b1 : (a0.toList != a1.toList) = false := e1_ c10
    clear c10
    obtain rfl := e5_ H
    go_enter Tryd.func35, Tryd.ntmps35
    go_wp2_with (first | ((with_reducible refine gate_callee (f := 33) rfl ?_); refine goesL_ (some 7) rfl rfl Tryd.func33 (by kernel_rfl) rfl #[.string a0] rfl (by (try simp only [List.map_toArray, List.map_cons, List.map_nil]); first | done | rfl | (simp only [List.length_drop, List.length_take]; rfl)) ?_; (with_reducible refine (pinfoldref1_NameMay_c.calls a0 true _ A3.out).mono ?_); rintro e w11 ⟨rfl, hb⟩; refine ⟨_, rfl, ?_⟩; have n0_ := am_ (bt_ (by repeat (with_reducible first | exact HB.out | apply p3_ | apply p1_ | apply p2_)) hb); clear HB; have HB := n0_; clear n0_; (try clear hb)) | (go_at_call 33; (with_reducible refine (pinfoldref1_NameMay_c.calls a1 true _ A5.out).mono ?_); rintro e w12 ⟨rfl, hb⟩; have n0_ := am_ (bt_ (by repeat (with_reducible first | exact HB.out | apply p3_ | apply p1_ | apply p2_)) hb); clear HB; have HB := n0_; clear n0_; (try clear hb)))
    go_ret
    exact ⟨by first | rfl | (simp [errW_none, errW_some] <;> rfl) | (simp [*, errW_none, errW_some] <;> rfl) | (simp only [str_ne_]; rfl) | (simp only [str_eq_]; rfl), by repeat (with_reducible first | exact HB.out | apply p3_ | apply p1_ | apply p2_)⟩
   rw [if_neg c10] at H
   have c10b0 : (a0.toList == a1.toList) = false := e2_ c10
   have c10b1 : (a0.toList != a1.toList) = true := bne_iff_ne.mpr c10
   by_cases c13 : (wrap64 ((a0.size : Int) - (a1.size : Int))) > 1
   ·rw [if_pos c13] at H
    have c13b0 : decide (1 < (wrap64 ((a0.size : Int) - (a1.size : Int)))) = true := decide_eq_true c13
    clear c13
    obtain ⟨ji14, hji14⟩ : ∃ j_ : Int, (wrap64 ((a0.size : Int) - (a1.size : Int))) = j_ := ⟨_, rfl⟩
    replace H : (if 0 ≤ (ji14) then (if (ji14) ≤ (a0.size : Int) then (if (a0.extract ((ji14) : Int).toNat a0.size).toList = a1.toList then (if 0 ≤ (wrap64 ((ji14) - 1)) then (if (wrap64 ((ji14) - 1)) < (a0.size : Int) then (some ((bt a0 (wrap64 ((ji14) - 1))) == 46)) else (none)) else (none)) else (some false)) else (none)) else (none)) = some r := by first | (rw [hji14] at H; exact H) | (simp only [hji14] at H ⊢; exact H)
    (try rw [hji14] at c13b0)
    (try rw [hji14] at A3)
    (try rw [hji14] at A5)
    have hji14w : (IntKind.i64.wrap ((a0.size : Int) - (a1.size : Int))) = ji14 := (i64_w _).trans hji14
    by_cases c15 : 0 ≤ (ji14)
    rotate_left
    ·rw [if_neg c15] at H
     exact absurd H (by simp)
    rw [if_pos c15] at H
    have c15b0 := eq_true c15
    have c15b1 : decide (0 ≤ (ji14)) = true := decide_eq_true c15
    clear c15
    by_cases c16 : (ji14) ≤ (a0.size : Int)
    rotate_left
    ·rw [if_neg c16] at H
     exact absurd H (by simp)
    rw [if_pos c16] at H
    have c16b0 := eq_true c16
    have c16b1 : decide ((ji14) ≤ (a0.size : Int)) = true := decide_eq_true c16
    clear c16
    by_cases c17 : (a0.extract ((ji14) : Int).toNat a0.size).toList = a1.toList
    ·rw [if_pos c17] at H
     have c17b0 : ((a0.extract ((ji14) : Int).toNat a0.size).toList == a1.toList) = true := beq_iff_eq.mpr c17
     have c17b1 : ((a0.extract ((ji14) : Int).toNat a0.size).toList != a1.toList) = false := e1_ c17
     clear c17
     obtain ⟨ji18, hji18⟩ : ∃ j_ : Int, (wrap64 ((ji14) - 1)) = j_ := ⟨_, rfl⟩
     replace H : (if 0 ≤ (ji18) then (if (ji18) < (a0.size : Int) then (some ((bt a0 (ji18)) == 46)) else (none)) else (none)) = some r := by first | (rw [hji18] at H; exact H) | (simp only [hji18] at H ⊢; exact H)
     (try rw [hji18] at A3)
     (try rw [hji18] at A5)
     have hji18w : (IntKind.i64.wrap ((ji14) - 1)) = ji18 := (i64_w _).trans hji18
     by_cases c19 : 0 ≤ (ji18)
     rotate_left
     ·rw [if_neg c19] at H
      exact absurd H (by simp)
     rw [if_pos c19] at H
     have c19b0 : decide (0 ≤ (ji18)) = true := decide_eq_true c19
     clear c19
     by_cases c20 : (ji18) < (a0.size : Int)
     rotate_left
     ·rw [if_neg c20] at H
      exact absurd H (by simp)
     rw [if_pos c20] at H
     have c20b0 : decide ((ji18) < (a0.size : Int)) = true := decide_eq_true c20
     clear c20
     obtain rfl := e5_ H
     go_enter Tryd.func35, Tryd.ntmps35
     go_wp2_with (first | ((with_reducible refine gate_callee (f := 33) rfl ?_); refine goesL_ (some 7) rfl rfl Tryd.func33 (by kernel_rfl) rfl #[.string a0] rfl (by (try simp only [List.map_toArray, List.map_cons, List.map_nil]); first | done | rfl | (simp only [List.length_drop, List.length_take]; rfl)) ?_; (with_reducible refine (pinfoldref1_NameMay_c.calls a0 true _ A3.out).mono ?_); rintro e w22 ⟨rfl, hb⟩; refine ⟨_, rfl, ?_⟩; have n0_ := am_ (bt_ (by repeat (with_reducible first | exact HB.out | apply p3_ | apply p1_ | apply p2_)) hb); clear HB; have HB := n0_; clear n0_; (try clear hb)) | (go_at_call 33; (with_reducible refine (pinfoldref1_NameMay_c.calls a1 true _ A5.out).mono ?_); rintro e w23 ⟨rfl, hb⟩; have n0_ := am_ (bt_ (by repeat (with_reducible first | exact HB.out | apply p3_ | apply p1_ | apply p2_)) hb); clear HB; have HB := n0_; clear n0_; (try clear hb); have p21 : 0 ≤ ((ji18) : Int) := of_decide_eq_true (by first | (with_reducible assumption) | assumption); have q21 : (ji18) < (a0.size : Int) := of_decide_eq_true (by first | (with_reducible assumption) | assumption); have hx21 := bt_at a0 (ji18); replace p21 := eq_true p21; replace q21 := eq_true q21))
     go_ret
     exact ⟨by first | rfl | (simp [errW_none, errW_some] <;> rfl) | (simp only [← hji14, ← hji18]; first | rfl | (simp [errW_none, errW_some] <;> rfl)) | (simp [*, errW_none, errW_some] <;> rfl) | (simp only [str_ne_]; rfl) | (simp only [str_eq_]; rfl), by repeat (with_reducible first | exact HB.out | apply p3_ | apply p1_ | apply p2_)⟩
    rw [if_neg c17] at H
    have c17b0 : ((a0.extract ((ji14) : Int).toNat a0.size).toList == a1.toList) = false := e2_ c17
    have c17b1 : ((a0.extract ((ji14) : Int).toNat a0.size).toList != a1.toList) = true := bne_iff_ne.mpr c17
    obtain rfl := e5_ H
    go_enter Tryd.func35, Tryd.ntmps35
    go_wp2_with (first | ((with_reducible refine gate_callee (f := 33) rfl ?_); refine goesL_ (some 7) rfl rfl Tryd.func33 (by kernel_rfl) rfl #[.string a0] rfl (by (try simp only [List.map_toArray, List.map_cons, List.map_nil]); first | done | rfl | (simp only [List.length_drop, List.length_take]; rfl)) ?_; (with_reducible refine (pinfoldref1_NameMay_c.calls a0 true _ A3.out).mono ?_); rintro e w24 ⟨rfl, hb⟩; refine ⟨_, rfl, ?_⟩; have n0_ := am_ (bt_ (by repeat (with_reducible first | exact HB.out | apply p3_ | apply p1_ | apply p2_)) hb); clear HB; have HB := n0_; clear n0_; (try clear hb)) | (go_at_call 33; (with_reducible refine (pinfoldref1_NameMay_c.calls a1 true _ A5.out).mono ?_); rintro e w25 ⟨rfl, hb⟩; have n0_ := am_ (bt_ (by repeat (with_reducible first | exact HB.out | apply p3_ | apply p1_ | apply p2_)) hb); clear HB; have HB := n0_; clear n0_; (try clear hb)))
    go_ret
    exact ⟨by first | rfl | (simp [errW_none, errW_some] <;> rfl) | (simp only [← hji14]; first | rfl | (simp [errW_none, errW_some] <;> rfl)) | (simp [*, errW_none, errW_some] <;> rfl) | (simp only [str_ne_]; rfl) | (simp only [str_eq_]; rfl), by repeat (with_reducible first | exact HB.out | apply p3_ | apply p1_ | apply p2_)⟩
   rw [if_neg c13] at H
   have c13b0 : decide (1 < (wrap64 ((a0.size : Int) - (a1.size : Int)))) = false := decide_eq_false c13
   clear c13
   obtain rfl := e5_ H
   go_enter Tryd.func35, Tryd.ntmps35
   go_wp2_with (first | ((with_reducible refine gate_callee (f := 33) rfl ?_); refine goesL_ (some 7) rfl rfl Tryd.func33 (by kernel_rfl) rfl #[.string a0] rfl (by (try simp only [List.map_toArray, List.map_cons, List.map_nil]); first | done | rfl | (simp only [List.length_drop, List.length_take]; rfl)) ?_; (with_reducible refine (pinfoldref1_NameMay_c.calls a0 true _ A3.out).mono ?_); rintro e w26 ⟨rfl, hb⟩; refine ⟨_, rfl, ?_⟩; have n0_ := am_ (bt_ (by repeat (with_reducible first | exact HB.out | apply p3_ | apply p1_ | apply p2_)) hb); clear HB; have HB := n0_; clear n0_; (try clear hb)) | (go_at_call 33; (with_reducible refine (pinfoldref1_NameMay_c.calls a1 true _ A5.out).mono ?_); rintro e w27 ⟨rfl, hb⟩; have n0_ := am_ (bt_ (by repeat (with_reducible first | exact HB.out | apply p3_ | apply p1_ | apply p2_)) hb); clear HB; have HB := n0_; clear n0_; (try clear hb)))
   go_ret
   exact ⟨by first | rfl | (simp [errW_none, errW_some] <;> rfl) | (simp [*, errW_none, errW_some] <;> rfl) | (simp only [str_ne_]; rfl) | (simp only [str_eq_]; rfl), by repeat (with_reducible first | exact HB.out | apply p3_ | apply p1_ | apply p2_)⟩
  replace c6 := e3_ c6
  subst c6
  have H1 : (some false) = some r := by rw [if_neg (show ¬ (false = true) by decide)] at H; exact H
  clear H
  have H := H1
  clear H1
  obtain rfl := e5_ H
  go_enter Tryd.func35, Tryd.ntmps35
  go_wp2_with (first | ((with_reducible refine gate_callee (f := 33) rfl ?_); refine goesL_ (some 7) rfl rfl Tryd.func33 (by kernel_rfl) rfl #[.string a0] rfl (by (try simp only [List.map_toArray, List.map_cons, List.map_nil]); first | done | rfl | (simp only [List.length_drop, List.length_take]; rfl)) ?_; (with_reducible refine (pinfoldref1_NameMay_c.calls a0 true _ A3.out).mono ?_); rintro e w28 ⟨rfl, hb⟩; refine ⟨_, rfl, ?_⟩; have n0_ := am_ (bt_ (by repeat (with_reducible first | exact HB.out | apply p3_ | apply p1_ | apply p2_)) hb); clear HB; have HB := n0_; clear n0_; (try clear hb)) | (go_at_call 33; (with_reducible refine (pinfoldref1_NameMay_c.calls a1 false _ A5.out).mono ?_); rintro e w29 ⟨rfl, hb⟩; have n0_ := am_ (bt_ (by repeat (with_reducible first | exact HB.out | apply p3_ | apply p1_ | apply p2_)) hb); clear HB; have HB := n0_; clear n0_; (try clear hb)))
  go_ret
  exact ⟨by first | rfl | (simp [errW_none, errW_some] <;> rfl) | (simp [*, errW_none, errW_some] <;> rfl) | (simp only [str_ne_]; rfl) | (simp only [str_eq_]; rfl), by repeat (with_reducible first | exact HB.out | apply p3_ | apply p1_ | apply p2_)⟩
 replace c4 := e3_ c4
 subst c4
 have H1 : (some false) = some r := by rw [if_neg (show ¬ (false = true) by decide)] at H; exact H
 clear H
 have H := H1
 clear H1
 obtain rfl := e5_ H
 go_enter Tryd.func35, Tryd.ntmps35
 go_wp2_with (first | ((with_reducible refine gate_callee (f := 33) rfl ?_); refine goesL_ (some 7) rfl rfl Tryd.func33 (by kernel_rfl) rfl #[.string a0] rfl (by (try simp only [List.map_toArray, List.map_cons, List.map_nil]); first | done | rfl | (simp only [List.length_drop, List.length_take]; rfl)) ?_; (with_reducible refine (pinfoldref1_NameMay_c.calls a0 false _ A3.out).mono ?_); rintro e w30 ⟨rfl, hb⟩; refine ⟨_, rfl, ?_⟩; have n0_ := am_ (bt_ (by repeat (with_reducible first | exact HB.out | apply p3_ | apply p1_ | apply p2_)) hb); clear HB; have HB := n0_; clear n0_; (try clear hb)))
 go_ret
 exact ⟨by first | rfl | (simp [errW_none, errW_some] <;> rfl) | (simp [*, errW_none, errW_some] <;> rfl) | (simp only [str_ne_]; rfl) | (simp only [str_eq_]; rfl), by repeat (with_reducible first | exact HB.out | apply p3_ | apply p1_ | apply p2_)⟩

/-! ### pinfoldref1_Under_c: function 35 -/
theorem name_point (z : List Int) : nameB (46 :: z) = false := by
 unfold nameB
 rw [cutL_point, List.all_cons, decide_eq_false (by simp)]
 rfl
/-- what the document says of a name under a zone. -/
theorem refunder_eq_ (s z : ByteArray) (hs : s.size ≤ 8796093022000) (hz : z.size ≤ 8796093022000) : pinfoldref1_Under.f s z = some (underB (bytesOf s) (bytesOf z)) := by
 unfold pinfoldref1_Under.f underB
 unfold pinfoldref1_NameMay_c.f
 rw [if_pos hs, if_pos hz]
 simp only [Option.bind_some]
 cases hns : nameB (bytesOf s) with
 | false => rfl
 | true =>
  cases nameB (bytesOf z) with
  | false => rfl
  | true =>
   simp only [if_true, Bool.and_self, Bool.true_and]
   by_cases q1 : z.size = 0
   ·have hn : bytesOf z = [] := List.length_eq_zero_iff.1 (by rw [bytesOf_length]; omega)
    rw [if_pos ((toList_nil z).2 q1), decide_eq_true (show isU (bytesOf s) (bytesOf z) from .inl hn)]
   ·have hn : bytesOf z ≠ [] := fun e => q1 (by rw [← bytesOf_length, e]; rfl)
    rw [if_neg (fun e => q1 ((toList_nil z).1 e))]
    by_cases q2 : bytesOf s = bytesOf z
    ·rw [if_pos ((toList_iff s z).2 q2), decide_eq_true (show isU (bytesOf s) (bytesOf z) from .inr (.inl q2))]
    ·rw [if_neg (fun e => q2 ((toList_iff s z).1 e)), w64 (show -9223372036854775808 ≤ (s.size : Int) - (z.size : Int) ∧ (s.size : Int) - (z.size : Int) ≤ 9223372036854775807 by omega)]
     have hu : isU (bytesOf s) (bytesOf z) ↔ (46 :: bytesOf z) <:+ bytesOf s := by
      unfold isU
      constructor
      ·rintro (h | h | h)
       ·exact absurd h hn
       ·exact absurd h q2
       ·exact h
      ·exact fun h => .inr (.inr h)
     by_cases hd : (s.size : Int) - (z.size : Int) > 1
     ·obtain ⟨d, hd2⟩ : ∃ d : Nat, s.size = z.size + (d + 1) := ⟨s.size - z.size - 1, by omega⟩
      have e1 : (s.size : Int) - (z.size : Int) = ((d + 1 : Nat) : Int) := by omega
      rw [if_pos hd, e1, if_pos (by omega), if_pos (by omega), Int.toNat_natCast, w64 (by omega), show ((d + 1 : Nat) : Int) - 1 = (d : Int) by omega]
      have e2 : (bytesOf s).drop d = bt s d :: (bytesOf s).drop (d + 1) := drop_cons s d (by omega)
      have e3 : bytesOf (s.extract (d + 1) s.size) = (bytesOf s).drop (d + 1) := by
       rw [bytesOf_extract, List.take_of_length_le (by rw [List.length_drop, bytesOf_length]; omega)]
      have hiff : isU (bytesOf s) (bytesOf z) ↔ bt s d = 46 ∧ (bytesOf s).drop (d + 1) = bytesOf z := by
       rw [hu, List.suffix_iff_eq_drop, List.length_cons, bytesOf_length, bytesOf_length, show s.size - (z.size + 1) = d by omega, e2, List.cons.injEq]
       constructor
       ·exact fun h => ⟨h.1.symm, h.2.symm⟩
       ·exact fun h => ⟨h.1.symm, h.2.symm⟩
      by_cases q3 : (bytesOf s).drop (d + 1) = bytesOf z
      ·rw [if_pos ((toList_iff _ _).2 (by rw [e3, q3])), if_pos (by omega), if_pos (by omega)]
       congr 1
       rw [Bool.eq_iff_iff, beq_iff_eq, decide_eq_true_eq, hiff]
       exact ⟨fun h => ⟨h, q3⟩, fun h => h.1⟩
      ·rw [if_neg (fun e => q3 (by rw [← e3]; exact (toList_iff _ _).1 e)), decide_eq_false (fun h => q3 (hiff.1 h).2)]
     ·rw [if_neg hd, decide_eq_false ?_]
      rw [hu]
      intro h
      have hl := h.length_le
      rw [List.length_cons, bytesOf_length, bytesOf_length] at hl
      have e := h.eq_of_length (by rw [List.length_cons, bytesOf_length, bytesOf_length]; omega)
      rw [← e, name_point] at hns
      cases hns
def pinfoldref1_Under_c.f (a0 a1 : ByteArray) : Option Bool := if a0.size ≤ 8796093022000 ∧ a1.size ≤ 8796093022000 then some (underB (bytesOf a0) (bytesOf a1)) else none
theorem pinfoldref1_Under_c.calls (a0 a1 : ByteArray) (r : Bool) (w : World) (h : pinfoldref1_Under_c.f a0 a1 = some r) :
  Calls Tryd.prog 35 #[.string a0, .string a1] w fun e w' => e = .returned (.bool r) ∧ Below w.heap.size w w' := by
 unfold pinfoldref1_Under_c.f at h
 by_cases hs : a0.size ≤ 8796093022000 ∧ a1.size ≤ 8796093022000
 ·rw [if_pos hs] at h
  exact pinfoldref1_Under.calls a0 a1 r w (by rw [refunder_eq_ a0 a1 hs.1 hs.2]; exact h)
 ·rw [if_neg hs] at h
  cases h

/-! ### pinfoldref1_within: function 79 -/
def pinfoldref1_within.f (a0 : Int) (a1 : Int) : Option (Bool) := if a0 ≥ 0 then (if 0 ≤ a1 then (some (decide (a0 < (shl .i64 1 a1)))) else (none)) else (some false)
set_option maxHeartbeats 8000000 in
set_option maxRecDepth 100000 in
theorem pinfoldref1_within.calls (a0 : Int) (a1 : Int) (r : Bool) (w : World) (h : pinfoldref1_within.f a0 a1 = some r) :
  Calls Tryd.prog 79 #[.int .i64 a0, .int .i64 a1] w fun e w' => e = .returned (.bool r) ∧ Drawn0 w w' := by
 have H : (if a0 ≥ 0 then (if 0 ≤ a1 then (some (decide (a0 < (shl .i64 1 a1)))) else (none)) else (some false)) = some r := h
 clear h
 by_cases c3 : a0 ≥ 0
 ·rw [if_pos c3] at H
  have c3b0 : decide (0 ≤ a0) = true := decide_eq_true c3
  clear c3
  by_cases c4 : 0 ≤ a1
  rotate_left
  ·rw [if_neg c4] at H
   exact absurd H (by simp)
  rw [if_pos c4] at H
  have c4b0 := eq_true c4
  have c4b1 : decide (0 ≤ a1) = true := decide_eq_true c4
  clear c4
  obtain ⟨ji5, hji5⟩ : ∃ j_ : Int, (shl .i64 1 a1) = j_ := ⟨_, rfl⟩
  replace H : (some (decide (a0 < (ji5)))) = some r := by first | (rw [hji5] at H; exact H) | (simp only [hji5] at H ⊢; exact H)
  have hji5_ : (IntKind.i64.wrap (1 * 2 ^ min a1.toNat 64)) = ji5 := hji5
  have hji5z : a1 ≤ 64 → (IntKind.i64.wrap (1 * 2 ^ a1.toNat)) = ji5 := shl_small hji5
  have hji5u : (IntKind.i64.wrap (2 ^ min a1.toNat 64)) = ji5 := by have h_ := hji5_; rw [Int.one_mul] at h_; exact h_
  have hji5v : a1 ≤ 64 → (IntKind.i64.wrap (2 ^ a1.toNat)) = ji5 := fun hle_ => by have h_ := hji5z hle_; rw [Int.one_mul] at h_; exact h_
  have hji5y : (wrap64 (1 * 2 ^ min a1.toNat 64)) = ji5 := (i64_w _).symm.trans hji5_
  have hji5x : a1 ≤ 64 → (wrap64 (1 * 2 ^ a1.toNat)) = ji5 := fun h_ => (i64_w _).symm.trans (hji5z h_)
  obtain rfl := e5_ H
  go_enter Tryd.func79, Tryd.ntmps79
  go_wp2
  go_ret
  exact ⟨by first | rfl | (simp; done) | (simp only [← hji5] <;> (first | rfl | simp)) | (simp [*]; done), by repeat (first | exact Drawn0.refl _ | apply Drawn0.step)⟩
 rw [if_neg c3] at H
 have c3b0 : decide (0 ≤ a0) = false := decide_eq_false c3
 clear c3
 obtain rfl := e5_ H
 go_enter Tryd.func79, Tryd.ntmps79
 go_wp2
 go_ret
 exact ⟨by first | rfl | (simp; done) | (simp [*]; done), by repeat (first | exact Drawn0.refl _ | apply Drawn0.step)⟩

/-! ### pinfoldref1_within_c: function 79 -/
def pinfoldref1_within_c.f (a0 : Int) (a1 : Int) : Option Bool := if a1 = 32 then some (wordB a0) else none
theorem pinfoldref1_within_c.calls (a0 : Int) (a1 : Int) (r : Bool) (w : World) (h : pinfoldref1_within_c.f a0 a1 = some r) :
  Calls Tryd.prog 79 #[.int .i64 a0, .int .i64 a1] w fun e w' => e = .returned (.bool r) ∧ Drawn0 w w' := by
 unfold pinfoldref1_within_c.f at h
 by_cases hs : a1 = 32
 ·subst hs
  rw [if_pos rfl] at h
  refine pinfoldref1_within.calls a0 32 r w ?_
  rw [← h]
  unfold pinfoldref1_within.f wordB
  have e : shl .i64 1 32 = 4294967296 := by kernel_rfl
  rw [e]
  by_cases q : a0 ≥ 0
  ·rw [if_pos q, if_pos (by decide)]
   congr 1
   rw [Bool.eq_iff_iff, decide_eq_true_eq, decide_eq_true_eq]
   omega
  ·rw [if_neg q]
   congr 1
   symm
   rw [decide_eq_false_iff_not]
   omega
 ·rw [if_neg hs] at h
  cases h

/-! ### pinfoldref1_RrMay: function 70 -/
-- BY HAND
def pinfoldref1_RrMay.f (a0_0 : ByteArray) (a0_1 : Int) (a0_2 : Int) (a0_3 : Int) (a0_4 : ByteArray) (a0_5 : ByteArray) (a0_6 : Int) : Option Bool := if a0_0.size ≤ 8796093022000 ∧ a0_4.size ≤ 8796093022000 then some (rrB a0_0 a0_1 a0_2 a0_3 a0_4 a0_5 a0_6) else none
set_option maxHeartbeats 8000000 in
set_option maxRecDepth 100000 in
theorem pinfoldref1_RrMay.calls (a0_0 : ByteArray) (a0_1 : Int) (a0_2 : Int) (a0_3 : Int) (a0_4 : ByteArray) (a0_5 : ByteArray) (a0_6 : Int) (r : Bool) (w : World) (h : pinfoldref1_RrMay.f a0_0 a0_1 a0_2 a0_3 a0_4 a0_5 a0_6 = some r) :
  Calls Tryd.prog 70 #[.agg #[.string a0_0, .int .i64 a0_1, .int .i64 a0_2, .int .i64 a0_3, .string a0_4, .string a0_5, .int .i64 a0_6]] w fun e w' => e = .returned (.bool r) ∧ Below w.heap.size w w' := by
 unfold pinfoldref1_RrMay.f at h
 by_cases hs : a0_0.size ≤ 8796093022000 ∧ a0_4.size ≤ 8796093022000
 rotate_left
 ·rw [if_neg hs] at h
  cases h
 rw [if_pos hs] at h
 have HR := am_ (e5_ h)
 obtain ⟨n0, h0⟩ : ∃ b, nameB (bytesOf a0_0) = b := ⟨_, rfl⟩
 obtain ⟨n4, h4⟩ : ∃ b, nameB (bytesOf a0_4) = b := ⟨_, rfl⟩
 have C0 := am_ (fun W => pinfoldref1_NameMay_c.calls a0_0 n0 W (by unfold pinfoldref1_NameMay_c.f; rw [if_pos hs.1, h0]))
 have C4 := am_ (fun W => pinfoldref1_NameMay_c.calls a0_4 n4 W (by unfold pinfoldref1_NameMay_c.f; rw [if_pos hs.2, h4]))
 have Cw := am_ (fun x W => pinfoldref1_within_c.calls x 32 (wordB x) W rfl)
 have H0 := am_ h0
 have H4 := am_ h4
 clear h hs h0 h4
 have T4 := am_ (show a0_4.toList = [] → n4 = true from fun e => by rw [← H4.out, show bytesOf a0_4 = [] from List.length_eq_zero_iff.1 (by rw [bytesOf_length]; exact (toList_nil _).1 e)]; rfl)
 have T5 := am_ (show a0_5.toList = [] → a0_5.size = 0 from fun e => (toList_nil _).1 e)
 have HB := am_ (Below.refl w.heap.size w)
 go_enter Tryd.func70, Tryd.ntmps70
 go_wp2_with (first
  | (go_at_call 33; first | ((with_reducible refine (C0.out _).mono ?_); rintro e w1 ⟨rfl, hb1⟩; have hy1 : w.heap.size < w1.heap.size := (by have := hb1.size; simp at this; omega); have hk1 := kept_ hb1 w.heap.size (by first | (simp; done) | (simp; omega)); replace HB := am_ (bt_ (show Below w.heap.size w _ by repeat (with_reducible first | exact HB.out | apply p3_ | apply p1_ | apply p2_ | refine Below.setCell ?_ (by simp) _)) hb1); clear hb1) | ((with_reducible refine (C4.out _).mono ?_); rintro e w2 ⟨rfl, hb2⟩; have hy2 : w.heap.size < w2.heap.size := (by have := hb2.size; simp at this; omega); have hk2 := kept_ hb2 w.heap.size (by first | (simp; done) | (simp; omega)); replace HB := am_ (bt_ (show Below w.heap.size w _ by repeat (with_reducible first | exact HB.out | apply p3_ | apply p1_ | apply p2_ | refine Below.setCell ?_ (by simp) _)) hb2); clear hb2))
  | (go_at_call 79; (with_reducible refine (Cw.out _ _).mono ?_); rintro e w3 ⟨rfl, ⟨nd, rfl⟩⟩))
 all_goals go_ret
 all_goals refine ⟨ret_bool ?_, ?_⟩
 all_goals first
  | ((repeat (with_reducible first | exact HB.out | apply p3_ | apply p1_ | apply p2_ | refine Below.setCell ?_ (by simp) _)); done)
  | (have e0 := H0.out; have e4 := H4.out; have t4 := T4.out; have t5 := T5.out; have w0 : wordB 0 = true := rfl; rw [← HR.out]; simp only [rrB, e0, e4]; clear HR C0 C4 Cw H0 H4; simp_all <;> omega)

end Go.Proofs.YtibalpbkmgegnaaDoor.PN
