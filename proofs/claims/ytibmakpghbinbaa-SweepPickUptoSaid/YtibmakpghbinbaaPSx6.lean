-- Made by wip/pr.py out of the translation (a turned copy of the kit's print; contracts by hand where said).
import Derived.Test.YtibmakpghbinbaaPSx0
import Derived.Test.YtibmakpghbinbaaPSx2
import Derived.Test.YtibmakpghbinbaaPSx5
namespace Go.Proofs.Ytibmakpghbinbaa.PS
open Go.RowKit Go.Proofs.YtibmakpghbinbaaW.PrintWords Go.Proofs.YtibmakpghbinbaaW.PrintLast Go.Proofs.YtibmakpghbinbaaW.PrintMore
-- shrunk
attribute [local go_sem] max2_int min2_int max_two min_two max_three min_three max_four min_four   -- for this text's walks alone
set_option linter.unusedVariables false
set_option linter.unusedSimpArgs false

/-! ### pinfoldref1_NameMay_c: function 82 -/
-- inc refname.inc
theorem cutL_len : ∀ l, (cutL l).length ≤ l.length + 1
 | [] => by simp [cutL]
 | b :: l => by
  have ih := cutL_len l
  have hn := cutL_ne l
  unfold cutL
  split
  ·simp only [List.length_cons]; omega
  ·cases hc : cutL l with
   | nil => exact absurd hc hn
   | cons q qs =>
    rw [hc] at ih
    simp only [glue, List.length_cons] at ih ⊢
    omega
theorem extract_end (s : ByteArray) (a b : Nat) (h : b ≤ a) : bytesOf (s.extract a b) = [] := by
 rw [bytesOf_extract, show b - a = 0 by omega, List.take_zero]
theorem extract_next (s : ByteArray) (a b : Nat) (h : a ≤ b) (hb : b < s.size) : bytesOf (s.extract a (b + 1)) = bytesOf (s.extract a b) ++ [bt s b] := by
 rw [bytesOf_extract, bytesOf_extract, show b + 1 - a = (b - a) + 1 by omega, List.take_succ_eq_append_getElem (by rw [List.length_drop, bytesOf_length]; omega)]
 congr 1
 have := drop_cons s b hb
 rw [show b = a + (b - a) by omega, ← List.drop_drop] at this
 rw [List.drop_eq_getElem_cons (by rw [List.length_drop, bytesOf_length]; omega)] at this
 rw [List.cons.injEq] at this
 rw [this.1, show a + (b - a) = b by omega]

theorem reflabel_loop (s : ByteArray) (hs : s.size ≤ 4611686018427387904) (d : Nat) : ∀ (k i : Nat), i + d = s.size → d < k →
  pinfoldref1_labelMay.l0 k s (i : Int) = some (((bytesOf s).drop i).all letterB && decide (1 ≤ s.size ∧ s.size ≤ 8)) := by
 have key : ∀ (x : Option Bool) (b : Int), (if b < 97 then (if b < 48 then (if b = 45 then x else some false) else (if b > 57 then (if b = 45 then x else some false) else x)) else (if b > 122 then (if b < 48 then (if b = 45 then x else some false) else (if b > 57 then (if b = 45 then x else some false) else x)) else x)) = if letterB b = true then x else some false := by
  intro x b
  unfold letterB
  simp only [decide_eq_true_eq]
  repeat' split
  all_goals first
   | rfl
   | (exfalso; omega)
 induction d with
 | zero =>
  intro k i hi hk
  obtain ⟨k, rfl⟩ : ∃ m, k = m + 1 := ⟨k - 1, by omega⟩
  rw [pinfoldref1_labelMay.l0, if_neg (by omega), drop_end s i (by omega)]
  simp only [List.all_nil, Bool.true_and]
  split
  ·congr 1
   rw [Bool.eq_iff_iff]
   simp only [decide_eq_true_eq]
   omega
  ·congr 1
   symm
   rw [decide_eq_false_iff_not]
   omega
 | succ d ih =>
  intro k i hi hk
  obtain ⟨k, rfl⟩ : ∃ m, k = m + 1 := ⟨k - 1, by omega⟩
  rw [pinfoldref1_labelMay.l0, if_pos (by omega), if_pos (by omega), key, drop_cons s i (by omega)]
  simp only [List.all_cons]
  cases letterB (bt s i) with
  | true =>
   rw [if_pos rfl, w64 (by omega)]
   have := ih k (i + 1) (by omega) (by omega)
   rw [show ((i : Int) + 1) = ((i + 1 : Nat) : Int) by omega, this]
   simp
  | false => simp
theorem reflabel_eq (k : Nat) (s : ByteArray) (hs : s.size ≤ 4611686018427387904) (hk : s.size < k) : pinfoldref1_labelMay.f k s = some (labelB (bytesOf s)) := by
 unfold pinfoldref1_labelMay.f
 have := reflabel_loop s hs s.size k 0 (by omega) hk
 rw [show ((0 : Nat) : Int) = 0 by rfl] at this
 rw [this]
 unfold labelB
 rw [List.drop_zero, bytesOf_length]

theorem parts_loop (s : ByteArray) (hs : s.size ≤ 140737488351232) (d : Nat) : ∀ (k i f : Nat) (out : List ByteArray), i + d = s.size → d + 2 ≤ k → f ≤ i → out.length + d + 1 ≤ 8796093022208 →
  ∃ r, pinfoldref1_parts.l0 k s out (f : Int) (i : Int) = some (out ++ r) ∧ r.map bytesOf = glue (bytesOf (s.extract f i)) (cutL ((bytesOf s).drop i)) ∧ ∀ x ∈ r, x.size ≤ s.size := by
 induction d with
 | zero =>
  intro k i f out hi hk hf ho
  obtain ⟨k, rfl⟩ : ∃ m, k = m + 2 := ⟨k - 2, by omega⟩
  refine ⟨[s.extract f i], ?_, ?_, ?_⟩
  ·rw [pinfoldref1_parts.l0, if_pos (by omega), if_pos (by omega), if_pos (by omega), if_pos (by omega), if_pos (by omega), w64 (by omega), pinfoldref1_parts.l0, if_neg (by omega), Int.toNat_natCast, Int.toNat_natCast]
  ·rw [drop_end s i (by omega)]
   simp [cutL, glue]
  ·intro x hx
   rw [List.mem_singleton.1 hx, ByteArray.size_extract]
   omega
 | succ d ih =>
  intro k i f out hi hk hf ho
  obtain ⟨k, rfl⟩ : ∃ m, k = m + 1 := ⟨k - 1, by omega⟩
  rw [pinfoldref1_parts.l0, if_pos (by omega), if_neg (by omega), if_pos (by omega), if_pos (by omega), drop_cons s i (by omega)]
  by_cases hp : bt s i = 46
  ·obtain ⟨r, h1, h2, h3⟩ := ih k (i + 1) (i + 1) (out ++ [s.extract f i]) (by omega) (by omega) (by omega) (by rw [List.length_append, List.length_singleton]; omega)
   refine ⟨s.extract f i :: r, ?_, ?_, ?_⟩
   ·rw [if_pos hp, if_pos (by omega), if_pos (by omega), if_pos (by omega), w64 (by omega), Int.toNat_natCast, Int.toNat_natCast, show ((i : Int) + 1) = ((i + 1 : Nat) : Int) by omega, h1, List.append_assoc]
    rfl
   ·rw [extract_end s (i + 1) (i + 1) (Nat.le_refl _), glue_nil _ (cutL_ne _)] at h2
    rw [List.map_cons, h2, hp, cutL_point]
    simp [glue]
   ·intro x hx
    rcases List.mem_cons.1 hx with rfl | hx
    ·rw [ByteArray.size_extract]
     omega
    ·exact h3 x hx
  ·obtain ⟨r, h1, h2, h3⟩ := ih k (i + 1) f out (by omega) (by omega) (by omega) (by omega)
   refine ⟨r, ?_, ?_, h3⟩
   ·rw [if_neg hp, w64 (by omega), show ((i : Int) + 1) = ((i + 1 : Nat) : Int) by omega, h1]
   ·rw [h2, cutL_other _ _ hp, extract_next s f i hf (by omega), glue_glue]
theorem parts_eq (k : Nat) (s : ByteArray) (hs : s.size ≤ 8796093022000) (hk : s.size + 2 ≤ k) :
  ∃ r, pinfoldref1_parts.f k s = some r ∧ r.map bytesOf = cutL (bytesOf s) ∧ ∀ x ∈ r, x.size ≤ s.size := by
 obtain ⟨r, h1, h2, h3⟩ := parts_loop s (by omega) s.size k 0 0 [] (by omega) hk (by omega) (by simp only [List.length_nil]; omega)
 refine ⟨r, ?_, ?_, h3⟩
 ·unfold pinfoldref1_parts.f
  rw [show ((0 : Nat) : Int) = 0 by rfl, List.nil_append] at h1
  exact h1
 ·rw [h2, extract_end s 0 0 (Nat.le_refl _), glue_nil _ (cutL_ne _), List.drop_zero]

theorem refname_loop (r : List ByteArray) (m : Nat) (hr : ∀ x ∈ r, x.size ≤ m) (hm : m ≤ 140737488351232) (hl : r.length ≤ 140737488351232) (d : Nat) : ∀ (k i : Nat), i + d = r.length → d + m + 2 ≤ k →
  pinfoldref1_NameMay.l0 k r (i : Int) = some (((r.map bytesOf).drop i).all labelB && decide (r.length ≤ 8)) := by
 induction d with
 | zero =>
  intro k i hi hk
  obtain ⟨k, rfl⟩ : ∃ j, k = j + 1 := ⟨k - 1, by omega⟩
  rw [pinfoldref1_NameMay.l0, if_neg (by omega), List.drop_eq_nil_of_le (by rw [List.length_map]; omega), List.all_nil, Bool.true_and]
  congr 1
  rw [Bool.eq_iff_iff]
  simp only [decide_eq_true_eq]
  omega
 | succ d ih =>
  intro k i hi hk
  obtain ⟨k, rfl⟩ : ∃ j, k = j + 1 := ⟨k - 1, by omega⟩
  have hil : i < r.length := by omega
  have e : rdOf ByteArray.empty r (i : Int) = r[i] := by
   unfold rdOf
   rw [Int.toNat_natCast, List.getD_eq_getElem?_getD, List.getElem?_eq_getElem hil]
   rfl
  have hx := hr r[i] (List.getElem_mem hil)
  rw [pinfoldref1_NameMay.l0, if_pos (by omega), if_pos (by omega), e, reflabel_eq k r[i] (by omega) (by omega), List.drop_eq_getElem_cons (by rw [List.length_map]; exact hil), List.all_cons, List.getElem_map]
  simp only [Option.bind_some]
  cases labelB (bytesOf r[i]) with
  | true =>
   rw [if_pos rfl, w64 (by omega), show ((i : Int) + 1) = ((i + 1 : Nat) : Int) by omega, ih k (i + 1) (by omega) (by omega), Bool.true_and]
  | false => rfl
/-- what the document says of a name. -/
theorem refname_eq (k : Nat) (s : ByteArray) (hs : s.size ≤ 8796093022000) (hk : 2 * s.size + 10 ≤ k) : pinfoldref1_NameMay.f k s = some (nameB (bytesOf s)) := by
 unfold pinfoldref1_NameMay.f nameB
 by_cases h : s.size = 0
 ·have hz : bytesOf s = [] := List.length_eq_zero_iff.1 (by rw [bytesOf_length]; omega)
  rw [if_pos ((toList_nil s).2 h), hz]
  rfl
 ·have hz : bytesOf s ≠ [] := fun e => h (by rw [← bytesOf_length, e]; rfl)
  obtain ⟨r, h1, h2, h3⟩ := parts_eq k s hs (by omega)
  have hl : r.length = (cutL (bytesOf s)).length := by rw [← h2, List.length_map]
  have hc := cutL_len (bytesOf s)
  rw [bytesOf_length] at hc
  have := refname_loop r s.size h3 (by omega) (by omega) r.length k 0 (by omega) (by omega)
  rw [show ((0 : Nat) : Int) = 0 by rfl] at this
  rw [if_neg (fun e => h ((toList_nil s).1 e)), h1, Option.bind_some, this, List.drop_zero, h2, decide_eq_false hz, Bool.false_or, hl]
def pinfoldref1_NameMay_c.f (a0 : ByteArray) : Option Bool := if a0.size ≤ 8796093022000 then some (nameB (bytesOf a0)) else none
theorem pinfoldref1_NameMay_c.calls (a0 : ByteArray) (r : Bool) (w : World) (h : pinfoldref1_NameMay_c.f a0 = some r) :
  Calls Try.prog 82 #[.string a0] w fun e w' => e = .returned (.bool r) ∧ Below w.heap.size w w' := by
 unfold pinfoldref1_NameMay_c.f at h
 by_cases hs : a0.size ≤ 8796093022000
 ·rw [if_pos hs] at h
  obtain rfl := e5_ h
  exact pinfoldref1_NameMay.calls (2 * a0.size + 10) a0 _ w (refname_eq _ a0 hs (Nat.le_refl _))
 ·rw [if_neg hs] at h
  cases h

/-! ### pinfoldref11_LeaseMay: function 60 -/
-- BY HAND
-- 82
def pinfoldref11_LeaseMay_c.f (a0_0 : Int) (a0_1 : Int) (a0_2 : ByteArray) (a0_3 : Int) (a0_4 : ByteArray) (a0_5 : Bool) : Option Bool := if a0_4.size ≤ 8796093022000 then some (leaseB a0_0 a0_1 a0_2 a0_3 a0_4 a0_5) else none
set_option maxHeartbeats 8000000 in
set_option maxRecDepth 100000 in
theorem pinfoldref11_LeaseMay_c.calls (a0_0 : Int) (a0_1 : Int) (a0_2 : ByteArray) (a0_3 : Int) (a0_4 : ByteArray) (a0_5 : Bool) (r : Bool) (w : World) (h : pinfoldref11_LeaseMay_c.f a0_0 a0_1 a0_2 a0_3 a0_4 a0_5 = some r) :
  Calls Try.prog 60 #[.agg #[.int .i64 a0_0, .int .i64 a0_1, .string a0_2, .int .i64 a0_3, .string a0_4, .bool a0_5]] w fun e w' => e = .returned (.bool r) ∧ Below w.heap.size w w' := by
 unfold pinfoldref11_LeaseMay_c.f at h
 by_cases hs : a0_4.size ≤ 8796093022000
 rotate_left
 ·rw [if_neg hs] at h
  cases h
 rw [if_pos hs] at h
 replace h := e5_ h
 obtain ⟨b1, h1⟩ : ∃ b, nameB (bytesOf a0_4) = b := ⟨_, rfl⟩
 unfold leaseB at h
 rw [h1] at h
 have C1 := am_ (fun W => pinfoldref1_NameMay_c.calls a0_4 b1 W (by unfold pinfoldref1_NameMay_c.f; rw [if_pos hs, h1]))
 have HB := am_ (Below.refl w.heap.size w)
 have BX := am_ (blk_new w (.cells #[.int .i64 a0_0, .int .i64 a0_1, .string a0_2, .int .i64 a0_3, .string a0_4, .bool a0_5] 37))
 have v0 := bc_ BX.out 0; have v1 := bc_ BX.out 1; have v2 := bc_ BX.out 2; have v3 := bc_ BX.out 3; have v4 := bc_ BX.out 4; have v5 := bc_ BX.out 5
 clear h1 hs
 by_cases hA : ((2 ≤ a0_0 ∧ a0_0 ≤ 254) ∧ (0 ≤ a0_1 ∧ a0_1 ≤ 3) ∧ a0_2.size ≤ 16 ∧ (0 ≤ a0_3 ∧ a0_3 ≤ 1099511627776) ∧ b1 = true)
 rotate_left
 ·have HF := am_ (show false = r by
   rw [← h, eq_comm, Bool.eq_false_iff]
   intro e
   simp only [Bool.and_eq_true, decide_eq_true_eq] at e
   refine hA ⟨e.1.1.1.1, ?_, e.1.1.2, e.1.2, e.2⟩
   have h := e.1.1.1.2
   unfold stateB at h
   by_cases q0 : a0_1 = 0 ∨ a0_1 = 3
   ·omega
   rw [if_neg q0] at h
   by_cases q1 : a0_1 = 1
   ·omega
   rw [if_neg q1] at h
   by_cases q2 : a0_1 = 2
   ·omega
   rw [if_neg q2] at h
   cases h)
  have hA2 := am_ hA
  clear h hA
  go_enter Try.func60, Try.ntmps60
  go_wp2_with (first | (go_at_call 82; (with_reducible refine (C1.out _).mono ?_); rintro e w1 ⟨rfl, hb2⟩; replace BX := am_ (kb_ (show _ from (by (with_reducible repeat (first | exact BX.out | refine k2_ ?_ _ | refine k3_ ?_ | refine k1_ ?_ _)))) hb2); replace HB := am_ (bt_ (show Below w.heap.size w _ from (by repeat (with_reducible first | exact HB.out | apply p3_ | apply p1_ | apply p2_))) hb2); clear hb2; clear v0 v1 v2 v3 v4 v5; have v0 := bc_ BX.out 0; have v1 := bc_ BX.out 1; have v2 := bc_ BX.out 2; have v3 := bc_ BX.out 3; have v4 := bc_ BX.out 4; have v5 := bc_ BX.out 5))
  all_goals (try go_ret)
  all_goals first
   | exact ⟨ret_bool HF.out, (by repeat (with_reducible first | exact HB.out | apply p3_ | apply p1_ | apply p2_))⟩
   | (exfalso; refine hA2.out ⟨⟨?_, ?_⟩, ⟨?_, ?_⟩, ?_, ⟨?_, ?_⟩, ?_⟩ <;> first | omega | assumption | (simp_all; done) | (simp_all; omega))
 obtain ⟨⟨g1, g2⟩, ⟨g3, g4⟩, g5, ⟨g6, g7⟩, rfl⟩ := hA
 rw [decide_eq_true (show 2 ≤ a0_0 ∧ a0_0 ≤ 254 from ⟨g1, g2⟩), decide_eq_true g5, decide_eq_true (show 0 ≤ a0_3 ∧ a0_3 ≤ 1099511627776 from ⟨g6, g7⟩), Bool.and_true, Bool.and_true, Bool.and_true, Bool.true_and] at h
 have d1 : decide (a0_0 < 2) = false := decide_eq_false (by omega)
 have d2 : decide (254 < a0_0) = false := decide_eq_false (by omega)
 have d5 : decide (16 < (a0_2.size : Int)) = false := decide_eq_false (by omega)
 have d6 : decide (a0_3 < 0) = false := decide_eq_false (by omega)
 have d7 : decide (1099511627776 < a0_3) = false := decide_eq_false (by omega)
 obtain ⟨c2, hc2⟩ : ∃ c, a0_2.toList.isEmpty = c := ⟨_, rfl⟩
 obtain ⟨c4, hc4⟩ : ∃ c, a0_4.toList.isEmpty = c := ⟨_, rfl⟩
 have e2 : decide (a0_2.toList = []) = c2 := by rw [← hc2]; cases a0_2.toList <;> rfl
 have e4 : decide (a0_4.toList = []) = c4 := by rw [← hc4]; cases a0_4.toList <;> rfl
 have e2n : decide (a0_2.toList ≠ []) = !c2 := by rw [← hc2]; cases a0_2.toList <;> rfl
 have e4n : decide (a0_4.toList ≠ []) = !c4 := by rw [← hc4]; cases a0_4.toList <;> rfl
 have e2b : (a0_2.toList == []) = c2 := by rw [← hc2]; cases a0_2.toList <;> rfl
 have e4b : (a0_4.toList == []) = c4 := by rw [← hc4]; cases a0_4.toList <;> rfl
 unfold stateB at h
 rw [e4, e2n, e4n] at h
 clear e2 e4 e2n e4n g1 g2 g5 g6 g7
 have hst : a0_1 = 0 ∨ a0_1 = 1 ∨ a0_1 = 2 ∨ a0_1 = 3 := by omega
 clear g3 g4
 rcases hst with rfl | rfl | rfl | rfl <;> cases c2 <;> cases c4 <;> cases a0_5
 all_goals
  have HF := am_ h
  clear h
  go_enter Try.func60, Try.ntmps60
  go_wp2_with (first | (go_at_call 82; (with_reducible refine (C1.out _).mono ?_); rintro e w1 ⟨rfl, hb2⟩; replace BX := am_ (kb_ (show _ from (by (with_reducible repeat (first | exact BX.out | refine k2_ ?_ _ | refine k3_ ?_ | refine k1_ ?_ _)))) hb2); replace HB := am_ (bt_ (show Below w.heap.size w _ from (by repeat (with_reducible first | exact HB.out | apply p3_ | apply p1_ | apply p2_))) hb2); clear hb2; clear v0 v1 v2 v3 v4 v5; have v0 := bc_ BX.out 0; have v1 := bc_ BX.out 1; have v2 := bc_ BX.out 2; have v3 := bc_ BX.out 3; have v4 := bc_ BX.out 4; have v5 := bc_ BX.out 5))
  go_ret
  exact ⟨ret_bool (by rw [← HF.out]; rfl), HB.out⟩

/-! ### pinfoldref11_TableMay: function 26 -/
-- BY HAND
-- 60
def hostAheadR (l : List S37) (i : Nat) : Option Int := if i = 0 then none else some (rd_T37 l ((i - 1 : Nat) : Int)).f0
def pinfoldref11_TableMay.S (pb : Addr) (x0 x1 : Int) (x2 : ByteArray) (x3 : Int) (x4 : ByteArray) (x5 : Bool) (pa : Addr) (y0 : Int) (w' : World) : Prop := w'.cell? pb = some (.int .i64 x0) ∧ w'.cell? ⟨pb.block, pb.off + 1, none⟩ = some (.int .i64 x1) ∧ w'.cell? ⟨pb.block, pb.off + 2, none⟩ = some (.string x2) ∧ w'.cell? ⟨pb.block, pb.off + 3, none⟩ = some (.int .i64 x3) ∧ w'.cell? ⟨pb.block, pb.off + 4, none⟩ = some (.string x4) ∧ w'.cell? ⟨pb.block, pb.off + 5, none⟩ = some (.bool x5) ∧ w'.cell? pa = some (.int .i64 y0)
theorem pinfoldref11_TableMay.S_below {w w2 : World} {pb : Addr} {x0 x1 : Int} {x2 : ByteArray} {x3 : Int} {x4 : ByteArray} {x5 : Bool} {pa : Addr} {y0 : Int} (h : pinfoldref11_TableMay.S pb x0 x1 x2 x3 x4 x5 pa y0 w) (hb : Below w.heap.size w w2) : pinfoldref11_TableMay.S pb x0 x1 x2 x3 x4 x5 pa y0 w2 := by
 obtain ⟨s0, s1, s2, s3, s4, s5, s6⟩ := h
 exact ⟨(hb.cell (wb_ _ _ s0)).trans s0, (hb.cell (wb_ _ _ s1)).trans s1, (hb.cell (wb_ _ _ s2)).trans s2, (hb.cell (wb_ _ _ s3)).trans s3, (hb.cell (wb_ _ _ s4)).trans s4, (hb.cell (wb_ _ _ s5)).trans s5, (hb.cell (wb_ _ _ s6)).trans s6⟩
def pinfoldref11_TableMay_c.f (l0 : List S37) : Option Bool := if tabFitR l0 then some (tableB l0) else none
set_option maxHeartbeats 8000000 in
set_option maxRecDepth 100000 in
theorem pinfoldref11_TableMay_c.calls (A0 : Option Addr) (c0 : Nat) (l0 : List S37) (r : Bool) (w : World) (hr0 : Kd.C k37 w A0 l0.length l0) (hc0 : l0.length ≤ c0) (h : pinfoldref11_TableMay_c.f l0 = some r) :
  Calls Try.prog 26 #[.slice A0 l0.length c0] w fun e w' => e = .returned (.bool r) ∧ Below w.heap.size w w' := by
 unfold pinfoldref11_TableMay_c.f at h
 by_cases hs : tabFitR l0
 rotate_left
 ·rw [if_neg hs] at h
  cases h
 rw [if_pos hs] at h
 have HT := am_ (show (goTab (hostAheadR l0 (0 : Int).toNat) (l0.drop (0 : Int).toNat) && decide (l0.length ≤ 8)) = r from e5_ h)
 have hl := hs.1
 have HX := am_ hs.2
 have HR := am_ hr0
 have HB := am_ (Below.refl w.heap.size w)
 clear h hs hr0 hc0
 go_enter Try.func26, Try.ntmps26
 go_wp2
 go_loopg [3] l0.length (fun d v w' => ∃ i : Int, 0 ≤ i ∧ i.toNat + d = l0.length ∧ v = .int .i64 i ∧ Aside0 (Below w.heap.size w w') ∧ Aside0 ((goTab (hostAheadR l0 i.toNat) (l0.drop i.toNat) && decide (l0.length ≤ 8)) = r))
 case atStart => exact ⟨0, by omega, by simp, rfl, HB, HT⟩
 case round =>
  clear HB HT
  obtain ⟨i, hi0, hd, rfl, HB, HT⟩ := hrel
  by_cases hlt : i < (l0.length : Int)
  ·obtain ⟨ad, e1, hw0, hw1, hw2, hw3, hw4, hw5⟩ := at_T37 HR.out i hi0 hlt
   cases e1
   have hx0 := (HB.out.cell (wb_ w _ hw0)).trans hw0; have hx1 := (HB.out.cell (wb_ w _ hw1)).trans hw1; have hx2 := (HB.out.cell (wb_ w _ hw2)).trans hw2; have hx3 := (HB.out.cell (wb_ w _ hw3)).trans hw3; have hx4 := (HB.out.cell (wb_ w _ hw4)).trans hw4; have hx5 := (HB.out.cell (wb_ w _ hw5)).trans hw5
   have hd1 := dropLease l0 i hi0 hlt
   have hsz := HX.out _ hd1.2
   have hst := HT.out
   rw [hd1.1] at hst
   have hnx : hostAheadR l0 (i.toNat + 1) = some (rd_T37 l0 i).f0 := by
    unfold hostAheadR
    rw [if_neg (by omega), Nat.add_sub_cancel, Int.toNat_of_nonneg hi0]
   have hi2 : (i + 1).toNat = i.toNat + 1 := by omega
   have hpv : ¬ i = 0 → ∃ j y, wrap64 (i - 1) = j ∧ 0 ≤ j ∧ j < (l0.length : Int) ∧ hostAheadR l0 i.toNat = some y ∧ w.cell? (ad.add (j.toNat * 6)) = some (.int .i64 y) := by
    intro h0
    have h1 : wrap64 (i - 1) = i - 1 := by unfold wrap64; omega
    obtain ⟨ad2, e2, hy0, _⟩ := at_T37 HR.out (i - 1) (by omega) (by omega)
    cases e2
    refine ⟨i - 1, _, h1, by omega, by omega, ?_, hy0⟩
    unfold hostAheadR
    rw [if_neg (by omega), show ((i.toNat - 1 : Nat) : Int) = i - 1 by omega]
   generalize rd_T37 l0 i = x at hw0 hw1 hw2 hw3 hw4 hw5 hx0 hx1 hx2 hx3 hx4 hx5 hsz hst hnx
   clear hd1 HT
   obtain ⟨x0, x1, x2, x3, x4, x5⟩ := x
   simp only at hw0 hw1 hw2 hw3 hw4 hw5 hx0 hx1 hx2 hx3 hx4 hx5 hsz hst hnx
   obtain ⟨b1, h1⟩ : ∃ b, leaseB x0 x1 x2 x3 x4 x5 = b := ⟨_, rfl⟩
   have hst2 : ((b1 && (above (hostAheadR l0 i.toNat) x0 && goTab (some x0) (l0.drop (i.toNat + 1)))) && decide (l0.length ≤ 8)) = r := by rw [← h1]; exact hst
   rw [← hnx, ← hi2] at hst2
   clear hst hnx
   have CM := am_ (fun W => pinfoldref11_LeaseMay_c.calls x0 x1 x2 x3 x4 x5 b1 W (by unfold pinfoldref11_LeaseMay_c.f; rw [if_pos hsz, h1]))
   have H1 := am_ (show 0 ≤ i + 1 by omega)
   have H2 := am_ (show (i + 1).toNat + (l0.length - (i.toNat + 1)) = l0.length by omega)
   have H3 := am_ (show l0.length - (i.toNat + 1) < gk by omega)
   have H4 := am_ (show IntKind.i64.wrap (i + 1) = i + 1 from (i64_w _).trans (by unfold wrap64; omega))
   have H6 := am_ (fun (h : i = 0) => show i.toNat = 0 by rw [h]; rfl)
   have H5 := am_ (fun (h : ¬ i = 0) => show 0 < i by omega)
   replace hi0 := am_ hi0
   replace hd := am_ hd
   replace hl := am_ hl
   have clt := decide_eq_true hlt
   have cle := decide_eq_true hi0.out
   have plt := eq_true hlt
   have ple := eq_true hi0.out
   clear h1 hlt
   cases b1 with
   | false =>
    have HF := am_ (show false = r by rw [← hst2]; rfl)
    clear hst2 hpv hi2
    go_wp2_with fail
    have HB1 := am_ (below_drew HB.out)
    refine seqS (S := pinfoldref11_TableMay.S (ad.add (i.toNat * 6)) x0 x1 x2 x3 x4 x5 (ad.add (i.toNat * 6)) x0) 24 (by kernel_rfl) rfl rfl (by unfold pinfoldref11_TableMay.S; exact ⟨(HB1.out.cell (wb_ w _ hw0)).trans hw0, (HB1.out.cell (wb_ w _ hw1)).trans hw1, (HB1.out.cell (wb_ w _ hw2)).trans hw2, (HB1.out.cell (wb_ w _ hw3)).trans hw3, (HB1.out.cell (wb_ w _ hw4)).trans hw4, (HB1.out.cell (wb_ w _ hw5)).trans hw5, (HB1.out.cell (wb_ w _ hw0)).trans hw0⟩) ?_
    intro hHeld
    clear hx0 hx1 hx2 hx3 hx4 hx5 hw0 hw1 hw2 hw3 hw4 hw5 HB
    iterate 4 first | (refine seqP (v := ?_) (a' := ?_) rfl rfl (by kernel_rfl) (fun _ _ _ h => h) (Or.inl ⟨by kernel_rfl, ?_⟩) ?_ ?_; rotate_left; (intro w'; go_simp; with_reducible rfl); rotate_left; (simp only [Act.put, sa_, sb_, sc_, i64_w, i32_w]; rfl)) | (refine seqL (v := ?_) (a' := ?_) rfl rfl (by kernel_rfl) (fun _ _ _ h => h) (Or.inl ⟨by kernel_rfl, ?_⟩) hHeld ?_ ?_; rotate_left; (rintro w' ⟨s0, s1, s2, s3, s4, s5, s6⟩; go_simp; with_reducible rfl); rotate_left; (simp only [Act.put, sa_, sb_, sc_, i64_w, i32_w]; rfl))
    refine seqG (fn := Try.f60) rfl rfl (by kernel_rfl) rfl Try.func60 (by kernel_rfl) (by kernel_rfl) #[.agg #[.int .i64 x0, .int .i64 x1, .string x2, .int .i64 x3, .string x4, .bool x5]] (by kernel_rfl) (by (try simp only [List.map_toArray, List.map_cons, List.map_nil]); first | done | rfl) ?_
    with_reducible refine (CM.out _).mono ?_
    rintro e wg ⟨rfl, hb2⟩
    have HB2 := am_ (bt_ HB1.out hb2)
    refine ⟨_, rfl, pinfoldref11_TableMay.S_below hHeld hb2, fun hHeld => ⟨?_, ?_, ?_⟩⟩
    rotate_left
    ·simp only [Act.put, sa_, sb_, sc_, i64_w, i32_w]
     rfl
    clear hb2 HB1 CM
    iterate 2 first | (refine seqP (v := ?_) (a' := ?_) rfl rfl (by kernel_rfl) (fun _ _ _ h => h) (Or.inl ⟨by kernel_rfl, ?_⟩) ?_ ?_; rotate_left; (intro w'; go_simp; with_reducible rfl); rotate_left; (simp only [Act.put, sa_, sb_, sc_, i64_w, i32_w]; rfl)) | (refine seqL (v := ?_) (a' := ?_) rfl rfl (by kernel_rfl) (fun _ _ _ h => h) (Or.inl ⟨by kernel_rfl, ?_⟩) hHeld ?_ ?_; rotate_left; (rintro w' ⟨s0, s1, s2, s3, s4, s5, s6⟩; go_simp; with_reducible rfl); rotate_left; (simp only [Act.put, sa_, sb_, sc_, i64_w, i32_w]; rfl))
    iterate 16 (refine seqP (v := undef) (a' := ?_) rfl rfl (by kernel_rfl) (fun _ _ _ h => h) (Or.inr ⟨by kernel_rfl, rfl⟩) ?_ ?_; rotate_left; (simp only [Act.put, sa_, sb_, sc_, i64_w, i32_w]; rfl))
    iterate 1 first | (refine seqP (v := ?_) (a' := ?_) rfl rfl (by kernel_rfl) (fun _ _ _ h => h) (Or.inl ⟨by kernel_rfl, ?_⟩) ?_ ?_; rotate_left; (intro w'; go_simp; with_reducible rfl); rotate_left; (simp only [Act.put, sa_, sb_, sc_, i64_w, i32_w]; rfl)) | (refine seqL (v := ?_) (a' := ?_) rfl rfl (by kernel_rfl) (fun _ _ _ h => h) (Or.inl ⟨by kernel_rfl, ?_⟩) hHeld ?_ ?_; rotate_left; (rintro w' ⟨s0, s1, s2, s3, s4, s5, s6⟩; go_simp; with_reducible rfl); rotate_left; (simp only [Act.put, sa_, sb_, sc_, i64_w, i32_w]; rfl))
    refine seqE (by kernel_rfl) ?_
    go_wp2
    go_ret
    exact ⟨ret_bool (HF.out), HB2.out⟩
   | true =>
   rw [Bool.true_and] at hst2
   by_cases hp : i = 0
   ·have cp : decide (0 < i) = false := decide_eq_false (by omega)
    have HN := am_ (show (goTab (hostAheadR l0 (i + 1).toNat) (l0.drop (i + 1).toNat) && decide (l0.length ≤ 8)) = r by rw [← hst2, show hostAheadR l0 i.toNat = none by unfold hostAheadR; rw [if_pos (H6.out hp)], show above none x0 = true from rfl, Bool.true_and])
    replace hp := am_ hp
    clear hst2 hpv hi2
    go_wp2_with fail
    have HB1 := am_ (below_drew HB.out)
    refine seqS (S := pinfoldref11_TableMay.S (ad.add (i.toNat * 6)) x0 x1 x2 x3 x4 x5 (ad.add (i.toNat * 6)) x0) 24 (by kernel_rfl) rfl rfl (by unfold pinfoldref11_TableMay.S; exact ⟨(HB1.out.cell (wb_ w _ hw0)).trans hw0, (HB1.out.cell (wb_ w _ hw1)).trans hw1, (HB1.out.cell (wb_ w _ hw2)).trans hw2, (HB1.out.cell (wb_ w _ hw3)).trans hw3, (HB1.out.cell (wb_ w _ hw4)).trans hw4, (HB1.out.cell (wb_ w _ hw5)).trans hw5, (HB1.out.cell (wb_ w _ hw0)).trans hw0⟩) ?_
    intro hHeld
    clear hx0 hx1 hx2 hx3 hx4 hx5 hw0 hw1 hw2 hw3 hw4 hw5 HB
    iterate 4 first | (refine seqP (v := ?_) (a' := ?_) rfl rfl (by kernel_rfl) (fun _ _ _ h => h) (Or.inl ⟨by kernel_rfl, ?_⟩) ?_ ?_; rotate_left; (intro w'; go_simp; with_reducible rfl); rotate_left; (simp only [Act.put, sa_, sb_, sc_, i64_w, i32_w]; rfl)) | (refine seqL (v := ?_) (a' := ?_) rfl rfl (by kernel_rfl) (fun _ _ _ h => h) (Or.inl ⟨by kernel_rfl, ?_⟩) hHeld ?_ ?_; rotate_left; (rintro w' ⟨s0, s1, s2, s3, s4, s5, s6⟩; go_simp; with_reducible rfl); rotate_left; (simp only [Act.put, sa_, sb_, sc_, i64_w, i32_w]; rfl))
    refine seqG (fn := Try.f60) rfl rfl (by kernel_rfl) rfl Try.func60 (by kernel_rfl) (by kernel_rfl) #[.agg #[.int .i64 x0, .int .i64 x1, .string x2, .int .i64 x3, .string x4, .bool x5]] (by kernel_rfl) (by (try simp only [List.map_toArray, List.map_cons, List.map_nil]); first | done | rfl) ?_
    with_reducible refine (CM.out _).mono ?_
    rintro e wg ⟨rfl, hb2⟩
    have HB2 := am_ (bt_ HB1.out hb2)
    refine ⟨_, rfl, pinfoldref11_TableMay.S_below hHeld hb2, fun hHeld => ⟨?_, ?_, ?_⟩⟩
    rotate_left
    ·simp only [Act.put, sa_, sb_, sc_, i64_w, i32_w]
     rfl
    clear hb2 HB1 CM
    iterate 2 first | (refine seqP (v := ?_) (a' := ?_) rfl rfl (by kernel_rfl) (fun _ _ _ h => h) (Or.inl ⟨by kernel_rfl, ?_⟩) ?_ ?_; rotate_left; (intro w'; go_simp; with_reducible rfl); rotate_left; (simp only [Act.put, sa_, sb_, sc_, i64_w, i32_w]; rfl)) | (refine seqL (v := ?_) (a' := ?_) rfl rfl (by kernel_rfl) (fun _ _ _ h => h) (Or.inl ⟨by kernel_rfl, ?_⟩) hHeld ?_ ?_; rotate_left; (rintro w' ⟨s0, s1, s2, s3, s4, s5, s6⟩; go_simp; with_reducible rfl); rotate_left; (simp only [Act.put, sa_, sb_, sc_, i64_w, i32_w]; rfl))
    iterate 3 first | (refine seqP (v := ?_) (a' := ?_) rfl rfl (by kernel_rfl) (fun _ _ _ h => h) (Or.inl ⟨by kernel_rfl, ?_⟩) ?_ ?_; rotate_left; (intro w'; go_simp; with_reducible rfl); rotate_left; (simp only [Act.put, sa_, sb_, sc_, i64_w, i32_w]; rfl)) | (refine seqL (v := ?_) (a' := ?_) rfl rfl (by kernel_rfl) (fun _ _ _ h => h) (Or.inl ⟨by kernel_rfl, ?_⟩) hHeld ?_ ?_; rotate_left; (rintro w' ⟨s0, s1, s2, s3, s4, s5, s6⟩; go_simp; with_reducible rfl); rotate_left; (simp only [Act.put, sa_, sb_, sc_, i64_w, i32_w]; rfl))
    iterate 12 (refine seqP (v := undef) (a' := ?_) rfl rfl (by kernel_rfl) (fun _ _ _ h => h) (Or.inr ⟨by kernel_rfl, rfl⟩) ?_ ?_; rotate_left; (simp only [Act.put, sa_, sb_, sc_, i64_w, i32_w]; rfl))
    iterate 2 first | (refine seqP (v := ?_) (a' := ?_) rfl rfl (by kernel_rfl) (fun _ _ _ h => h) (Or.inl ⟨by kernel_rfl, ?_⟩) ?_ ?_; rotate_left; (intro w'; go_simp; with_reducible rfl); rotate_left; (simp only [Act.put, sa_, sb_, sc_, i64_w, i32_w]; rfl)) | (refine seqL (v := ?_) (a' := ?_) rfl rfl (by kernel_rfl) (fun _ _ _ h => h) (Or.inl ⟨by kernel_rfl, ?_⟩) hHeld ?_ ?_; rotate_left; (rintro w' ⟨s0, s1, s2, s3, s4, s5, s6⟩; go_simp; with_reducible rfl); rotate_left; (simp only [Act.put, sa_, sb_, sc_, i64_w, i32_w]; rfl))
    refine seqE (by kernel_rfl) ?_
    go_wp2
    go_roundg (l0.length - (i.toNat + 1))
    case measure => exact H3.out
    case rel => exact ⟨i + 1, H1.out, H2.out, by first | rfl | (rw [show wrap64 (i + 1) = i + 1 from (i64_w _).symm.trans H4.out]), HB2, HN⟩
   ·obtain ⟨j, y, hj, hj0, hj1, hay, hwy⟩ := hpv hp
    have cp : decide (0 < i) = true := decide_eq_true (H5.out hp)
    have hjw : IntKind.i64.wrap (i - 1) = j := (i64_w _).trans hj
    have pj0 := eq_true hj0
    have pj1 := eq_true hj1
    have cj0 := decide_eq_true hj0
    have cj1 := decide_eq_true hj1
    rw [hay] at hst2
    replace hp := am_ hp
    replace hj0 := am_ hj0
    replace hj1 := am_ hj1
    by_cases hc : x0 ≤ y
    ·have cc : decide (x0 ≤ y) = true := decide_eq_true hc
     have HF := am_ (show false = r by rw [← hst2, show above (some y) x0 = false from decide_eq_false (by omega)]; simp)
     clear hst2 hpv hi2 hc hay
     go_wp2_with fail
     have HB1 := am_ (below_drew HB.out)
     refine seqS (S := pinfoldref11_TableMay.S (ad.add (i.toNat * 6)) x0 x1 x2 x3 x4 x5 (ad.add (j.toNat * 6)) y) 24 (by kernel_rfl) rfl rfl (by unfold pinfoldref11_TableMay.S; exact ⟨(HB1.out.cell (wb_ w _ hw0)).trans hw0, (HB1.out.cell (wb_ w _ hw1)).trans hw1, (HB1.out.cell (wb_ w _ hw2)).trans hw2, (HB1.out.cell (wb_ w _ hw3)).trans hw3, (HB1.out.cell (wb_ w _ hw4)).trans hw4, (HB1.out.cell (wb_ w _ hw5)).trans hw5, (HB1.out.cell (wb_ w _ hwy)).trans hwy⟩) ?_
     intro hHeld
     clear hx0 hx1 hx2 hx3 hx4 hx5 hw0 hw1 hw2 hw3 hw4 hw5 HB
     iterate 4 first | (refine seqP (v := ?_) (a' := ?_) rfl rfl (by kernel_rfl) (fun _ _ _ h => h) (Or.inl ⟨by kernel_rfl, ?_⟩) ?_ ?_; rotate_left; (intro w'; go_simp; with_reducible rfl); rotate_left; (simp only [Act.put, sa_, sb_, sc_, i64_w, i32_w]; rfl)) | (refine seqL (v := ?_) (a' := ?_) rfl rfl (by kernel_rfl) (fun _ _ _ h => h) (Or.inl ⟨by kernel_rfl, ?_⟩) hHeld ?_ ?_; rotate_left; (rintro w' ⟨s0, s1, s2, s3, s4, s5, s6⟩; go_simp; with_reducible rfl); rotate_left; (simp only [Act.put, sa_, sb_, sc_, i64_w, i32_w]; rfl))
     refine seqG (fn := Try.f60) rfl rfl (by kernel_rfl) rfl Try.func60 (by kernel_rfl) (by kernel_rfl) #[.agg #[.int .i64 x0, .int .i64 x1, .string x2, .int .i64 x3, .string x4, .bool x5]] (by kernel_rfl) (by (try simp only [List.map_toArray, List.map_cons, List.map_nil]); first | done | rfl) ?_
     with_reducible refine (CM.out _).mono ?_
     rintro e wg ⟨rfl, hb2⟩
     have HB2 := am_ (bt_ HB1.out hb2)
     refine ⟨_, rfl, pinfoldref11_TableMay.S_below hHeld hb2, fun hHeld => ⟨?_, ?_, ?_⟩⟩
     rotate_left
     ·simp only [Act.put, sa_, sb_, sc_, i64_w, i32_w]
      rfl
     clear hb2 HB1 CM
     iterate 2 first | (refine seqP (v := ?_) (a' := ?_) rfl rfl (by kernel_rfl) (fun _ _ _ h => h) (Or.inl ⟨by kernel_rfl, ?_⟩) ?_ ?_; rotate_left; (intro w'; go_simp; with_reducible rfl); rotate_left; (simp only [Act.put, sa_, sb_, sc_, i64_w, i32_w]; rfl)) | (refine seqL (v := ?_) (a' := ?_) rfl rfl (by kernel_rfl) (fun _ _ _ h => h) (Or.inl ⟨by kernel_rfl, ?_⟩) hHeld ?_ ?_; rotate_left; (rintro w' ⟨s0, s1, s2, s3, s4, s5, s6⟩; go_simp; with_reducible rfl); rotate_left; (simp only [Act.put, sa_, sb_, sc_, i64_w, i32_w]; rfl))
     iterate 17 first | (refine seqP (v := ?_) (a' := ?_) rfl rfl (by kernel_rfl) (fun _ _ _ h => h) (Or.inl ⟨by kernel_rfl, ?_⟩) ?_ ?_; rotate_left; (intro w'; go_simp; with_reducible rfl); rotate_left; (simp only [Act.put, sa_, sb_, sc_, i64_w, i32_w]; rfl)) | (refine seqL (v := ?_) (a' := ?_) rfl rfl (by kernel_rfl) (fun _ _ _ h => h) (Or.inl ⟨by kernel_rfl, ?_⟩) hHeld ?_ ?_; rotate_left; (rintro w' ⟨s0, s1, s2, s3, s4, s5, s6⟩; go_simp; with_reducible rfl); rotate_left; (simp only [Act.put, sa_, sb_, sc_, i64_w, i32_w]; rfl))
     refine seqE (by kernel_rfl) ?_
     go_wp2
     go_ret
     exact ⟨ret_bool (HF.out), HB2.out⟩
    ·have cc : decide (x0 ≤ y) = false := decide_eq_false hc
     have HN := am_ (show (goTab (hostAheadR l0 (i + 1).toNat) (l0.drop (i + 1).toNat) && decide (l0.length ≤ 8)) = r by rw [← hst2, show above (some y) x0 = true from decide_eq_true (by omega), Bool.true_and])
     clear hst2 hpv hi2 hc hay
     go_wp2_with fail
     have HB1 := am_ (below_drew HB.out)
     refine seqS (S := pinfoldref11_TableMay.S (ad.add (i.toNat * 6)) x0 x1 x2 x3 x4 x5 (ad.add (j.toNat * 6)) y) 24 (by kernel_rfl) rfl rfl (by unfold pinfoldref11_TableMay.S; exact ⟨(HB1.out.cell (wb_ w _ hw0)).trans hw0, (HB1.out.cell (wb_ w _ hw1)).trans hw1, (HB1.out.cell (wb_ w _ hw2)).trans hw2, (HB1.out.cell (wb_ w _ hw3)).trans hw3, (HB1.out.cell (wb_ w _ hw4)).trans hw4, (HB1.out.cell (wb_ w _ hw5)).trans hw5, (HB1.out.cell (wb_ w _ hwy)).trans hwy⟩) ?_
     intro hHeld
     clear hx0 hx1 hx2 hx3 hx4 hx5 hw0 hw1 hw2 hw3 hw4 hw5 HB
     iterate 4 first | (refine seqP (v := ?_) (a' := ?_) rfl rfl (by kernel_rfl) (fun _ _ _ h => h) (Or.inl ⟨by kernel_rfl, ?_⟩) ?_ ?_; rotate_left; (intro w'; go_simp; with_reducible rfl); rotate_left; (simp only [Act.put, sa_, sb_, sc_, i64_w, i32_w]; rfl)) | (refine seqL (v := ?_) (a' := ?_) rfl rfl (by kernel_rfl) (fun _ _ _ h => h) (Or.inl ⟨by kernel_rfl, ?_⟩) hHeld ?_ ?_; rotate_left; (rintro w' ⟨s0, s1, s2, s3, s4, s5, s6⟩; go_simp; with_reducible rfl); rotate_left; (simp only [Act.put, sa_, sb_, sc_, i64_w, i32_w]; rfl))
     refine seqG (fn := Try.f60) rfl rfl (by kernel_rfl) rfl Try.func60 (by kernel_rfl) (by kernel_rfl) #[.agg #[.int .i64 x0, .int .i64 x1, .string x2, .int .i64 x3, .string x4, .bool x5]] (by kernel_rfl) (by (try simp only [List.map_toArray, List.map_cons, List.map_nil]); first | done | rfl) ?_
     with_reducible refine (CM.out _).mono ?_
     rintro e wg ⟨rfl, hb2⟩
     have HB2 := am_ (bt_ HB1.out hb2)
     refine ⟨_, rfl, pinfoldref11_TableMay.S_below hHeld hb2, fun hHeld => ⟨?_, ?_, ?_⟩⟩
     rotate_left
     ·simp only [Act.put, sa_, sb_, sc_, i64_w, i32_w]
      rfl
     clear hb2 HB1 CM
     iterate 2 first | (refine seqP (v := ?_) (a' := ?_) rfl rfl (by kernel_rfl) (fun _ _ _ h => h) (Or.inl ⟨by kernel_rfl, ?_⟩) ?_ ?_; rotate_left; (intro w'; go_simp; with_reducible rfl); rotate_left; (simp only [Act.put, sa_, sb_, sc_, i64_w, i32_w]; rfl)) | (refine seqL (v := ?_) (a' := ?_) rfl rfl (by kernel_rfl) (fun _ _ _ h => h) (Or.inl ⟨by kernel_rfl, ?_⟩) hHeld ?_ ?_; rotate_left; (rintro w' ⟨s0, s1, s2, s3, s4, s5, s6⟩; go_simp; with_reducible rfl); rotate_left; (simp only [Act.put, sa_, sb_, sc_, i64_w, i32_w]; rfl))
     iterate 17 first | (refine seqP (v := ?_) (a' := ?_) rfl rfl (by kernel_rfl) (fun _ _ _ h => h) (Or.inl ⟨by kernel_rfl, ?_⟩) ?_ ?_; rotate_left; (intro w'; go_simp; with_reducible rfl); rotate_left; (simp only [Act.put, sa_, sb_, sc_, i64_w, i32_w]; rfl)) | (refine seqL (v := ?_) (a' := ?_) rfl rfl (by kernel_rfl) (fun _ _ _ h => h) (Or.inl ⟨by kernel_rfl, ?_⟩) hHeld ?_ ?_; rotate_left; (rintro w' ⟨s0, s1, s2, s3, s4, s5, s6⟩; go_simp; with_reducible rfl); rotate_left; (simp only [Act.put, sa_, sb_, sc_, i64_w, i32_w]; rfl))
     refine seqE (by kernel_rfl) ?_
     go_wp2
     go_roundg (l0.length - (i.toNat + 1))
     case measure => exact H3.out
     case rel => exact ⟨i + 1, H1.out, H2.out, by first | rfl | (rw [show wrap64 (i + 1) = i + 1 from (i64_w _).symm.trans H4.out]), HB2, HN⟩
  ·have HF := am_ (show decide (l0.length ≤ 8) = r by have h1 := HT.out; rw [List.drop_eq_nil_of_le (by omega)] at h1; rw [← h1, show goTab (hostAheadR l0 i.toNat) [] = true from rfl, Bool.true_and])
   by_cases h8 : l0.length ≤ 8
   ·have c8 : decide ((l0.length : Int) ≤ 8) = true := decide_eq_true (by omega)
    have HG := am_ (show true = r by rw [← HF.out]; exact (decide_eq_true h8).symm)
    clear HT HF
    go_wp2
    go_ret
    exact ⟨ret_bool HG.out, HB.out⟩
   ·have c8 : decide ((l0.length : Int) ≤ 8) = false := decide_eq_false (by omega)
    have HG := am_ (show false = r by rw [← HF.out]; exact (decide_eq_false h8).symm)
    clear HT HF
    go_wp2
    go_ret
    exact ⟨ret_bool HG.out, HB.out⟩

/-! ### pinfoldref11_Live: function 48 -/
-- BY HAND
-- 60
def pinfoldref11_Live_c.f (a0_0 : Int) (a0_1 : Int) (a0_2 : ByteArray) (a0_3 : Int) (a0_4 : ByteArray) (a0_5 : Bool) (a1 : Int) : Option Bool := if a0_4.size ≤ 8796093022000 then some (liveB a0_0 a0_1 a0_2 a0_3 a0_4 a0_5 a1) else none
set_option maxHeartbeats 8000000 in
set_option maxRecDepth 100000 in
theorem pinfoldref11_Live_c.calls (a0_0 : Int) (a0_1 : Int) (a0_2 : ByteArray) (a0_3 : Int) (a0_4 : ByteArray) (a0_5 : Bool) (a1 : Int) (r : Bool) (w : World) (h : pinfoldref11_Live_c.f a0_0 a0_1 a0_2 a0_3 a0_4 a0_5 a1 = some r) :
  Calls Try.prog 48 #[.agg #[.int .i64 a0_0, .int .i64 a0_1, .string a0_2, .int .i64 a0_3, .string a0_4, .bool a0_5], .int .i64 a1] w fun e w' => e = .returned (.bool r) ∧ Below w.heap.size w w' := by
 unfold pinfoldref11_Live_c.f at h
 by_cases hs : a0_4.size ≤ 8796093022000
 rotate_left
 ·rw [if_neg hs] at h
  cases h
 rw [if_pos hs] at h
 replace h := e5_ h
 unfold liveB at h
 obtain ⟨b1, h1⟩ : ∃ b, leaseB a0_0 a0_1 a0_2 a0_3 a0_4 a0_5 = b := ⟨_, rfl⟩
 rw [h1] at h
 have C1 := am_ (fun W => pinfoldref11_LeaseMay_c.calls a0_0 a0_1 a0_2 a0_3 a0_4 a0_5 b1 W (by unfold pinfoldref11_LeaseMay_c.f; rw [if_pos hs, h1]))
 have HR := am_ h
 have HB := am_ (Below.refl w.heap.size w)
 have BX := am_ (blk_new w (.cells #[.int .i64 a0_0, .int .i64 a0_1, .string a0_2, .int .i64 a0_3, .string a0_4, .bool a0_5] 37))
 have v0 := bc_ BX.out 0; have v1 := bc_ BX.out 1; have v2 := bc_ BX.out 2; have v3 := bc_ BX.out 3; have v4 := bc_ BX.out 4; have v5 := bc_ BX.out 5
 clear h h1 hs
 go_enter Try.func48, Try.ntmps48
 go_wp2_with (first | (go_at_call 60; (with_reducible refine (C1.out _).mono ?_); rintro e w1 ⟨rfl, hb2⟩; replace BX := am_ (kb_ (show _ from (by (with_reducible repeat (first | exact BX.out | refine k2_ ?_ _ | refine k3_ ?_ | refine k1_ ?_ _)))) hb2); replace HB := am_ (bt_ (show Below w.heap.size w _ from (by repeat (with_reducible first | exact HB.out | apply p3_ | apply p1_ | apply p2_))) hb2); clear hb2; clear v0 v1 v2 v3 v4 v5; have v0 := bc_ BX.out 0; have v1 := bc_ BX.out 1; have v2 := bc_ BX.out 2; have v3 := bc_ BX.out 3; have v4 := bc_ BX.out 4; have v5 := bc_ BX.out 5))
 all_goals (try go_ret)
 all_goals refine ⟨ret_bool ?_, ?_⟩
 all_goals first
  | exact HB.out
  | (rw [← HR.out]; clear HR HB C1 BX v0 v1 v2 v3 v4 v5; (simp_all; done))
  | (rw [← HR.out]; clear HR HB C1 BX v0 v1 v2 v3 v4 v5; simp_all <;> omega)

/-! ### pinfoldref11_his: function 58 -/
-- BY HAND
-- 48
def pinfoldref11_his_c.f (a0_0 : Int) (a0_1 : Int) (a0_2 : ByteArray) (a0_3 : Int) (a0_4 : ByteArray) (a0_5 : Bool) (a1 : ByteArray) (a2 : Int) : Option Bool := if a0_4.size ≤ 8796093022000 then some (holdsB a0_0 a0_1 a0_2 a0_3 a0_4 a0_5 a1 a2) else none
set_option maxHeartbeats 8000000 in
set_option maxRecDepth 100000 in
theorem pinfoldref11_his_c.calls (a0_0 : Int) (a0_1 : Int) (a0_2 : ByteArray) (a0_3 : Int) (a0_4 : ByteArray) (a0_5 : Bool) (a1 : ByteArray) (a2 : Int) (r : Bool) (w : World) (h : pinfoldref11_his_c.f a0_0 a0_1 a0_2 a0_3 a0_4 a0_5 a1 a2 = some r) :
  Calls Try.prog 58 #[.agg #[.int .i64 a0_0, .int .i64 a0_1, .string a0_2, .int .i64 a0_3, .string a0_4, .bool a0_5], .string a1, .int .i64 a2] w fun e w' => e = .returned (.bool r) ∧ Below w.heap.size w w' := by
 unfold pinfoldref11_his_c.f at h
 by_cases hs : a0_4.size ≤ 8796093022000
 rotate_left
 ·rw [if_neg hs] at h
  cases h
 rw [if_pos hs] at h
 replace h := e5_ h
 obtain ⟨b1, h1⟩ : ∃ b, liveB a0_0 a0_1 a0_2 a0_3 a0_4 a0_5 a2 = b := ⟨_, rfl⟩
 have hst : b1 = true → a0_1 = 1 ∨ a0_1 = 2 ∨ a0_1 = 3 := by
  intro e
  have e2 := h1.trans e
  unfold liveB leaseB stateB at e2
  simp only [Bool.and_eq_true, decide_eq_true_eq] at e2
  obtain ⟨⟨⟨⟨⟨⟨_, h⟩, _⟩, _⟩, _⟩, h0⟩, _⟩ := e2
  by_cases q0 : a0_1 = 0 ∨ a0_1 = 3
  ·omega
  rw [if_neg q0] at h
  by_cases q1 : a0_1 = 1
  ·omega
  rw [if_neg q1] at h
  by_cases q2 : a0_1 = 2
  ·omega
  rw [if_neg q2] at h
  cases h
 unfold holdsB at h
 rw [h1] at h
 have C1 := am_ (fun W => pinfoldref11_Live_c.calls a0_0 a0_1 a0_2 a0_3 a0_4 a0_5 a2 b1 W (by unfold pinfoldref11_Live_c.f; rw [if_pos hs, h1]))
 have HB := am_ (Below.refl w.heap.size w)
 have BX := am_ (blk_new w (.cells #[.int .i64 a0_0, .int .i64 a0_1, .string a0_2, .int .i64 a0_3, .string a0_4, .bool a0_5] 37))
 have v0 := bc_ BX.out 0; have v1 := bc_ BX.out 1; have v2 := bc_ BX.out 2; have v3 := bc_ BX.out 3; have v4 := bc_ BX.out 4; have v5 := bc_ BX.out 5
 clear h1 hs
 have q2b : (a0_2.toList == a1.toList) = decide (a0_2.toList = a1.toList) := by rw [Bool.eq_iff_iff, beq_iff_eq, decide_eq_true_eq]
 obtain ⟨c2, hc2⟩ : ∃ c, decide (a0_2.toList = a1.toList) = c := ⟨_, rfl⟩
 rw [hc2] at h q2b
 clear hc2
 cases b1 with
 | false =>
  have HR := am_ (show false = r from h)
  clear h hst
  go_enter Try.func58, Try.ntmps58
  go_wp2_with (first | (go_at_call 48; (with_reducible refine (C1.out _).mono ?_); rintro e w1 ⟨rfl, hb2⟩; replace BX := am_ (kb_ (show _ from (by (with_reducible repeat (first | exact BX.out | refine k2_ ?_ _ | refine k3_ ?_ | refine k1_ ?_ _)))) hb2); replace HB := am_ (bt_ (show Below w.heap.size w _ from (by repeat (with_reducible first | exact HB.out | apply p3_ | apply p1_ | apply p2_))) hb2); clear hb2; clear v0 v1 v2 v3 v4 v5; have v0 := bc_ BX.out 0; have v1 := bc_ BX.out 1; have v2 := bc_ BX.out 2; have v3 := bc_ BX.out 3; have v4 := bc_ BX.out 4; have v5 := bc_ BX.out 5))
  go_ret
  exact ⟨ret_bool HR.out, HB.out⟩
 | true =>
  rw [Bool.true_and] at h
  rcases hst rfl with e | e | e
  all_goals
   subst e
   have HR := am_ h
   clear h hst
   go_enter Try.func58, Try.ntmps58
   go_wp2_with (first | (go_at_call 48; (with_reducible refine (C1.out _).mono ?_); rintro e w1 ⟨rfl, hb2⟩; replace BX := am_ (kb_ (show _ from (by (with_reducible repeat (first | exact BX.out | refine k2_ ?_ _ | refine k3_ ?_ | refine k1_ ?_ _)))) hb2); replace HB := am_ (bt_ (show Below w.heap.size w _ from (by repeat (with_reducible first | exact HB.out | apply p3_ | apply p1_ | apply p2_))) hb2); clear hb2; clear v0 v1 v2 v3 v4 v5; have v0 := bc_ BX.out 0; have v1 := bc_ BX.out 1; have v2 := bc_ BX.out 2; have v3 := bc_ BX.out 3; have v4 := bc_ BX.out 4; have v5 := bc_ BX.out 5))
   all_goals (try go_ret)
   all_goals exact ⟨ret_bool (by rw [← HR.out]; simp), HB.out⟩

/-! ### pinfoldref11_Of: function 23 -/
mutual
def pinfoldref11_Of.l0 : Nat → List (S37) → ByteArray → Int → Int → Option (Int × Int × ByteArray × Int × ByteArray × Bool × Bool)
 | 0, _, _, _, _ => none
 | k + 1, x0, x1, x2, x8 => if x8 < (x0.length : Int) then ((pinfoldref11_TableMay_c.f x0).bind fun t160 => (pinfoldref11_Of.j1 k x0 x1 x2 x8 t160)) else (pinfoldref11_Of.j1 k x0 x1 x2 x8 false)
def pinfoldref11_Of.j1 : Nat → List (S37) → ByteArray → Int → Int → Bool → Option (Int × Int × ByteArray × Int × ByteArray × Bool × Bool)
 | 0, _, _, _, _, _ => none
 | k + 1, x0, x1, x2, x8, x16 => if x16 = true then (if 0 ≤ x8 then (if x8 < (x0.length : Int) then ((pinfoldref11_his_c.f ((rd_T37 x0 x8).f0) ((rd_T37 x0 x8).f1) ((rd_T37 x0 x8).f2) ((rd_T37 x0 x8).f3) ((rd_T37 x0 x8).f4) ((rd_T37 x0 x8).f5) x1 x2).bind fun t162 => (if t162 = true then (some ((rd_T37 x0 x8).f0, (rd_T37 x0 x8).f1, (rd_T37 x0 x8).f2, (rd_T37 x0 x8).f3, (rd_T37 x0 x8).f4, (rd_T37 x0 x8).f5, true)) else (pinfoldref11_Of.l0 k x0 x1 x2 (wrap64 (x8 + 1))))) else (none)) else (none)) else (some (0, 0, (⟨#[]⟩ : ByteArray), 0, (⟨#[]⟩ : ByteArray), false, false))
end
def pinfoldref11_Of.f (k : Nat) (l0 : List (S37)) (a1 : ByteArray) (a2 : Int) : Option (Int × Int × ByteArray × Int × ByteArray × Bool × Bool) := pinfoldref11_Of.l0 k l0 a1 a2 0
theorem pinfoldref11_Of.mono_l : ∀ k, (∀ y0 y1 y2 y3, LeO (pinfoldref11_Of.l0 k y0 y1 y2 y3) (pinfoldref11_Of.l0 (k + 1) y0 y1 y2 y3)) ∧ (∀ y0 y1 y2 y3 y4, LeO (pinfoldref11_Of.j1 k y0 y1 y2 y3 y4) (pinfoldref11_Of.j1 (k + 1) y0 y1 y2 y3 y4))
 | 0 => ⟨fun _ _ _ _ r h => by simp [pinfoldref11_Of.l0] at h, fun _ _ _ _ _ r h => by simp [pinfoldref11_Of.j1] at h⟩
 | k + 1 => by
  obtain ⟨ih0, ih1⟩ := pinfoldref11_Of.mono_l k
  refine ⟨?_, ?_⟩
  ·intro y0 y1 y2 y3
   unfold pinfoldref11_Of.l0
   repeat' first
   | (with_reducible exact ih0 _ _ _ _)
   | (with_reducible exact ih1 _ _ _ _ _)
   | (with_reducible exact LeO.refl _)
   | (with_reducible exact LeO.none _)
   | (with_reducible refine LeO.ite ?_ ?_)
   | (with_reducible refine LeO.bind ?_ (fun _ => ?_))
   | exact ih0 _ _ _ _
   | exact ih1 _ _ _ _ _
   | exact LeO.none _
   | refine LeO.ite ?_ ?_
   | refine LeO.bind ?_ (fun _ => ?_)
  ·intro y0 y1 y2 y3 y4
   unfold pinfoldref11_Of.j1
   repeat' first
   | (with_reducible exact ih0 _ _ _ _)
   | (with_reducible exact ih1 _ _ _ _ _)
   | (with_reducible exact LeO.refl _)
   | (with_reducible exact LeO.none _)
   | (with_reducible refine LeO.ite ?_ ?_)
   | (with_reducible refine LeO.bind ?_ (fun _ => ?_))
   | exact ih0 _ _ _ _
   | exact ih1 _ _ _ _ _
   | exact LeO.none _
   | refine LeO.ite ?_ ?_
   | refine LeO.bind ?_ (fun _ => ?_)
theorem pinfoldref11_Of.mono : ∀ a0 a1 a2 k, LeO (pinfoldref11_Of.f k a0 a1 a2) (pinfoldref11_Of.f (k + 1) a0 a1 a2) := by
 intro a0 a1 a2 k
 obtain ⟨ih0, ih1⟩ := pinfoldref11_Of.mono_l k
 unfold pinfoldref11_Of.f
 repeat' first
   | (with_reducible exact ih0 _ _ _ _)
   | (with_reducible exact ih1 _ _ _ _ _)
   | (with_reducible exact LeO.refl _)
   | (with_reducible exact LeO.none _)
   | (with_reducible refine LeO.ite ?_ ?_)
   | (with_reducible refine LeO.bind ?_ (fun _ => ?_))
   | exact ih0 _ _ _ _
   | exact ih1 _ _ _ _ _
   | exact LeO.none _
   | refine LeO.ite ?_ ?_
   | refine LeO.bind ?_ (fun _ => ?_)
set_option maxHeartbeats 8000000 in
set_option maxRecDepth 100000 in
theorem pinfoldref11_Of.calls (k : Nat) (A0 : Option Addr) (c0 : Nat) (l0 : List (S37)) (a1 : ByteArray) (a2 : Int) (r1 : Int) (r2 : Int) (r3 : ByteArray) (r4 : Int) (r5 : ByteArray) (r6 : Bool) (r7 : Bool) (w : World) (hr0 : Kd.C k37 w A0 l0.length l0) (hc0 : l0.length ≤ c0) (h : pinfoldref11_Of.f k l0 a1 a2 = some (r1, r2, r3, r4, r5, r6, r7)) :
  Calls Try.prog 23 #[.slice A0 l0.length c0, .string a1, .int .i64 a2] w fun e w' => e = .returned (.tuple #[.agg #[.int .i64 r1, .int .i64 r2, .string r3, .int .i64 r4, .string r5, .bool r6], .bool r7]) ∧ Below w.heap.size w w' := by
 have hu37 := Try.underlying37
 have HR0 := am_ hr0
 have HC0 := am_ hc0
 clear hr0 hc0
 have HB := am_ (Below.refl w.heap.size w)
 have H : (pinfoldref11_Of.l0 k l0 a1 a2 0) = some (r1, r2, r3, r4, r5, r6, r7) := h
 clear h
 have H' := am_ H
 clear H
 go_enter Try.func23, Try.ntmps23
 go_wp2_with (first | ((with_reducible refine gate_dst (N := 6) rfl ?_); refine box_event ?hg (N := 6) ?hd (cs := #[.int .i64 0, .int .i64 0, .string (⟨#[]⟩ : ByteArray), .int .i64 0, .string (⟨#[]⟩ : ByteArray), .bool false]) (t := 37) ?hr ?_; (case hd => rfl); (case hg => rfl); (case hr => first | (go_simp; done) | (go_simp; rfl)); intro gb159 hg w4 hbox hb; have n0_ := am_ (bt_ (by repeat (with_reducible first | exact HB.out | apply p3_ | apply p1_ | apply p2_)) hb); have n1_ := am_ (hbox); have n2_ := am_ ((by rw [hg]; exact (bz_ (by repeat (with_reducible first | exact HB.out | apply p3_ | apply p1_ | apply p2_))) : w.heap.size ≤ gb159)); have n3_ := am_ ((by rw [hg]; exact (bz_ (by repeat (with_reducible first | exact HB.out | apply p3_ | apply p1_ | apply p2_))) : w.heap.size ≤ gb159)); clear HB; have HB := n0_; have BK159 := n1_; have GW159 := n2_; have GE159 := n3_; clear n0_ n1_ n2_ n3_; clear hb hbox hg))
 go_loopg [8] k (fun kq v8 w' => ∃ (x8_1 : Int) (x160000_1 : Int) (x160001_1 : Int) (x160002_1 : ByteArray) (x160003_1 : Int) (x160004_1 : ByteArray) (x160005_1 : Bool), v8 = .int .i64 x8_1 ∧ Aside0 (pinfoldref11_Of.l0 kq l0 a1 a2 x8_1 = some (r1, r2, r3, r4, r5, r6, r7)) ∧ Aside0 (kq ≤ k) ∧ Aside0 (w'.heap[gb159]? = some (.cells #[.int .i64 x160000_1, .int .i64 x160001_1, .string x160002_1, .int .i64 x160003_1, .string x160004_1, .bool x160005_1] 37 (0, 0))) ∧ Aside0 (Below w.heap.size w w'))
 case atStart => exact ⟨(0), (0), (0), ((⟨#[]⟩ : ByteArray)), (0), ((⟨#[]⟩ : ByteArray)), (false), (by first | rfl | (simp; done) | (simp [*]; done)), H', ⟨Nat.le_refl _⟩, ⟨by (with_reducible repeat (first | refine k2_ ?_ _ | refine k3_ ?_ | refine k1_ ?_ _)); exact BK159.out⟩, ⟨by repeat (with_reducible first | exact HB.out | apply p3_ | apply p1_ | apply p2_ | refine bs_ ?_ GE159.out)⟩⟩
 case round =>
  clear H'
  obtain ⟨x8_1, x160000_1, x160001_1, x160002_1, x160003_1, x160004_1, x160005_1, rfl, HA, HK1, BK159, HB⟩ := hrel
  cases gk with
  | zero => exact absurd HA.out (by simp [pinfoldref11_Of.l0])
  | succ k1 =>
   have H := HA.out
   clear HA
   simp only [pinfoldref11_Of.l0] at H
   have HC5 := am_ H
   clear H
   go_upto_region 2 with (fail)
   go_cut [16] (fun v16 wc => ∃ (kq : Nat) (x16_4 : Bool), v16 = .bool x16_4 ∧ Aside0 (pinfoldref11_Of.j1 kq l0 a1 a2 x8_1 x16_4 = some (r1, r2, r3, r4, r5, r6, r7)) ∧ Aside0 (kq ≤ k1) ∧ Aside0 (wc.heap[gb159]? = some (.cells #[.int .i64 x160000_1, .int .i64 x160001_1, .string x160002_1, .int .i64 x160003_1, .string x160004_1, .bool x160005_1] 37 (0, 0))) ∧ Aside0 (Below w.heap.size w wc))
   case first =>
    have H := HC5.out
    clear HC5
    by_cases c6 : x8_1 < (l0.length : Int)
    ·rw [if_pos c6] at H
     have c6b0 : decide (x8_1 < (l0.length : Int)) = true := decide_eq_true c6
     clear c6
     (first | rw [c6b0] | (simp only [i64_w, i32_w]; rw [c6b0]) | skip)
     replace H := e4_ H
     obtain ⟨t160, A70, H⟩ := H
     replace H : (pinfoldref11_Of.j1 k1 l0 a1 a2 x8_1 t160) = some (r1, r2, r3, r4, r5, r6, r7) := H
     have A7 := am_ A70
     clear A70
     have H' := am_ H
     clear H
     go_wp2_with (first | (go_at_call 26; (with_reducible refine (pinfoldref11_TableMay_c.calls _ _ l0 t160 _ ?side1 ?side2 A7.out).mono ?_); (case side1 => repeat (first | exact (c4_ HR0.out HB.out) | (with_reducible refine c1_ ?_ _) | (with_reducible refine c2_ ?_ _) | (with_reducible refine c3_ ?_))); (case side2 => exact HC0.out); rintro e w8 ⟨rfl, hb⟩; have n0_ := am_ (kb_ (g := gb159) (o := .cells #[.int .i64 x160000_1, .int .i64 x160001_1, .string x160002_1, .int .i64 x160003_1, .string x160004_1, .bool x160005_1] 37 (0, 0)) (by (with_reducible repeat (first | refine k2_ ?_ _ | refine k3_ ?_ | refine k1_ ?_ _)); exact BK159.out) hb); have n1_ := am_ (bt_ (by repeat (with_reducible first | exact HB.out | apply p3_ | apply p1_ | apply p2_ | refine bs_ ?_ GE159.out)) hb); clear BK159; clear HB; have BK159 := n0_; have HB := n1_; clear n0_ n1_; (try clear hb)))
     go_meet
     case rel => exact ⟨_, (t160), (by first | rfl | (simp; done) | (simp [*]; done)), H', ⟨by have := HK1.out; first | omega | exact Nat.le_refl _⟩, ⟨by (with_reducible repeat (first | refine k2_ ?_ _ | refine k3_ ?_ | refine k1_ ?_ _)); exact BK159.out⟩, ⟨by repeat (with_reducible first | exact HB.out | apply p3_ | apply p1_ | apply p2_ | refine bs_ ?_ GE159.out)⟩⟩
    rw [if_neg c6] at H
    have c6b0 : decide (x8_1 < (l0.length : Int)) = false := decide_eq_false c6
    clear c6
    (first | rw [c6b0] | (simp only [i64_w, i32_w]; rw [c6b0]) | skip)
    have H' := am_ H
    clear H
    go_wp2
    go_meet
    case rel => exact ⟨_, (false), (by first | rfl | (simp; done) | (simp [*]; done)), H', ⟨by have := HK1.out; first | omega | exact Nat.le_refl _⟩, ⟨by (with_reducible repeat (first | refine k2_ ?_ _ | refine k3_ ?_ | refine k1_ ?_ _)); exact BK159.out⟩, ⟨by repeat (with_reducible first | exact HB.out | apply p3_ | apply p1_ | apply p2_ | refine bs_ ?_ GE159.out)⟩⟩
   case rest =>
    clear HC5
    obtain ⟨kq, x16_4, rfl, HA, HJ4, BK159, HB⟩ := hcut
    cases kq with
    | zero => exact absurd HA.out (by simp [pinfoldref11_Of.j1])
    | succ kj4 =>
     have H := HA.out
     clear HA
     simp only [pinfoldref11_Of.j1] at H
     by_cases c9 : x16_4 = true
     ·subst c9
      have H1 : (if 0 ≤ x8_1 then (if x8_1 < (l0.length : Int) then ((pinfoldref11_his_c.f ((rd_T37 l0 x8_1).f0) ((rd_T37 l0 x8_1).f1) ((rd_T37 l0 x8_1).f2) ((rd_T37 l0 x8_1).f3) ((rd_T37 l0 x8_1).f4) ((rd_T37 l0 x8_1).f5) a1 a2).bind fun t162 => (if t162 = true then (some ((rd_T37 l0 x8_1).f0, (rd_T37 l0 x8_1).f1, (rd_T37 l0 x8_1).f2, (rd_T37 l0 x8_1).f3, (rd_T37 l0 x8_1).f4, (rd_T37 l0 x8_1).f5, true)) else (pinfoldref11_Of.l0 kj4 l0 a1 a2 (wrap64 (x8_1 + 1))))) else (none)) else (none)) = some (r1, r2, r3, r4, r5, r6, r7) := by rw [if_pos rfl] at H; exact H
      clear H
      have H := H1
      clear H1
      by_cases c10 : 0 ≤ x8_1
      rotate_left
      ·rw [if_neg c10] at H
       exact absurd H (by simp)
      rw [if_pos c10] at H
      have c10b0 : decide (0 ≤ x8_1) = true := decide_eq_true c10
      clear c10
      by_cases c11 : x8_1 < (l0.length : Int)
      rotate_left
      ·rw [if_neg c11] at H
       exact absurd H (by simp)
      rw [if_pos c11] at H
      have c11b0 : decide (x8_1 < (l0.length : Int)) = true := decide_eq_true c11
      clear c11
      replace H := e4_ H
      obtain ⟨t162, A120, H⟩ := H
      replace H : (if t162 = true then (some ((rd_T37 l0 x8_1).f0, (rd_T37 l0 x8_1).f1, (rd_T37 l0 x8_1).f2, (rd_T37 l0 x8_1).f3, (rd_T37 l0 x8_1).f4, (rd_T37 l0 x8_1).f5, true)) else (pinfoldref11_Of.l0 kj4 l0 a1 a2 (wrap64 (x8_1 + 1)))) = some (r1, r2, r3, r4, r5, r6, r7) := H
      have A12 := am_ A120
      clear A120
      by_cases c13 : t162 = true
      ·subst c13
       have H1 : (some ((rd_T37 l0 x8_1).f0, (rd_T37 l0 x8_1).f1, (rd_T37 l0 x8_1).f2, (rd_T37 l0 x8_1).f3, (rd_T37 l0 x8_1).f4, (rd_T37 l0 x8_1).f5, true)) = some (r1, r2, r3, r4, r5, r6, r7) := by rw [if_pos rfl] at H; exact H
       clear H
       have H := H1
       clear H1
       simp only [Option.some.injEq, Prod.mk.injEq] at H
       obtain ⟨rfl, rfl, rfl, rfl, rfl, rfl, rfl⟩ := H
       have p161 : 0 ≤ (x8_1 : Int) := of_decide_eq_true (by first | (with_reducible assumption) | assumption)
       have q161 : x8_1 < (l0.length : Int) := of_decide_eq_true (by first | (with_reducible assumption) | assumption)
       obtain ⟨ad161, e161, hx161_0, hx161_1, hx161_2, hx161_3, hx161_4, hx161_5⟩ := at_T37 HR0.out x8_1 p161 q161
       cases e161
       replace hx161_0 := (HB.out.cell (wb_ w _ hx161_0)).trans hx161_0
       replace hx161_1 := (HB.out.cell (wb_ w _ hx161_1)).trans hx161_1
       replace hx161_2 := (HB.out.cell (wb_ w _ hx161_2)).trans hx161_2
       replace hx161_3 := (HB.out.cell (wb_ w _ hx161_3)).trans hx161_3
       replace hx161_4 := (HB.out.cell (wb_ w _ hx161_4)).trans hx161_4
       replace hx161_5 := (HB.out.cell (wb_ w _ hx161_5)).trans hx161_5
       replace p161 := eq_true p161
       replace q161 := eq_true q161
       go_wp2_with (first | ((with_reducible refine gate_callee (f := 58) rfl ?_); refine goesL_ (some 25) rfl rfl Try.func58 (by kernel_rfl) rfl #[.agg #[.int .i64 ((rd_T37 l0 x8_1).f0), .int .i64 ((rd_T37 l0 x8_1).f1), .string ((rd_T37 l0 x8_1).f2), .int .i64 ((rd_T37 l0 x8_1).f3), .string ((rd_T37 l0 x8_1).f4), .bool ((rd_T37 l0 x8_1).f5)], .string a1, .int .i64 a2] rfl (by (try simp only [List.map_toArray, List.map_cons, List.map_nil]); first | done | rfl | (simp only [List.length_drop, List.length_take]; rfl)) ?_; (with_reducible refine (pinfoldref11_his_c.calls ((rd_T37 l0 x8_1).f0) ((rd_T37 l0 x8_1).f1) ((rd_T37 l0 x8_1).f2) ((rd_T37 l0 x8_1).f3) ((rd_T37 l0 x8_1).f4) ((rd_T37 l0 x8_1).f5) a1 a2 true _ A12.out).mono ?_); rintro e w14 ⟨rfl, hb⟩; refine ⟨_, rfl, ?_⟩; have n0_ := am_ (kb_ (g := gb159) (o := .cells #[.int .i64 x160000_1, .int .i64 x160001_1, .string x160002_1, .int .i64 x160003_1, .string x160004_1, .bool x160005_1] 37 (0, 0)) (by (with_reducible repeat (first | refine k2_ ?_ _ | refine k3_ ?_ | refine k1_ ?_ _)); exact BK159.out) hb); have n1_ := am_ (bt_ (by repeat (with_reducible first | exact HB.out | apply p3_ | apply p1_ | apply p2_ | refine bs_ ?_ GE159.out)) hb); clear BK159; clear HB; have BK159 := n0_; have HB := n1_; clear n0_ n1_; (try clear hb); have p163 : 0 ≤ (x8_1 : Int) := of_decide_eq_true (by first | (with_reducible assumption) | assumption); have q163 : x8_1 < (l0.length : Int) := of_decide_eq_true (by first | (with_reducible assumption) | assumption); obtain ⟨ad163, e163, hx163_0, hx163_1, hx163_2, hx163_3, hx163_4, hx163_5⟩ := at_T37 HR0.out x8_1 p163 q163; obtain rfl : ad161 = ad163 := (by injection e163); replace hx163_0 := (HB.out.cell (wb_ w _ hx163_0)).trans hx163_0; replace hx163_1 := (HB.out.cell (wb_ w _ hx163_1)).trans hx163_1; replace hx163_2 := (HB.out.cell (wb_ w _ hx163_2)).trans hx163_2; replace hx163_3 := (HB.out.cell (wb_ w _ hx163_3)).trans hx163_3; replace hx163_4 := (HB.out.cell (wb_ w _ hx163_4)).trans hx163_4; replace hx163_5 := (HB.out.cell (wb_ w _ hx163_5)).trans hx163_5; replace p163 := eq_true p163; replace q163 := eq_true q163; have hcz15_0 : w14.cell? ⟨gb159, 0, none⟩ = some (.int .i64 x160000_1) := (bc_ BK159.out 0).trans rfl; have hcz15_1 : w14.cell? ⟨gb159, 1, none⟩ = some (.int .i64 x160001_1) := (bc_ BK159.out 1).trans rfl; have hcz15_2 : w14.cell? ⟨gb159, 2, none⟩ = some (.string x160002_1) := (bc_ BK159.out 2).trans rfl; have hcz15_3 : w14.cell? ⟨gb159, 3, none⟩ = some (.int .i64 x160003_1) := (bc_ BK159.out 3).trans rfl; have hcz15_4 : w14.cell? ⟨gb159, 4, none⟩ = some (.string x160004_1) := (bc_ BK159.out 4).trans rfl; have hcz15_5 : w14.cell? ⟨gb159, 5, none⟩ = some (.bool x160005_1) := (bc_ BK159.out 5).trans rfl; have hfz15_0 := bf_ BK159.out 0; have hfz15_1 := bf_ BK159.out 1; have hfz15_2 := bf_ BK159.out 2; have hfz15_3 := bf_ BK159.out 3; have hfz15_4 := bf_ BK159.out 4; have hfz15_5 := bf_ BK159.out 5))
       refine bodyPost_ret (results_ct rfl _ _ gb159 37 #[.int .i64 ((rd_T37 l0 x8_1).f0), .int .i64 ((rd_T37 l0 x8_1).f1), .string ((rd_T37 l0 x8_1).f2), .int .i64 ((rd_T37 l0 x8_1).f3), .string ((rd_T37 l0 x8_1).f4), .bool ((rd_T37 l0 x8_1).f5)] (0, 0) _ rfl (by (with_reducible repeat (first | refine k2_ ?_ _ | refine k3_ ?_ | refine k1_ ?_ _)); refine blk_put (cs := #[.int .i64 ((rd_T37 l0 x8_1).f0), .int .i64 ((rd_T37 l0 x8_1).f1), .string ((rd_T37 l0 x8_1).f2), .int .i64 ((rd_T37 l0 x8_1).f3), .string ((rd_T37 l0 x8_1).f4), .bool x160005_1]) ?_ 5 _ rfl; (with_reducible repeat (first | refine k2_ ?_ _ | refine k3_ ?_ | refine k1_ ?_ _)); refine blk_put (cs := #[.int .i64 ((rd_T37 l0 x8_1).f0), .int .i64 ((rd_T37 l0 x8_1).f1), .string ((rd_T37 l0 x8_1).f2), .int .i64 ((rd_T37 l0 x8_1).f3), .string x160004_1, .bool x160005_1]) ?_ 4 _ rfl; (with_reducible repeat (first | refine k2_ ?_ _ | refine k3_ ?_ | refine k1_ ?_ _)); refine blk_put (cs := #[.int .i64 ((rd_T37 l0 x8_1).f0), .int .i64 ((rd_T37 l0 x8_1).f1), .string ((rd_T37 l0 x8_1).f2), .int .i64 x160003_1, .string x160004_1, .bool x160005_1]) ?_ 3 _ rfl; (with_reducible repeat (first | refine k2_ ?_ _ | refine k3_ ?_ | refine k1_ ?_ _)); refine blk_put (cs := #[.int .i64 ((rd_T37 l0 x8_1).f0), .int .i64 ((rd_T37 l0 x8_1).f1), .string x160002_1, .int .i64 x160003_1, .string x160004_1, .bool x160005_1]) ?_ 2 _ rfl; (with_reducible repeat (first | refine k2_ ?_ _ | refine k3_ ?_ | refine k1_ ?_ _)); refine blk_put (cs := #[.int .i64 ((rd_T37 l0 x8_1).f0), .int .i64 x160001_1, .string x160002_1, .int .i64 x160003_1, .string x160004_1, .bool x160005_1]) ?_ 1 _ rfl; (with_reducible repeat (first | refine k2_ ?_ _ | refine k3_ ?_ | refine k1_ ?_ _)); refine blk_put (cs := #[.int .i64 x160000_1, .int .i64 x160001_1, .string x160002_1, .int .i64 x160003_1, .string x160004_1, .bool x160005_1]) ?_ 0 _ rfl; (with_reducible repeat (first | refine k2_ ?_ _ | refine k3_ ?_ | refine k1_ ?_ _)); exact BK159.out) Try.underlying37 rfl (by kernel_rfl)) rfl ?_
       exact ⟨by first | rfl | (simp [errW_none, errW_some] <;> rfl) | (simp [*, errW_none, errW_some] <;> rfl), by repeat (with_reducible first | exact HB.out | apply p3_ | apply p1_ | apply p2_ | refine bs_ ?_ GE159.out)⟩
      replace c13 := e3_ c13
      subst c13
      have H1 : (pinfoldref11_Of.l0 kj4 l0 a1 a2 (wrap64 (x8_1 + 1))) = some (r1, r2, r3, r4, r5, r6, r7) := by rw [if_neg (show ¬ (false = true) by decide)] at H; exact H
      clear H
      have H := H1
      clear H1
      have H' := am_ H
      clear H
      have p161 : 0 ≤ (x8_1 : Int) := of_decide_eq_true (by first | (with_reducible assumption) | assumption)
      have q161 : x8_1 < (l0.length : Int) := of_decide_eq_true (by first | (with_reducible assumption) | assumption)
      obtain ⟨ad161, e161, hx161_0, hx161_1, hx161_2, hx161_3, hx161_4, hx161_5⟩ := at_T37 HR0.out x8_1 p161 q161
      cases e161
      replace hx161_0 := (HB.out.cell (wb_ w _ hx161_0)).trans hx161_0
      replace hx161_1 := (HB.out.cell (wb_ w _ hx161_1)).trans hx161_1
      replace hx161_2 := (HB.out.cell (wb_ w _ hx161_2)).trans hx161_2
      replace hx161_3 := (HB.out.cell (wb_ w _ hx161_3)).trans hx161_3
      replace hx161_4 := (HB.out.cell (wb_ w _ hx161_4)).trans hx161_4
      replace hx161_5 := (HB.out.cell (wb_ w _ hx161_5)).trans hx161_5
      replace p161 := eq_true p161
      replace q161 := eq_true q161
      go_wp2_with (first | ((with_reducible refine gate_callee (f := 58) rfl ?_); refine goesL_ (some 25) rfl rfl Try.func58 (by kernel_rfl) rfl #[.agg #[.int .i64 ((rd_T37 l0 x8_1).f0), .int .i64 ((rd_T37 l0 x8_1).f1), .string ((rd_T37 l0 x8_1).f2), .int .i64 ((rd_T37 l0 x8_1).f3), .string ((rd_T37 l0 x8_1).f4), .bool ((rd_T37 l0 x8_1).f5)], .string a1, .int .i64 a2] rfl (by (try simp only [List.map_toArray, List.map_cons, List.map_nil]); first | done | rfl | (simp only [List.length_drop, List.length_take]; rfl)) ?_; (with_reducible refine (pinfoldref11_his_c.calls ((rd_T37 l0 x8_1).f0) ((rd_T37 l0 x8_1).f1) ((rd_T37 l0 x8_1).f2) ((rd_T37 l0 x8_1).f3) ((rd_T37 l0 x8_1).f4) ((rd_T37 l0 x8_1).f5) a1 a2 false _ A12.out).mono ?_); rintro e w16 ⟨rfl, hb⟩; refine ⟨_, rfl, ?_⟩; have n0_ := am_ (kb_ (g := gb159) (o := .cells #[.int .i64 x160000_1, .int .i64 x160001_1, .string x160002_1, .int .i64 x160003_1, .string x160004_1, .bool x160005_1] 37 (0, 0)) (by (with_reducible repeat (first | refine k2_ ?_ _ | refine k3_ ?_ | refine k1_ ?_ _)); exact BK159.out) hb); have n1_ := am_ (bt_ (by repeat (with_reducible first | exact HB.out | apply p3_ | apply p1_ | apply p2_ | refine bs_ ?_ GE159.out)) hb); clear BK159; clear HB; have BK159 := n0_; have HB := n1_; clear n0_ n1_; (try clear hb)))
      go_roundg kj4
      case measure => have := HK1.out; have := HJ4.out; omega
      case rel => exact ⟨(wrap64 (x8_1 + 1)), (x160000_1), (x160001_1), (x160002_1), (x160003_1), (x160004_1), (x160005_1), (by first | rfl | (simp; done) | (simp [*]; done)), H', ⟨by have := HK1.out; have := HJ4.out; omega⟩, ⟨by (with_reducible repeat (first | refine k2_ ?_ _ | refine k3_ ?_ | refine k1_ ?_ _)); exact BK159.out⟩, ⟨by repeat (with_reducible first | exact HB.out | apply p3_ | apply p1_ | apply p2_ | refine bs_ ?_ GE159.out)⟩⟩
     replace c9 := e3_ c9
     subst c9
     have H1 : (some (0, 0, (⟨#[]⟩ : ByteArray), 0, (⟨#[]⟩ : ByteArray), false, false)) = some (r1, r2, r3, r4, r5, r6, r7) := by rw [if_neg (show ¬ (false = true) by decide)] at H; exact H
     clear H
     have H := H1
     clear H1
     simp only [Option.some.injEq, Prod.mk.injEq] at H
     obtain ⟨rfl, rfl, rfl, rfl, rfl, rfl, rfl⟩ := H
     have hcz17_0 : wc.cell? ⟨gb159, 0, none⟩ = some (.int .i64 x160000_1) := (bc_ BK159.out 0).trans rfl; have hcz17_1 : wc.cell? ⟨gb159, 1, none⟩ = some (.int .i64 x160001_1) := (bc_ BK159.out 1).trans rfl; have hcz17_2 : wc.cell? ⟨gb159, 2, none⟩ = some (.string x160002_1) := (bc_ BK159.out 2).trans rfl; have hcz17_3 : wc.cell? ⟨gb159, 3, none⟩ = some (.int .i64 x160003_1) := (bc_ BK159.out 3).trans rfl; have hcz17_4 : wc.cell? ⟨gb159, 4, none⟩ = some (.string x160004_1) := (bc_ BK159.out 4).trans rfl; have hcz17_5 : wc.cell? ⟨gb159, 5, none⟩ = some (.bool x160005_1) := (bc_ BK159.out 5).trans rfl; have hfz17_0 := bf_ BK159.out 0; have hfz17_1 := bf_ BK159.out 1; have hfz17_2 := bf_ BK159.out 2; have hfz17_3 := bf_ BK159.out 3; have hfz17_4 := bf_ BK159.out 4; have hfz17_5 := bf_ BK159.out 5
     go_wp2
     refine bodyPost_ret (results_ct rfl _ _ gb159 37 #[.int .i64 0, .int .i64 0, .string (⟨#[]⟩ : ByteArray), .int .i64 0, .string (⟨#[]⟩ : ByteArray), .bool false] (0, 0) _ rfl (by (with_reducible repeat (first | refine k2_ ?_ _ | refine k3_ ?_ | refine k1_ ?_ _)); refine blk_put (cs := #[.int .i64 0, .int .i64 0, .string (⟨#[]⟩ : ByteArray), .int .i64 0, .string (⟨#[]⟩ : ByteArray), .bool x160005_1]) ?_ 5 _ rfl; (with_reducible repeat (first | refine k2_ ?_ _ | refine k3_ ?_ | refine k1_ ?_ _)); refine blk_put (cs := #[.int .i64 0, .int .i64 0, .string (⟨#[]⟩ : ByteArray), .int .i64 0, .string x160004_1, .bool x160005_1]) ?_ 4 _ rfl; (with_reducible repeat (first | refine k2_ ?_ _ | refine k3_ ?_ | refine k1_ ?_ _)); refine blk_put (cs := #[.int .i64 0, .int .i64 0, .string (⟨#[]⟩ : ByteArray), .int .i64 x160003_1, .string x160004_1, .bool x160005_1]) ?_ 3 _ rfl; (with_reducible repeat (first | refine k2_ ?_ _ | refine k3_ ?_ | refine k1_ ?_ _)); refine blk_put (cs := #[.int .i64 0, .int .i64 0, .string x160002_1, .int .i64 x160003_1, .string x160004_1, .bool x160005_1]) ?_ 2 _ rfl; (with_reducible repeat (first | refine k2_ ?_ _ | refine k3_ ?_ | refine k1_ ?_ _)); refine blk_put (cs := #[.int .i64 0, .int .i64 x160001_1, .string x160002_1, .int .i64 x160003_1, .string x160004_1, .bool x160005_1]) ?_ 1 _ rfl; (with_reducible repeat (first | refine k2_ ?_ _ | refine k3_ ?_ | refine k1_ ?_ _)); refine blk_put (cs := #[.int .i64 x160000_1, .int .i64 x160001_1, .string x160002_1, .int .i64 x160003_1, .string x160004_1, .bool x160005_1]) ?_ 0 _ rfl; (with_reducible repeat (first | refine k2_ ?_ _ | refine k3_ ?_ | refine k1_ ?_ _)); exact BK159.out) Try.underlying37 rfl (by kernel_rfl)) rfl ?_
     exact ⟨by first | rfl | (simp [errW_none, errW_some] <;> rfl) | (simp [*, errW_none, errW_some] <;> rfl), by repeat (with_reducible first | exact HB.out | apply p3_ | apply p1_ | apply p2_ | refine bs_ ?_ GE159.out)⟩

/-! ### pinfoldref11_Of_c: function 23 -/
theorem refof_l0 (ls : List S37) (ht : tabFitR ls) (c : ByteArray) (now : Int) : ∀ (d k i : Nat), i + d = ls.length → 2 * d + 2 ≤ k → pinfoldref11_Of.l0 k ls c now (i : Int) = some ((gotL (if tableB ls = true then (ls.drop i).find? (holdsX c now) else none)).f0, (gotL (if tableB ls = true then (ls.drop i).find? (holdsX c now) else none)).f1, (gotL (if tableB ls = true then (ls.drop i).find? (holdsX c now) else none)).f2, (gotL (if tableB ls = true then (ls.drop i).find? (holdsX c now) else none)).f3, (gotL (if tableB ls = true then (ls.drop i).find? (holdsX c now) else none)).f4, (gotL (if tableB ls = true then (ls.drop i).find? (holdsX c now) else none)).f5, (if tableB ls = true then (ls.drop i).find? (holdsX c now) else none).isSome)
 | 0, k, i, hi, hk => by
  obtain ⟨k, rfl⟩ : ∃ j, k = j + 2 := ⟨k - 2, by omega⟩
  rw [List.drop_eq_nil_of_le (by omega), pinfoldref11_Of.l0, if_neg (by omega), pinfoldref11_Of.j1, if_neg (by decide), List.find?_nil, ite_self]
  rfl
 | d + 1, k, i, hi, hk => by
  obtain ⟨k, rfl⟩ : ∃ j, k = j + 2 := ⟨k - 2, by omega⟩
  have hlt : i < ls.length := by omega
  have ih := refof_l0 ls ht c now d k (i + 1) (by omega) (by omega)
  rw [pinfoldref11_Of.l0, if_pos (by omega)]
  unfold pinfoldref11_TableMay_c.f
  rw [if_pos ht, Option.bind_some, pinfoldref11_Of.j1, List.drop_eq_getElem_cons hlt]
  cases hT : tableB ls with
  | false => rfl
  | true =>
   have hsz := ht.2 ls[i] (List.getElem_mem hlt)
   rw [hT] at ih
   rw [if_pos rfl, if_pos (by omega), if_pos (by omega), wrap_succ i ls.length hlt ht.1, ih, rdLease_get ls i hlt]
   unfold pinfoldref11_his_c.f
   rw [if_pos hsz, Option.bind_some]
   have e1 : holdsB ls[i].f0 ls[i].f1 ls[i].f2 ls[i].f3 ls[i].f4 ls[i].f5 c now = holdsX c now ls[i] := rfl
   rw [e1]
   simp only [if_true] at ih ⊢
   rw [List.find?_cons]
   cases holdsX c now ls[i] <;> rfl
def pinfoldref11_Of_c.f (l1 : List S37) (client : ByteArray) (now : Int) : Option (Int × Int × ByteArray × Int × ByteArray × Bool × Bool) := if tabFitR l1 then some ((gotL (ofL l1 client now)).f0, (gotL (ofL l1 client now)).f1, (gotL (ofL l1 client now)).f2, (gotL (ofL l1 client now)).f3, (gotL (ofL l1 client now)).f4, (gotL (ofL l1 client now)).f5, (ofL l1 client now).isSome) else none
theorem pinfoldref11_Of_c.calls (A0 : Option Addr) (c0 : Nat) (l0 : List S37) (a1 : ByteArray) (a2 : Int) (r1 : Int) (r2 : Int) (r3 : ByteArray) (r4 : Int) (r5 : ByteArray) (r6 : Bool) (r7 : Bool) (w : World) (hr0 : Kd.C k37 w A0 l0.length l0) (hc0 : l0.length ≤ c0) (h : pinfoldref11_Of_c.f l0 a1 a2 = some (r1, r2, r3, r4, r5, r6, r7)) :
  Calls Try.prog 23 #[.slice A0 l0.length c0, .string a1, .int .i64 a2] w fun e w' => e = .returned (.tuple #[.agg #[.int .i64 r1, .int .i64 r2, .string r3, .int .i64 r4, .string r5, .bool r6], .bool r7]) ∧ Below w.heap.size w w' := by
 unfold pinfoldref11_Of_c.f at h
 by_cases hs : tabFitR l0
 ·rw [if_pos hs] at h
  have hof := refof_l0 l0 hs a1 a2 l0.length (2 * l0.length + 2) 0 (by omega) (by omega)
  rw [List.drop_zero, show ((0 : Nat) : Int) = 0 from rfl] at hof
  exact pinfoldref11_Of.calls (2 * l0.length + 2) A0 c0 l0 a1 a2 r1 r2 r3 r4 r5 r6 r7 w hr0 hc0 (hof.trans h)
 ·rw [if_neg hs] at h
  cases h

/-! ### pinfoldref11_clientMay: function 76 -/
def pinfoldref11_clientMay.f (a0 : ByteArray) : Option (Bool) := if (a0.size : Int) ≥ 1 then (some (decide ((a0.size : Int) ≤ 16))) else (some false)
set_option maxHeartbeats 8000000 in
set_option maxRecDepth 100000 in
theorem pinfoldref11_clientMay.calls (a0 : ByteArray) (r : Bool) (w : World) (h : pinfoldref11_clientMay.f a0 = some r) :
  Calls Try.prog 76 #[.string a0] w fun e w' => e = .returned (.bool r) ∧ Drawn0 w w' := by
 have H : (if (a0.size : Int) ≥ 1 then (some (decide ((a0.size : Int) ≤ 16))) else (some false)) = some r := h
 clear h
 by_cases c2 : (a0.size : Int) ≥ 1
 ·rw [if_pos c2] at H
  have c2b0 : decide (1 ≤ (a0.size : Int)) = true := decide_eq_true c2
  have c2b1 : decide (1 ≤ a0.size) = true := decide_eq_true (by omega)
  clear c2
  obtain rfl := e5_ H
  go_enter Try.func76, Try.ntmps76
  go_wp2
  go_ret
  exact ⟨by first | rfl | (simp; done) | (simp [*]; done), by repeat (first | exact Drawn0.refl _ | apply Drawn0.step)⟩
 rw [if_neg c2] at H
 have c2b0 : decide (1 ≤ (a0.size : Int)) = false := decide_eq_false c2
 have c2b1 : decide (1 ≤ a0.size) = false := decide_eq_false (by omega)
 clear c2
 obtain rfl := e5_ H
 go_enter Try.func76, Try.ntmps76
 go_wp2
 go_ret
 exact ⟨by first | rfl | (simp; done) | (simp [*]; done), by repeat (first | exact Drawn0.refl _ | apply Drawn0.step)⟩

/-! ### pinfoldref11_clientMay_c: function 76 -/
def pinfoldref11_clientMay_c.f (a0 : ByteArray) : Option Bool := some (clientB a0)
theorem pinfoldref11_clientMay_c.calls (a0 : ByteArray) (r : Bool) (w : World) (h : pinfoldref11_clientMay_c.f a0 = some r) :
  Calls Try.prog 76 #[.string a0] w fun e w' => e = .returned (.bool r) ∧ Drawn0 w w' := by
 refine pinfoldref11_clientMay.calls a0 r w ?_
 rw [← h]
 unfold pinfoldref11_clientMay.f pinfoldref11_clientMay_c.f clientB
 by_cases q : (a0.size : Int) ≥ 1
 ·rw [if_pos q]
  congr 1
  rw [Bool.eq_iff_iff, decide_eq_true_eq, decide_eq_true_eq]
  omega
 ·rw [if_neg q]
  congr 1
  symm
  rw [decide_eq_false_iff_not]
  omega

end Go.Proofs.Ytibmakpghbinbaa.PS
