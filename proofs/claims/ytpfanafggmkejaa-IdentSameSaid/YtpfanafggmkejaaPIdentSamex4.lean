-- Made by wip/pr.py out of the translation (a turned copy of the kit's print; contracts by hand where said).
import Derived.Test.YtpfanafggmkejaaPIdentSamex0
import Derived.Test.YtpfanafggmkejaaPIdentSamex1
import Derived.Test.YtpfanafggmkejaaPIdentSamex2
import Derived.Test.YtpfanafggmkejaaPIdentSamex3
namespace Go.Proofs.Ytpfanafggmkejaa.PIdentSame
open Go.RowKit Go.Proofs.YtpfanafggmkejaaW.PrintWords Go.Proofs.YtpfanafggmkejaaW.PrintLast Go.Proofs.YtpfanafggmkejaaW.PrintMore
attribute [local go_sem] max2_int min2_int max_two min_two max_three min_three max_four min_four   -- for this text's walks alone
set_option linter.unusedVariables false
set_option linter.unusedSimpArgs false

/-! ### pinfoldlaw9_IdentSame: function 13 -/
-- BY HAND
theorem pinfoldlaw9_IdentSame.cell_at {w : World} {g : Nat} {t : TypeId} {cs : Array Value} (h : w.heap[g]? = some (.cells cs t (0, 0))) (i : Nat) (v : Value) (hv : cs[i]? = some v) : w.cell? ⟨g, i, none⟩ = some v := (blk_cell h i).trans hv
theorem pinfoldlaw9_IdentSame.one {W : World} {b : Nat} {v : Value} {a0 : ByteArray} (hb : b < W.heap.size) : Kd.C k65 ((W.alloc (.cells #[.int .i64 61, .string a0] 65)).setCell ⟨b, 11, none⟩ v) (some ⟨W.heap.size, 0, none⟩) 1 [(⟨61, a0⟩ : S65)] := by
  have hh : ((W.alloc (.cells #[.int .i64 61, .string a0] 65)).setCell ⟨b, 11, none⟩ v).heap[W.heap.size]? = some (.cells #[.int .i64 61, .string a0] 65 (0, 0)) := by
    rw [RowKit.Below.heap_setCell _ _ _ _ (by show W.heap.size ≠ b; omega)]
    exact blk_new W _
  refine ⟨rfl, by decide, fun _ => ⟨_, rfl, fun j p hj => ?_⟩⟩
  match j, hj with
  | 0, hj =>
    obtain rfl : (⟨61, a0⟩ : S65) = p := by simpa using hj
    refine ⟨[.int .i64 61, .string a0], rfl, k65_mk _ _, fun i u hu => ?_⟩
    match i, hu with
    | 0, hu => exact (blk_cell hh 0).trans hu
    | 1, hu => exact (blk_cell hh 1).trans hu
    | i + 2, hu => simp at hu
  | j + 1, hj => simp at hj
theorem pinfoldlaw9_IdentSame.stay {W : World} {g : Nat} {o o1 : Obj} {a : Addr} {v : Value} (h : W.heap[g]? = some o1) (hne : g ≠ a.block) : ((W.alloc o).setCell a v).heap[g]? = some o1 := by
  rw [RowKit.Below.heap_setCell _ _ _ _ hne]
  exact blk_below h (below_alloc (Below.refl _ _) _)
/-- what is asked, in the program's own row. -/
def pinfoldlaw9_IdentSame.f (k : Nat) (a0 : ByteArray) (a1 : ByteArray) (a2_0 : Int) (a2_1 : Int) (a2_2 : Int) (a2_3 : Int) (a2_4 : Int) (a2_5 : Int) (a2_6 : Int) (a2_7 : Int) (a2_8 : Int) (a2_9 : Int) (a2_10 : ByteArray) (l2_11 : List S65) : Option Bool :=
  (pinfoldlaw9_awake.f k).bind fun t => if t = true then ((pinfoldref1_PacketMay.f a2_0 a2_1 a2_2 a2_3 a2_4 a2_5 a2_6 a2_7 a2_8 a2_9 a2_10 l2_11).bind fun m => if m = true then (if a0.size ≤ 16 then (if a1.size ≤ 15 then
    ((ident_Client.f k a2_0 a2_1 a2_2 a2_3 a2_4 a2_5 a2_6 a2_7 a2_8 a2_9 a1 ([] : List S65)).bind fun p => (ident_Client.f k a2_0 a2_1 a2_2 a2_3 a2_4 a2_5 a2_6 a2_7 a2_8 a2_9 a1 [(⟨61, a0⟩ : S65)]).bind fun q =>
      if (p.2 = 0 ↔ 0 < a1.size) ∧ (a1.size = 0 ∨ p.1.toList = ((strOfNums [a2_1 % 256]) ++ a1).toList) ∧ (q.2 = 0 ↔ 0 < a0.size) ∧ (a0.size = 0 ∨ q.1.toList = a0.toList) then some true else none)
    else some true) else some true) else some true) else none
theorem pinfoldlaw9_IdentSame.mono : ∀ a0 a1 a2_0 a2_1 a2_2 a2_3 a2_4 a2_5 a2_6 a2_7 a2_8 a2_9 a2_10 l2_11 k, LeO (pinfoldlaw9_IdentSame.f k a0 a1 a2_0 a2_1 a2_2 a2_3 a2_4 a2_5 a2_6 a2_7 a2_8 a2_9 a2_10 l2_11) (pinfoldlaw9_IdentSame.f (k + 1) a0 a1 a2_0 a2_1 a2_2 a2_3 a2_4 a2_5 a2_6 a2_7 a2_8 a2_9 a2_10 l2_11) := by
  intro a0 a1 a2_0 a2_1 a2_2 a2_3 a2_4 a2_5 a2_6 a2_7 a2_8 a2_9 a2_10 l2_11 k
  unfold pinfoldlaw9_IdentSame.f
  repeat' first
      | (with_reducible exact pinfoldlaw9_awake.mono _)
      | (with_reducible exact ident_Client.mono _ _ _ _ _ _ _ _ _ _ _ _ _)
      | (with_reducible exact LeO.refl _)
      | (with_reducible exact LeO.none _)
      | (with_reducible refine LeO.ite ?_ ?_)
      | (with_reducible refine LeO.bind ?_ (fun _ => ?_))
set_option maxHeartbeats 8000000 in
set_option maxRecDepth 100000 in
theorem pinfoldlaw9_IdentSame.calls (k : Nat) (a0 : ByteArray) (a1 : ByteArray) (a2_0 : Int) (a2_1 : Int) (a2_2 : Int) (a2_3 : Int) (a2_4 : Int) (a2_5 : Int) (a2_6 : Int) (a2_7 : Int) (a2_8 : Int) (a2_9 : Int) (a2_10 : ByteArray) (A2_11 : Option Addr) (c2_11 : Nat) (l2_11 : List (S65)) (r : Bool) (w : World) (hr2_11 : Kd.C k65 w A2_11 l2_11.length l2_11) (hc2_11 : l2_11.length ≤ c2_11) (h : pinfoldlaw9_IdentSame.f k a0 a1 a2_0 a2_1 a2_2 a2_3 a2_4 a2_5 a2_6 a2_7 a2_8 a2_9 a2_10 l2_11 = some r) :
    Calls Try.prog 13 #[.string a0, .string a1, .agg #[.int .i64 a2_0, .int .i64 a2_1, .int .i64 a2_2, .int .i64 a2_3, .int .i64 a2_4, .int .i64 a2_5, .int .i64 a2_6, .int .i64 a2_7, .int .i64 a2_8, .int .i64 a2_9, .string a2_10, .slice A2_11 l2_11.length c2_11]] w fun e w' => e = .returned (.bool r) ∧ Below w.heap.size w w' := by
  have HR := Aside0.mk hr2_11
  have HC := Aside0.mk hc2_11
  clear hr2_11 hc2_11
  unfold pinfoldlaw9_IdentSame.f at h
  replace h := Option.bind_eq_some_iff.1 h
  obtain ⟨t, hA, h⟩ := h
  by_cases ht : t = true
  rotate_left
  · rw [if_neg ht] at h
    cases h
  subst ht
  rw [if_pos rfl] at h
  replace h := Option.bind_eq_some_iff.1 h
  obtain ⟨m, hM, h⟩ := h
  have HW := fun W => pinfoldlaw9_awake.calls k true W hA
  have HM := Aside0.mk (fun W hr => pinfoldref1_PacketMay.calls a2_0 a2_1 a2_2 a2_3 a2_4 a2_5 a2_6 a2_7 a2_8 a2_9 a2_10 A2_11 c2_11 l2_11 m W hr HC.out hM)
  have HNum := fun x W => pinfoldlaw0_Num.calls x x W rfl
  clear hA hM
  have HB := Aside0.mk (Below.refl w.heap.size w)
  have early : m = false ∨ 16 < a0.size ∨ 15 < a1.size → r = true → Calls Try.prog 13 #[.string a0, .string a1, .agg #[.int .i64 a2_0, .int .i64 a2_1, .int .i64 a2_2, .int .i64 a2_3, .int .i64 a2_4, .int .i64 a2_5, .int .i64 a2_6, .int .i64 a2_7, .int .i64 a2_8, .int .i64 a2_9, .string a2_10, .slice A2_11 l2_11.length c2_11]] w fun e w' => e = .returned (.bool r) ∧ Below w.heap.size w w' := by
    rintro hq rfl
    clear h
    cases m with
    | false =>
      go_enter Try.func13, Try.ntmps13
      go_wp2_with (first
        | (go_at_call 35; with_reducible refine (HW _).mono ?_; rintro e w1 ⟨rfl, hb1⟩; have e0 := blk_below (blk_new w (.cells #[.int .i64 a2_0, .int .i64 a2_1, .int .i64 a2_2, .int .i64 a2_3, .int .i64 a2_4, .int .i64 a2_5, .int .i64 a2_6, .int .i64 a2_7, .int .i64 a2_8, .int .i64 a2_9, .string a2_10, .slice A2_11 l2_11.length c2_11] 54)) hb1; have hp0 := (blk_cell e0 0); have hp1 := (blk_cell e0 1); have hp2 := (blk_cell e0 2); have hp3 := (blk_cell e0 3); have hp4 := (blk_cell e0 4); have hp5 := (blk_cell e0 5); have hp6 := (blk_cell e0 6); have hp7 := (blk_cell e0 7); have hp8 := (blk_cell e0 8); have hp9 := (blk_cell e0 9); have hp10 := (blk_cell e0 10); have hp11 := (blk_cell e0 11); replace HB := Aside0.mk (below_step ((Below.refl _ w).alloc (Nat.le_refl _) _) hb1); clear hb1 e0)
        | (go_at_call 36; refine (HM.out _ (Kd.C_below HR.out HB.out)).mono ?_; rintro e w2 ⟨rfl, hb2⟩; replace HB := Aside0.mk (below_step HB.out hb2); clear hb2))
      go_ret
      exact ⟨rfl, HB.out⟩
    | true =>
      have hq1 : 16 < a0.size ∨ 15 < a1.size := by simpa using hq
      by_cases c16 : 16 < a0.size
      · have c16b : decide ((16 : Int) < (a0.size : Int)) = true := decide_eq_true (by omega)
        go_enter Try.func13, Try.ntmps13
        go_wp2_with (first
          | (go_at_call 35; with_reducible refine (HW _).mono ?_; rintro e w1 ⟨rfl, hb1⟩; have E0 := Aside0.mk (blk_below (blk_new w (.cells #[.int .i64 a2_0, .int .i64 a2_1, .int .i64 a2_2, .int .i64 a2_3, .int .i64 a2_4, .int .i64 a2_5, .int .i64 a2_6, .int .i64 a2_7, .int .i64 a2_8, .int .i64 a2_9, .string a2_10, .slice A2_11 l2_11.length c2_11] 54)) hb1); have e0 := E0.out; have hp0 := (blk_cell e0 0); have hp1 := (blk_cell e0 1); have hp2 := (blk_cell e0 2); have hp3 := (blk_cell e0 3); have hp4 := (blk_cell e0 4); have hp5 := (blk_cell e0 5); have hp6 := (blk_cell e0 6); have hp7 := (blk_cell e0 7); have hp8 := (blk_cell e0 8); have hp9 := (blk_cell e0 9); have hp10 := (blk_cell e0 10); have hp11 := (blk_cell e0 11); replace HB := Aside0.mk (below_step ((Below.refl _ w).alloc (Nat.le_refl _) _) hb1); clear hb1 e0)
          | (go_at_call 36; refine (HM.out _ (Kd.C_below HR.out HB.out)).mono ?_; rintro e w2 ⟨rfl, hb2⟩; have E2 := Aside0.mk (blk_below E0.out hb2); have e2 := E2.out; have hq0 := (blk_cell e2 0); have hq1 := (blk_cell e2 1); have hq2 := (blk_cell e2 2); have hq3 := (blk_cell e2 3); have hq4 := (blk_cell e2 4); have hq5 := (blk_cell e2 5); have hq6 := (blk_cell e2 6); have hq7 := (blk_cell e2 7); have hq8 := (blk_cell e2 8); have hq9 := (blk_cell e2 9); have hq10 := (blk_cell e2 10); have hq11 := (blk_cell e2 11); replace HB := Aside0.mk (below_step HB.out hb2); clear hb2 e2))
        go_ret
        exact ⟨rfl, HB.out⟩
      · have c16b : decide ((16 : Int) < (a0.size : Int)) = false := decide_eq_false (by omega)
        have c15b : decide ((15 : Int) < (a1.size : Int)) = true := decide_eq_true (by omega)
        go_enter Try.func13, Try.ntmps13
        go_wp2_with (first
          | (go_at_call 35; with_reducible refine (HW _).mono ?_; rintro e w1 ⟨rfl, hb1⟩; have E0 := Aside0.mk (blk_below (blk_new w (.cells #[.int .i64 a2_0, .int .i64 a2_1, .int .i64 a2_2, .int .i64 a2_3, .int .i64 a2_4, .int .i64 a2_5, .int .i64 a2_6, .int .i64 a2_7, .int .i64 a2_8, .int .i64 a2_9, .string a2_10, .slice A2_11 l2_11.length c2_11] 54)) hb1); have e0 := E0.out; have hp0 := (blk_cell e0 0); have hp1 := (blk_cell e0 1); have hp2 := (blk_cell e0 2); have hp3 := (blk_cell e0 3); have hp4 := (blk_cell e0 4); have hp5 := (blk_cell e0 5); have hp6 := (blk_cell e0 6); have hp7 := (blk_cell e0 7); have hp8 := (blk_cell e0 8); have hp9 := (blk_cell e0 9); have hp10 := (blk_cell e0 10); have hp11 := (blk_cell e0 11); replace HB := Aside0.mk (below_step ((Below.refl _ w).alloc (Nat.le_refl _) _) hb1); clear hb1 e0)
          | (go_at_call 36; refine (HM.out _ (Kd.C_below HR.out HB.out)).mono ?_; rintro e w2 ⟨rfl, hb2⟩; have E2 := Aside0.mk (blk_below E0.out hb2); have e2 := E2.out; have hq0 := (blk_cell e2 0); have hq1 := (blk_cell e2 1); have hq2 := (blk_cell e2 2); have hq3 := (blk_cell e2 3); have hq4 := (blk_cell e2 4); have hq5 := (blk_cell e2 5); have hq6 := (blk_cell e2 6); have hq7 := (blk_cell e2 7); have hq8 := (blk_cell e2 8); have hq9 := (blk_cell e2 9); have hq10 := (blk_cell e2 10); have hq11 := (blk_cell e2 11); replace HB := Aside0.mk (below_step HB.out hb2); clear hb2 e2))
        go_ret
        exact ⟨rfl, HB.out⟩
  by_cases hm : m = true
  rotate_left
  · rw [if_neg hm] at h
    exact early (Or.inl (by simpa using hm)) (Option.some.inj h).symm
  rw [if_pos hm] at h
  by_cases h16 : a0.size ≤ 16
  rotate_left
  · rw [if_neg h16] at h
    exact early (Or.inr (Or.inl (by omega))) (Option.some.inj h).symm
  rw [if_pos h16] at h
  by_cases h15 : a1.size ≤ 15
  rotate_left
  · rw [if_neg h15] at h
    exact early (Or.inr (Or.inr (by omega))) (Option.some.inj h).symm
  rw [if_pos h15] at h
  clear early
  subst hm
  replace h := Option.bind_eq_some_iff.1 h
  obtain ⟨⟨p1, p2⟩, hP, h⟩ := h
  replace h := Option.bind_eq_some_iff.1 h
  obtain ⟨⟨q1, q2⟩, hQ, h⟩ := h
  simp only at h
  by_cases hc : (p2 = 0 ↔ 0 < a1.size) ∧ (a1.size = 0 ∨ p1.toList = ((strOfNums [a2_1 % 256]) ++ a1).toList) ∧ (q2 = 0 ↔ 0 < a0.size) ∧ (a0.size = 0 ∨ q1.toList = a0.toList)
  rotate_left
  · rw [if_neg hc] at h
    cases h
  rw [if_pos hc] at h
  obtain rfl := Option.some.inj h
  clear h
  have HP := Aside0.mk (show ∀ W : World, Calls Try.prog 30 #[.agg #[.int .i64 a2_0, .int .i64 a2_1, .int .i64 a2_2, .int .i64 a2_3, .int .i64 a2_4, .int .i64 a2_5, .int .i64 a2_6, .int .i64 a2_7, .int .i64 a2_8, .int .i64 a2_9, .string a1, .slice none 0 0]] W fun e w' => e = .returned (.tuple #[.string p1, .int .i64 p2]) ∧ Below W.heap.size W w' from fun W => ident_Client.calls k a2_0 a2_1 a2_2 a2_3 a2_4 a2_5 a2_6 a2_7 a2_8 a2_9 a1 none 0 ([] : List S65) p1 p2 W (Kd.C_nil _ _) (Nat.le_refl _) hP)
  have HQ := Aside0.mk (show ∀ (W : World) (A : Option Addr), Kd.C k65 W A 1 [(⟨61, a0⟩ : S65)] → Calls Try.prog 30 #[.agg #[.int .i64 a2_0, .int .i64 a2_1, .int .i64 a2_2, .int .i64 a2_3, .int .i64 a2_4, .int .i64 a2_5, .int .i64 a2_6, .int .i64 a2_7, .int .i64 a2_8, .int .i64 a2_9, .string a1, .slice A 1 1]] W fun e w' => e = .returned (.tuple #[.string q1, .int .i64 q2]) ∧ Below W.heap.size W w' from fun W A hr => ident_Client.calls k a2_0 a2_1 a2_2 a2_3 a2_4 a2_5 a2_6 a2_7 a2_8 a2_9 a1 A 1 [(⟨61, a0⟩ : S65)] q1 q2 W hr (Nat.le_refl _) hQ)
  clear hP hQ
  have d16 : decide ((16 : Int) < (a0.size : Int)) = false := decide_eq_false (by omega)
  have d15 : decide ((15 : Int) < (a1.size : Int)) = false := decide_eq_false (by omega)
  obtain ⟨hc1, hc2, hc3, hc4⟩ := hc
  by_cases z1 : a1.size = 0
  · have x1 : (p2 == 0) = false := beq_eq_false_iff_ne.2 (fun e => by have := hc1.1 e; omega)
    have x2 : decide ((0 : Int) < (a1.size : Int)) = false := decide_eq_false (by omega)
    have x2n : decide (0 < a1.size) = false := decide_eq_false (by omega)
    have x3 : ((a1.size : Int) == 0) = true := beq_iff_eq.2 (by omega)
    have x5 : (a1 = ByteArray.empty) = True := eq_true (ByteArray.size_eq_zero_iff.1 z1)
    by_cases z0 : a0.size = 0
    · have y1 : (q2 == 0) = false := beq_eq_false_iff_ne.2 (fun e => by have := hc3.1 e; omega)
      have y2 : decide ((0 : Int) < (a0.size : Int)) = false := decide_eq_false (by omega)
      have y2n : decide (0 < a0.size) = false := decide_eq_false (by omega)
      have y3 : ((a0.size : Int) == 0) = true := beq_iff_eq.2 (by omega)
      have y5 : (a0 = ByteArray.empty) = True := eq_true (ByteArray.size_eq_zero_iff.1 z0)
      clear hc1 hc2 hc3 hc4 z1 z0 h16 h15
      go_enter Try.func13, Try.ntmps13
      go_wp2_with (first
          | (go_at_call 35; with_reducible refine (HW _).mono ?_; rintro e w1 ⟨rfl, hb1⟩; have E0 := Aside0.mk (blk_below (blk_new w (.cells #[.int .i64 a2_0, .int .i64 a2_1, .int .i64 a2_2, .int .i64 a2_3, .int .i64 a2_4, .int .i64 a2_5, .int .i64 a2_6, .int .i64 a2_7, .int .i64 a2_8, .int .i64 a2_9, .string a2_10, .slice A2_11 l2_11.length c2_11] 54)) hb1); have e0 := E0.out; have hp0 := (blk_cell e0 0); have hp1 := (blk_cell e0 1); have hp2 := (blk_cell e0 2); have hp3 := (blk_cell e0 3); have hp4 := (blk_cell e0 4); have hp5 := (blk_cell e0 5); have hp6 := (blk_cell e0 6); have hp7 := (blk_cell e0 7); have hp8 := (blk_cell e0 8); have hp9 := (blk_cell e0 9); have hp10 := (blk_cell e0 10); have hp11 := (blk_cell e0 11); replace HB := Aside0.mk (below_step ((Below.refl _ w).alloc (Nat.le_refl _) _) hb1); clear hb1 e0)
          | (go_at_call 36; refine (HM.out _ (Kd.C_below HR.out HB.out)).mono ?_; rintro e w2 ⟨rfl, hb2⟩; have E2 := Aside0.mk (blk_below E0.out hb2); have e2 := E2.out; have hq0 := (blk_cell e2 0); have hq1 := (blk_cell e2 1); have hq2 := (blk_cell e2 2); have hq3 := (blk_cell e2 3); have hq4 := (blk_cell e2 4); have hq5 := (blk_cell e2 5); have hq6 := (blk_cell e2 6); have hq7 := (blk_cell e2 7); have hq8 := (blk_cell e2 8); have hq9 := (blk_cell e2 9); have hq10 := (blk_cell e2 10); have hq11 := (blk_cell e2 11); replace HB := Aside0.mk (below_step HB.out hb2); clear hb2 e2)
          | (go_at_call 30; with_reducible refine (HP.out _).mono ?_; rintro e w3 ⟨rfl, hb3⟩; have E3 := Aside0.mk (blk_below (blk_below E2.out (below_alloc (Below.refl _ _) _)) hb3); have F3 := Aside0.mk (blk_below (blk_new w2 (.cells #[.int .i64 a2_0, .int .i64 a2_1, .int .i64 a2_2, .int .i64 a2_3, .int .i64 a2_4, .int .i64 a2_5, .int .i64 a2_6, .int .i64 a2_7, .int .i64 a2_8, .int .i64 a2_9, .string a1, .slice none 0 0] 54)) hb3); have L3 := Aside0.mk (show w2.heap.size < w3.heap.size from blk_lt F3.out); have G3 := Aside0.mk (show w.heap.size ≤ w2.heap.size from HB.out.size); have e3 := F3.out; have S2 := Aside0.mk (blk_below F3.out (below_alloc (Below.refl _ _) (.cells #[.int .i64 61, .string a0] 65))); have hv11 : (w3.alloc (.cells #[.int .i64 61, .string a0] 65)).cell? ⟨w2.heap.size, 11, none⟩ = some (.slice none 0 0) := (blk_cell S2.out 11).trans rfl; have hz11 := blk_frozen S2.out 11; have S3 := Aside0.mk (blk_set (blk_below F3.out (below_alloc (Below.refl _ _) (.cells #[.int .i64 61, .string a0] 65))) 11 (.slice (some ⟨w3.heap.size, 0, none⟩) 1 1)); have hs0 : ((w3.alloc (.cells #[.int .i64 61, .string a0] 65)).setCell ⟨w2.heap.size, 11, none⟩ (.slice (some ⟨w3.heap.size, 0, none⟩) 1 1)).cell? ⟨w2.heap.size, 0, none⟩ = some (.int .i64 a2_0) := (blk_cell S3.out 0).trans rfl; have hs1 : ((w3.alloc (.cells #[.int .i64 61, .string a0] 65)).setCell ⟨w2.heap.size, 11, none⟩ (.slice (some ⟨w3.heap.size, 0, none⟩) 1 1)).cell? ⟨w2.heap.size, 1, none⟩ = some (.int .i64 a2_1) := (blk_cell S3.out 1).trans rfl; have hs2 : ((w3.alloc (.cells #[.int .i64 61, .string a0] 65)).setCell ⟨w2.heap.size, 11, none⟩ (.slice (some ⟨w3.heap.size, 0, none⟩) 1 1)).cell? ⟨w2.heap.size, 2, none⟩ = some (.int .i64 a2_2) := (blk_cell S3.out 2).trans rfl; have hs3 : ((w3.alloc (.cells #[.int .i64 61, .string a0] 65)).setCell ⟨w2.heap.size, 11, none⟩ (.slice (some ⟨w3.heap.size, 0, none⟩) 1 1)).cell? ⟨w2.heap.size, 3, none⟩ = some (.int .i64 a2_3) := (blk_cell S3.out 3).trans rfl; have hs4 : ((w3.alloc (.cells #[.int .i64 61, .string a0] 65)).setCell ⟨w2.heap.size, 11, none⟩ (.slice (some ⟨w3.heap.size, 0, none⟩) 1 1)).cell? ⟨w2.heap.size, 4, none⟩ = some (.int .i64 a2_4) := (blk_cell S3.out 4).trans rfl; have hs5 : ((w3.alloc (.cells #[.int .i64 61, .string a0] 65)).setCell ⟨w2.heap.size, 11, none⟩ (.slice (some ⟨w3.heap.size, 0, none⟩) 1 1)).cell? ⟨w2.heap.size, 5, none⟩ = some (.int .i64 a2_5) := (blk_cell S3.out 5).trans rfl; have hs6 : ((w3.alloc (.cells #[.int .i64 61, .string a0] 65)).setCell ⟨w2.heap.size, 11, none⟩ (.slice (some ⟨w3.heap.size, 0, none⟩) 1 1)).cell? ⟨w2.heap.size, 6, none⟩ = some (.int .i64 a2_6) := (blk_cell S3.out 6).trans rfl; have hs7 : ((w3.alloc (.cells #[.int .i64 61, .string a0] 65)).setCell ⟨w2.heap.size, 11, none⟩ (.slice (some ⟨w3.heap.size, 0, none⟩) 1 1)).cell? ⟨w2.heap.size, 7, none⟩ = some (.int .i64 a2_7) := (blk_cell S3.out 7).trans rfl; have hs8 : ((w3.alloc (.cells #[.int .i64 61, .string a0] 65)).setCell ⟨w2.heap.size, 11, none⟩ (.slice (some ⟨w3.heap.size, 0, none⟩) 1 1)).cell? ⟨w2.heap.size, 8, none⟩ = some (.int .i64 a2_8) := (blk_cell S3.out 8).trans rfl; have hs9 : ((w3.alloc (.cells #[.int .i64 61, .string a0] 65)).setCell ⟨w2.heap.size, 11, none⟩ (.slice (some ⟨w3.heap.size, 0, none⟩) 1 1)).cell? ⟨w2.heap.size, 9, none⟩ = some (.int .i64 a2_9) := (blk_cell S3.out 9).trans rfl; have hs10 : ((w3.alloc (.cells #[.int .i64 61, .string a0] 65)).setCell ⟨w2.heap.size, 11, none⟩ (.slice (some ⟨w3.heap.size, 0, none⟩) 1 1)).cell? ⟨w2.heap.size, 10, none⟩ = some (.string a1) := (blk_cell S3.out 10).trans rfl; have hs11 : ((w3.alloc (.cells #[.int .i64 61, .string a0] 65)).setCell ⟨w2.heap.size, 11, none⟩ (.slice (some ⟨w3.heap.size, 0, none⟩) 1 1)).cell? ⟨w2.heap.size, 11, none⟩ = some (.slice (some ⟨w3.heap.size, 0, none⟩) 1 1) := (blk_cell S3.out 11).trans rfl; have ho3 := (blk_cell E3.out 1); replace HB := Aside0.mk (below_step (HB.out.alloc HB.out.size _) hb3); clear hb3 e3)
          | (go_at_call 30; with_reducible refine (HQ.out _ (some ⟨w3.heap.size, 0, none⟩) (pinfoldlaw9_IdentSame.one L3.out)).mono ?_; rintro e w4 ⟨rfl, hb4⟩; have E4 := Aside0.mk (blk_below (pinfoldlaw9_IdentSame.stay (a := ⟨w2.heap.size, 11, none⟩) (o := .cells #[.int .i64 61, .string a0] 65) (v := .slice (some ⟨w3.heap.size, 0, none⟩) 1 1) E3.out (Nat.ne_of_lt (blk_lt E2.out))) hb4); have ho4 := (blk_cell E4.out 1); replace HB := Aside0.mk (below_step ((HB.out.alloc HB.out.size _).setCell G3.out _) hb4); clear hb4)
          | (go_at_call 20; with_reducible refine (HNum _ _).mono ?_; rintro e w5 ⟨rfl, hb5⟩; replace E4 := Aside0.mk (blk_below E4.out hb5.below); have ho5 := (blk_cell E4.out 1); replace HB := Aside0.mk (below_step HB.out hb5.below); clear hb5)
          | (go_at_call 20; with_reducible refine (HNum _ _).mono ?_; rintro e w5 ⟨rfl, hb5⟩; replace E4 := Aside0.mk (blk_below (blk_below E4.out (below_alloc (Below.refl _ _) (.cells #[.int .u8 (a2_1 % 256)] 5))) hb5.below); have ho5 := (blk_cell E4.out 1); replace HB := Aside0.mk (below_step (HB.out.alloc HB.out.size _) hb5.below); clear hb5))
      go_ret
      exact ⟨by rfl, HB.out⟩
    · have y1 : q2 = 0 := hc3.2 (by omega)
      have y2 : decide ((0 : Int) < (a0.size : Int)) = true := decide_eq_true (by omega)
      have y2n : (0 < a0.size) = True := eq_true (by omega)
      have y3 : ((a0.size : Int) == 0) = false := beq_eq_false_iff_ne.2 (by omega)
      have y5 : (a0 = ByteArray.empty) = False := eq_false (fun e => z0 (ByteArray.size_eq_zero_iff.2 e))
      have y4 : (q1.toList == a0.toList) = true := beq_iff_eq.2 (hc4.resolve_left z0)
      subst y1
      clear hc1 hc2 hc3 hc4 z1 z0 h16 h15
      go_enter Try.func13, Try.ntmps13
      go_wp2_with (first
          | (go_at_call 35; with_reducible refine (HW _).mono ?_; rintro e w1 ⟨rfl, hb1⟩; have E0 := Aside0.mk (blk_below (blk_new w (.cells #[.int .i64 a2_0, .int .i64 a2_1, .int .i64 a2_2, .int .i64 a2_3, .int .i64 a2_4, .int .i64 a2_5, .int .i64 a2_6, .int .i64 a2_7, .int .i64 a2_8, .int .i64 a2_9, .string a2_10, .slice A2_11 l2_11.length c2_11] 54)) hb1); have e0 := E0.out; have hp0 := (blk_cell e0 0); have hp1 := (blk_cell e0 1); have hp2 := (blk_cell e0 2); have hp3 := (blk_cell e0 3); have hp4 := (blk_cell e0 4); have hp5 := (blk_cell e0 5); have hp6 := (blk_cell e0 6); have hp7 := (blk_cell e0 7); have hp8 := (blk_cell e0 8); have hp9 := (blk_cell e0 9); have hp10 := (blk_cell e0 10); have hp11 := (blk_cell e0 11); replace HB := Aside0.mk (below_step ((Below.refl _ w).alloc (Nat.le_refl _) _) hb1); clear hb1 e0)
          | (go_at_call 36; refine (HM.out _ (Kd.C_below HR.out HB.out)).mono ?_; rintro e w2 ⟨rfl, hb2⟩; have E2 := Aside0.mk (blk_below E0.out hb2); have e2 := E2.out; have hq0 := (blk_cell e2 0); have hq1 := (blk_cell e2 1); have hq2 := (blk_cell e2 2); have hq3 := (blk_cell e2 3); have hq4 := (blk_cell e2 4); have hq5 := (blk_cell e2 5); have hq6 := (blk_cell e2 6); have hq7 := (blk_cell e2 7); have hq8 := (blk_cell e2 8); have hq9 := (blk_cell e2 9); have hq10 := (blk_cell e2 10); have hq11 := (blk_cell e2 11); replace HB := Aside0.mk (below_step HB.out hb2); clear hb2 e2)
          | (go_at_call 30; with_reducible refine (HP.out _).mono ?_; rintro e w3 ⟨rfl, hb3⟩; have E3 := Aside0.mk (blk_below (blk_below E2.out (below_alloc (Below.refl _ _) _)) hb3); have F3 := Aside0.mk (blk_below (blk_new w2 (.cells #[.int .i64 a2_0, .int .i64 a2_1, .int .i64 a2_2, .int .i64 a2_3, .int .i64 a2_4, .int .i64 a2_5, .int .i64 a2_6, .int .i64 a2_7, .int .i64 a2_8, .int .i64 a2_9, .string a1, .slice none 0 0] 54)) hb3); have L3 := Aside0.mk (show w2.heap.size < w3.heap.size from blk_lt F3.out); have G3 := Aside0.mk (show w.heap.size ≤ w2.heap.size from HB.out.size); have e3 := F3.out; have S2 := Aside0.mk (blk_below F3.out (below_alloc (Below.refl _ _) (.cells #[.int .i64 61, .string a0] 65))); have hv11 : (w3.alloc (.cells #[.int .i64 61, .string a0] 65)).cell? ⟨w2.heap.size, 11, none⟩ = some (.slice none 0 0) := (blk_cell S2.out 11).trans rfl; have hz11 := blk_frozen S2.out 11; have S3 := Aside0.mk (blk_set (blk_below F3.out (below_alloc (Below.refl _ _) (.cells #[.int .i64 61, .string a0] 65))) 11 (.slice (some ⟨w3.heap.size, 0, none⟩) 1 1)); have hs0 : ((w3.alloc (.cells #[.int .i64 61, .string a0] 65)).setCell ⟨w2.heap.size, 11, none⟩ (.slice (some ⟨w3.heap.size, 0, none⟩) 1 1)).cell? ⟨w2.heap.size, 0, none⟩ = some (.int .i64 a2_0) := (blk_cell S3.out 0).trans rfl; have hs1 : ((w3.alloc (.cells #[.int .i64 61, .string a0] 65)).setCell ⟨w2.heap.size, 11, none⟩ (.slice (some ⟨w3.heap.size, 0, none⟩) 1 1)).cell? ⟨w2.heap.size, 1, none⟩ = some (.int .i64 a2_1) := (blk_cell S3.out 1).trans rfl; have hs2 : ((w3.alloc (.cells #[.int .i64 61, .string a0] 65)).setCell ⟨w2.heap.size, 11, none⟩ (.slice (some ⟨w3.heap.size, 0, none⟩) 1 1)).cell? ⟨w2.heap.size, 2, none⟩ = some (.int .i64 a2_2) := (blk_cell S3.out 2).trans rfl; have hs3 : ((w3.alloc (.cells #[.int .i64 61, .string a0] 65)).setCell ⟨w2.heap.size, 11, none⟩ (.slice (some ⟨w3.heap.size, 0, none⟩) 1 1)).cell? ⟨w2.heap.size, 3, none⟩ = some (.int .i64 a2_3) := (blk_cell S3.out 3).trans rfl; have hs4 : ((w3.alloc (.cells #[.int .i64 61, .string a0] 65)).setCell ⟨w2.heap.size, 11, none⟩ (.slice (some ⟨w3.heap.size, 0, none⟩) 1 1)).cell? ⟨w2.heap.size, 4, none⟩ = some (.int .i64 a2_4) := (blk_cell S3.out 4).trans rfl; have hs5 : ((w3.alloc (.cells #[.int .i64 61, .string a0] 65)).setCell ⟨w2.heap.size, 11, none⟩ (.slice (some ⟨w3.heap.size, 0, none⟩) 1 1)).cell? ⟨w2.heap.size, 5, none⟩ = some (.int .i64 a2_5) := (blk_cell S3.out 5).trans rfl; have hs6 : ((w3.alloc (.cells #[.int .i64 61, .string a0] 65)).setCell ⟨w2.heap.size, 11, none⟩ (.slice (some ⟨w3.heap.size, 0, none⟩) 1 1)).cell? ⟨w2.heap.size, 6, none⟩ = some (.int .i64 a2_6) := (blk_cell S3.out 6).trans rfl; have hs7 : ((w3.alloc (.cells #[.int .i64 61, .string a0] 65)).setCell ⟨w2.heap.size, 11, none⟩ (.slice (some ⟨w3.heap.size, 0, none⟩) 1 1)).cell? ⟨w2.heap.size, 7, none⟩ = some (.int .i64 a2_7) := (blk_cell S3.out 7).trans rfl; have hs8 : ((w3.alloc (.cells #[.int .i64 61, .string a0] 65)).setCell ⟨w2.heap.size, 11, none⟩ (.slice (some ⟨w3.heap.size, 0, none⟩) 1 1)).cell? ⟨w2.heap.size, 8, none⟩ = some (.int .i64 a2_8) := (blk_cell S3.out 8).trans rfl; have hs9 : ((w3.alloc (.cells #[.int .i64 61, .string a0] 65)).setCell ⟨w2.heap.size, 11, none⟩ (.slice (some ⟨w3.heap.size, 0, none⟩) 1 1)).cell? ⟨w2.heap.size, 9, none⟩ = some (.int .i64 a2_9) := (blk_cell S3.out 9).trans rfl; have hs10 : ((w3.alloc (.cells #[.int .i64 61, .string a0] 65)).setCell ⟨w2.heap.size, 11, none⟩ (.slice (some ⟨w3.heap.size, 0, none⟩) 1 1)).cell? ⟨w2.heap.size, 10, none⟩ = some (.string a1) := (blk_cell S3.out 10).trans rfl; have hs11 : ((w3.alloc (.cells #[.int .i64 61, .string a0] 65)).setCell ⟨w2.heap.size, 11, none⟩ (.slice (some ⟨w3.heap.size, 0, none⟩) 1 1)).cell? ⟨w2.heap.size, 11, none⟩ = some (.slice (some ⟨w3.heap.size, 0, none⟩) 1 1) := (blk_cell S3.out 11).trans rfl; have ho3 := (blk_cell E3.out 1); replace HB := Aside0.mk (below_step (HB.out.alloc HB.out.size _) hb3); clear hb3 e3)
          | (go_at_call 30; with_reducible refine (HQ.out _ (some ⟨w3.heap.size, 0, none⟩) (pinfoldlaw9_IdentSame.one L3.out)).mono ?_; rintro e w4 ⟨rfl, hb4⟩; have E4 := Aside0.mk (blk_below (pinfoldlaw9_IdentSame.stay (a := ⟨w2.heap.size, 11, none⟩) (o := .cells #[.int .i64 61, .string a0] 65) (v := .slice (some ⟨w3.heap.size, 0, none⟩) 1 1) E3.out (Nat.ne_of_lt (blk_lt E2.out))) hb4); have ho4 := (blk_cell E4.out 1); replace HB := Aside0.mk (below_step ((HB.out.alloc HB.out.size _).setCell G3.out _) hb4); clear hb4)
          | (go_at_call 20; with_reducible refine (HNum _ _).mono ?_; rintro e w5 ⟨rfl, hb5⟩; replace E4 := Aside0.mk (blk_below E4.out hb5.below); have ho5 := (blk_cell E4.out 1); replace HB := Aside0.mk (below_step HB.out hb5.below); clear hb5)
          | (go_at_call 20; with_reducible refine (HNum _ _).mono ?_; rintro e w5 ⟨rfl, hb5⟩; replace E4 := Aside0.mk (blk_below (blk_below E4.out (below_alloc (Below.refl _ _) (.cells #[.int .u8 (a2_1 % 256)] 5))) hb5.below); have ho5 := (blk_cell E4.out 1); replace HB := Aside0.mk (below_step (HB.out.alloc HB.out.size _) hb5.below); clear hb5))
      go_ret
      exact ⟨by rfl, HB.out⟩
  · have x1 : p2 = 0 := hc1.2 (by omega)
    have x2 : decide ((0 : Int) < (a1.size : Int)) = true := decide_eq_true (by omega)
    have x2n : (0 < a1.size) = True := eq_true (by omega)
    have x3 : ((a1.size : Int) == 0) = false := beq_eq_false_iff_ne.2 (by omega)
    have x5 : (a1 = ByteArray.empty) = False := eq_false (fun e => z1 (ByteArray.size_eq_zero_iff.2 e))
    have x4 : (p1.toList == ((strOfNums [a2_1 % 256]) ++ a1).toList) = true := beq_iff_eq.2 (hc2.resolve_left z1)
    have c47 : (strOfNums [a2_1 % 256]).size + a1.size ≤ 9223372036854775807 := by
      rw [show (strOfNums [a2_1 % 256]).size = 1 from rfl]
      omega
    have c47b0 := eq_true c47
    have c47b1 : decide ((strOfNums [a2_1 % 256]).size + a1.size ≤ 9223372036854775807) = true := decide_eq_true c47
    have c47b2 : (9223372036854775807 < (strOfNums [a2_1 % 256]).size + a1.size) = False := eq_false (Nat.not_lt.2 c47)
    have hconv := fun W : World => run_convert_bytes_arg (P := Try.prog) (W.alloc (.cells #[.int .u8 (a2_1 % 256)] 5)) 28 5 Try.underlying28 Try.underlying5 W.heap.size 0 1 1 [a2_1 % 256] rfl (fun j hj => by
      obtain rfl : j = 0 := by omega
      exact (blk_cell (blk_new W _) 0).trans rfl) 9 Try.underlying9
    generalize strOfNums [a2_1 % 256] = hs_ at x4 c47b0 c47b1 c47b2 hconv
    subst x1
    clear c47
    by_cases z0 : a0.size = 0
    · have y1 : (q2 == 0) = false := beq_eq_false_iff_ne.2 (fun e => by have := hc3.1 e; omega)
      have y2 : decide ((0 : Int) < (a0.size : Int)) = false := decide_eq_false (by omega)
      have y2n : decide (0 < a0.size) = false := decide_eq_false (by omega)
      have y3 : ((a0.size : Int) == 0) = true := beq_iff_eq.2 (by omega)
      have y5 : (a0 = ByteArray.empty) = True := eq_true (ByteArray.size_eq_zero_iff.1 z0)
      clear hc1 hc2 hc3 hc4 z1 z0 h16 h15
      go_enter Try.func13, Try.ntmps13
      go_wp2_with (first
          | (go_at_call 35; with_reducible refine (HW _).mono ?_; rintro e w1 ⟨rfl, hb1⟩; have E0 := Aside0.mk (blk_below (blk_new w (.cells #[.int .i64 a2_0, .int .i64 a2_1, .int .i64 a2_2, .int .i64 a2_3, .int .i64 a2_4, .int .i64 a2_5, .int .i64 a2_6, .int .i64 a2_7, .int .i64 a2_8, .int .i64 a2_9, .string a2_10, .slice A2_11 l2_11.length c2_11] 54)) hb1); have e0 := E0.out; have hp0 := (blk_cell e0 0); have hp1 := (blk_cell e0 1); have hp2 := (blk_cell e0 2); have hp3 := (blk_cell e0 3); have hp4 := (blk_cell e0 4); have hp5 := (blk_cell e0 5); have hp6 := (blk_cell e0 6); have hp7 := (blk_cell e0 7); have hp8 := (blk_cell e0 8); have hp9 := (blk_cell e0 9); have hp10 := (blk_cell e0 10); have hp11 := (blk_cell e0 11); replace HB := Aside0.mk (below_step ((Below.refl _ w).alloc (Nat.le_refl _) _) hb1); clear hb1 e0)
          | (go_at_call 36; refine (HM.out _ (Kd.C_below HR.out HB.out)).mono ?_; rintro e w2 ⟨rfl, hb2⟩; have E2 := Aside0.mk (blk_below E0.out hb2); have e2 := E2.out; have hq0 := (blk_cell e2 0); have hq1 := (blk_cell e2 1); have hq2 := (blk_cell e2 2); have hq3 := (blk_cell e2 3); have hq4 := (blk_cell e2 4); have hq5 := (blk_cell e2 5); have hq6 := (blk_cell e2 6); have hq7 := (blk_cell e2 7); have hq8 := (blk_cell e2 8); have hq9 := (blk_cell e2 9); have hq10 := (blk_cell e2 10); have hq11 := (blk_cell e2 11); replace HB := Aside0.mk (below_step HB.out hb2); clear hb2 e2)
          | (go_at_call 30; with_reducible refine (HP.out _).mono ?_; rintro e w3 ⟨rfl, hb3⟩; have E3 := Aside0.mk (blk_below (blk_below E2.out (below_alloc (Below.refl _ _) _)) hb3); have F3 := Aside0.mk (blk_below (blk_new w2 (.cells #[.int .i64 a2_0, .int .i64 a2_1, .int .i64 a2_2, .int .i64 a2_3, .int .i64 a2_4, .int .i64 a2_5, .int .i64 a2_6, .int .i64 a2_7, .int .i64 a2_8, .int .i64 a2_9, .string a1, .slice none 0 0] 54)) hb3); have L3 := Aside0.mk (show w2.heap.size < w3.heap.size from blk_lt F3.out); have G3 := Aside0.mk (show w.heap.size ≤ w2.heap.size from HB.out.size); have e3 := F3.out; have S2 := Aside0.mk (blk_below F3.out (below_alloc (Below.refl _ _) (.cells #[.int .i64 61, .string a0] 65))); have hv11 : (w3.alloc (.cells #[.int .i64 61, .string a0] 65)).cell? ⟨w2.heap.size, 11, none⟩ = some (.slice none 0 0) := (blk_cell S2.out 11).trans rfl; have hz11 := blk_frozen S2.out 11; have S3 := Aside0.mk (blk_set (blk_below F3.out (below_alloc (Below.refl _ _) (.cells #[.int .i64 61, .string a0] 65))) 11 (.slice (some ⟨w3.heap.size, 0, none⟩) 1 1)); have hs0 : ((w3.alloc (.cells #[.int .i64 61, .string a0] 65)).setCell ⟨w2.heap.size, 11, none⟩ (.slice (some ⟨w3.heap.size, 0, none⟩) 1 1)).cell? ⟨w2.heap.size, 0, none⟩ = some (.int .i64 a2_0) := (blk_cell S3.out 0).trans rfl; have hs1 : ((w3.alloc (.cells #[.int .i64 61, .string a0] 65)).setCell ⟨w2.heap.size, 11, none⟩ (.slice (some ⟨w3.heap.size, 0, none⟩) 1 1)).cell? ⟨w2.heap.size, 1, none⟩ = some (.int .i64 a2_1) := (blk_cell S3.out 1).trans rfl; have hs2 : ((w3.alloc (.cells #[.int .i64 61, .string a0] 65)).setCell ⟨w2.heap.size, 11, none⟩ (.slice (some ⟨w3.heap.size, 0, none⟩) 1 1)).cell? ⟨w2.heap.size, 2, none⟩ = some (.int .i64 a2_2) := (blk_cell S3.out 2).trans rfl; have hs3 : ((w3.alloc (.cells #[.int .i64 61, .string a0] 65)).setCell ⟨w2.heap.size, 11, none⟩ (.slice (some ⟨w3.heap.size, 0, none⟩) 1 1)).cell? ⟨w2.heap.size, 3, none⟩ = some (.int .i64 a2_3) := (blk_cell S3.out 3).trans rfl; have hs4 : ((w3.alloc (.cells #[.int .i64 61, .string a0] 65)).setCell ⟨w2.heap.size, 11, none⟩ (.slice (some ⟨w3.heap.size, 0, none⟩) 1 1)).cell? ⟨w2.heap.size, 4, none⟩ = some (.int .i64 a2_4) := (blk_cell S3.out 4).trans rfl; have hs5 : ((w3.alloc (.cells #[.int .i64 61, .string a0] 65)).setCell ⟨w2.heap.size, 11, none⟩ (.slice (some ⟨w3.heap.size, 0, none⟩) 1 1)).cell? ⟨w2.heap.size, 5, none⟩ = some (.int .i64 a2_5) := (blk_cell S3.out 5).trans rfl; have hs6 : ((w3.alloc (.cells #[.int .i64 61, .string a0] 65)).setCell ⟨w2.heap.size, 11, none⟩ (.slice (some ⟨w3.heap.size, 0, none⟩) 1 1)).cell? ⟨w2.heap.size, 6, none⟩ = some (.int .i64 a2_6) := (blk_cell S3.out 6).trans rfl; have hs7 : ((w3.alloc (.cells #[.int .i64 61, .string a0] 65)).setCell ⟨w2.heap.size, 11, none⟩ (.slice (some ⟨w3.heap.size, 0, none⟩) 1 1)).cell? ⟨w2.heap.size, 7, none⟩ = some (.int .i64 a2_7) := (blk_cell S3.out 7).trans rfl; have hs8 : ((w3.alloc (.cells #[.int .i64 61, .string a0] 65)).setCell ⟨w2.heap.size, 11, none⟩ (.slice (some ⟨w3.heap.size, 0, none⟩) 1 1)).cell? ⟨w2.heap.size, 8, none⟩ = some (.int .i64 a2_8) := (blk_cell S3.out 8).trans rfl; have hs9 : ((w3.alloc (.cells #[.int .i64 61, .string a0] 65)).setCell ⟨w2.heap.size, 11, none⟩ (.slice (some ⟨w3.heap.size, 0, none⟩) 1 1)).cell? ⟨w2.heap.size, 9, none⟩ = some (.int .i64 a2_9) := (blk_cell S3.out 9).trans rfl; have hs10 : ((w3.alloc (.cells #[.int .i64 61, .string a0] 65)).setCell ⟨w2.heap.size, 11, none⟩ (.slice (some ⟨w3.heap.size, 0, none⟩) 1 1)).cell? ⟨w2.heap.size, 10, none⟩ = some (.string a1) := (blk_cell S3.out 10).trans rfl; have hs11 : ((w3.alloc (.cells #[.int .i64 61, .string a0] 65)).setCell ⟨w2.heap.size, 11, none⟩ (.slice (some ⟨w3.heap.size, 0, none⟩) 1 1)).cell? ⟨w2.heap.size, 11, none⟩ = some (.slice (some ⟨w3.heap.size, 0, none⟩) 1 1) := (blk_cell S3.out 11).trans rfl; have ho3 := (blk_cell E3.out 1); replace HB := Aside0.mk (below_step (HB.out.alloc HB.out.size _) hb3); clear hb3 e3)
          | (go_at_call 30; with_reducible refine (HQ.out _ (some ⟨w3.heap.size, 0, none⟩) (pinfoldlaw9_IdentSame.one L3.out)).mono ?_; rintro e w4 ⟨rfl, hb4⟩; have E4 := Aside0.mk (blk_below (pinfoldlaw9_IdentSame.stay (a := ⟨w2.heap.size, 11, none⟩) (o := .cells #[.int .i64 61, .string a0] 65) (v := .slice (some ⟨w3.heap.size, 0, none⟩) 1 1) E3.out (Nat.ne_of_lt (blk_lt E2.out))) hb4); have ho4 := (blk_cell E4.out 1); replace HB := Aside0.mk (below_step ((HB.out.alloc HB.out.size _).setCell G3.out _) hb4); clear hb4)
          | (go_at_call 20; with_reducible refine (HNum _ _).mono ?_; rintro e w5 ⟨rfl, hb5⟩; replace E4 := Aside0.mk (blk_below E4.out hb5.below); have ho5 := (blk_cell E4.out 1); replace HB := Aside0.mk (below_step HB.out hb5.below); clear hb5)
          | (go_at_call 20; with_reducible refine (HNum _ _).mono ?_; rintro e w5 ⟨rfl, hb5⟩; replace E4 := Aside0.mk (blk_below (blk_below E4.out (below_alloc (Below.refl _ _) (.cells #[.int .u8 (a2_1 % 256)] 5))) hb5.below); have ho5 := (blk_cell E4.out 1); replace HB := Aside0.mk (below_step (HB.out.alloc HB.out.size _) hb5.below); clear hb5))
      go_ret
      exact ⟨by rfl, HB.out⟩
    · have y1 : q2 = 0 := hc3.2 (by omega)
      have y2 : decide ((0 : Int) < (a0.size : Int)) = true := decide_eq_true (by omega)
      have y2n : (0 < a0.size) = True := eq_true (by omega)
      have y3 : ((a0.size : Int) == 0) = false := beq_eq_false_iff_ne.2 (by omega)
      have y5 : (a0 = ByteArray.empty) = False := eq_false (fun e => z0 (ByteArray.size_eq_zero_iff.2 e))
      have y4 : (q1.toList == a0.toList) = true := beq_iff_eq.2 (hc4.resolve_left z0)
      subst y1
      clear hc1 hc2 hc3 hc4 z1 z0 h16 h15
      go_enter Try.func13, Try.ntmps13
      go_wp2_with (first
          | (go_at_call 35; with_reducible refine (HW _).mono ?_; rintro e w1 ⟨rfl, hb1⟩; have E0 := Aside0.mk (blk_below (blk_new w (.cells #[.int .i64 a2_0, .int .i64 a2_1, .int .i64 a2_2, .int .i64 a2_3, .int .i64 a2_4, .int .i64 a2_5, .int .i64 a2_6, .int .i64 a2_7, .int .i64 a2_8, .int .i64 a2_9, .string a2_10, .slice A2_11 l2_11.length c2_11] 54)) hb1); have e0 := E0.out; have hp0 := (blk_cell e0 0); have hp1 := (blk_cell e0 1); have hp2 := (blk_cell e0 2); have hp3 := (blk_cell e0 3); have hp4 := (blk_cell e0 4); have hp5 := (blk_cell e0 5); have hp6 := (blk_cell e0 6); have hp7 := (blk_cell e0 7); have hp8 := (blk_cell e0 8); have hp9 := (blk_cell e0 9); have hp10 := (blk_cell e0 10); have hp11 := (blk_cell e0 11); replace HB := Aside0.mk (below_step ((Below.refl _ w).alloc (Nat.le_refl _) _) hb1); clear hb1 e0)
          | (go_at_call 36; refine (HM.out _ (Kd.C_below HR.out HB.out)).mono ?_; rintro e w2 ⟨rfl, hb2⟩; have E2 := Aside0.mk (blk_below E0.out hb2); have e2 := E2.out; have hq0 := (blk_cell e2 0); have hq1 := (blk_cell e2 1); have hq2 := (blk_cell e2 2); have hq3 := (blk_cell e2 3); have hq4 := (blk_cell e2 4); have hq5 := (blk_cell e2 5); have hq6 := (blk_cell e2 6); have hq7 := (blk_cell e2 7); have hq8 := (blk_cell e2 8); have hq9 := (blk_cell e2 9); have hq10 := (blk_cell e2 10); have hq11 := (blk_cell e2 11); replace HB := Aside0.mk (below_step HB.out hb2); clear hb2 e2)
          | (go_at_call 30; with_reducible refine (HP.out _).mono ?_; rintro e w3 ⟨rfl, hb3⟩; have E3 := Aside0.mk (blk_below (blk_below E2.out (below_alloc (Below.refl _ _) _)) hb3); have F3 := Aside0.mk (blk_below (blk_new w2 (.cells #[.int .i64 a2_0, .int .i64 a2_1, .int .i64 a2_2, .int .i64 a2_3, .int .i64 a2_4, .int .i64 a2_5, .int .i64 a2_6, .int .i64 a2_7, .int .i64 a2_8, .int .i64 a2_9, .string a1, .slice none 0 0] 54)) hb3); have L3 := Aside0.mk (show w2.heap.size < w3.heap.size from blk_lt F3.out); have G3 := Aside0.mk (show w.heap.size ≤ w2.heap.size from HB.out.size); have e3 := F3.out; have S2 := Aside0.mk (blk_below F3.out (below_alloc (Below.refl _ _) (.cells #[.int .i64 61, .string a0] 65))); have hv11 : (w3.alloc (.cells #[.int .i64 61, .string a0] 65)).cell? ⟨w2.heap.size, 11, none⟩ = some (.slice none 0 0) := (blk_cell S2.out 11).trans rfl; have hz11 := blk_frozen S2.out 11; have S3 := Aside0.mk (blk_set (blk_below F3.out (below_alloc (Below.refl _ _) (.cells #[.int .i64 61, .string a0] 65))) 11 (.slice (some ⟨w3.heap.size, 0, none⟩) 1 1)); have hs0 : ((w3.alloc (.cells #[.int .i64 61, .string a0] 65)).setCell ⟨w2.heap.size, 11, none⟩ (.slice (some ⟨w3.heap.size, 0, none⟩) 1 1)).cell? ⟨w2.heap.size, 0, none⟩ = some (.int .i64 a2_0) := (blk_cell S3.out 0).trans rfl; have hs1 : ((w3.alloc (.cells #[.int .i64 61, .string a0] 65)).setCell ⟨w2.heap.size, 11, none⟩ (.slice (some ⟨w3.heap.size, 0, none⟩) 1 1)).cell? ⟨w2.heap.size, 1, none⟩ = some (.int .i64 a2_1) := (blk_cell S3.out 1).trans rfl; have hs2 : ((w3.alloc (.cells #[.int .i64 61, .string a0] 65)).setCell ⟨w2.heap.size, 11, none⟩ (.slice (some ⟨w3.heap.size, 0, none⟩) 1 1)).cell? ⟨w2.heap.size, 2, none⟩ = some (.int .i64 a2_2) := (blk_cell S3.out 2).trans rfl; have hs3 : ((w3.alloc (.cells #[.int .i64 61, .string a0] 65)).setCell ⟨w2.heap.size, 11, none⟩ (.slice (some ⟨w3.heap.size, 0, none⟩) 1 1)).cell? ⟨w2.heap.size, 3, none⟩ = some (.int .i64 a2_3) := (blk_cell S3.out 3).trans rfl; have hs4 : ((w3.alloc (.cells #[.int .i64 61, .string a0] 65)).setCell ⟨w2.heap.size, 11, none⟩ (.slice (some ⟨w3.heap.size, 0, none⟩) 1 1)).cell? ⟨w2.heap.size, 4, none⟩ = some (.int .i64 a2_4) := (blk_cell S3.out 4).trans rfl; have hs5 : ((w3.alloc (.cells #[.int .i64 61, .string a0] 65)).setCell ⟨w2.heap.size, 11, none⟩ (.slice (some ⟨w3.heap.size, 0, none⟩) 1 1)).cell? ⟨w2.heap.size, 5, none⟩ = some (.int .i64 a2_5) := (blk_cell S3.out 5).trans rfl; have hs6 : ((w3.alloc (.cells #[.int .i64 61, .string a0] 65)).setCell ⟨w2.heap.size, 11, none⟩ (.slice (some ⟨w3.heap.size, 0, none⟩) 1 1)).cell? ⟨w2.heap.size, 6, none⟩ = some (.int .i64 a2_6) := (blk_cell S3.out 6).trans rfl; have hs7 : ((w3.alloc (.cells #[.int .i64 61, .string a0] 65)).setCell ⟨w2.heap.size, 11, none⟩ (.slice (some ⟨w3.heap.size, 0, none⟩) 1 1)).cell? ⟨w2.heap.size, 7, none⟩ = some (.int .i64 a2_7) := (blk_cell S3.out 7).trans rfl; have hs8 : ((w3.alloc (.cells #[.int .i64 61, .string a0] 65)).setCell ⟨w2.heap.size, 11, none⟩ (.slice (some ⟨w3.heap.size, 0, none⟩) 1 1)).cell? ⟨w2.heap.size, 8, none⟩ = some (.int .i64 a2_8) := (blk_cell S3.out 8).trans rfl; have hs9 : ((w3.alloc (.cells #[.int .i64 61, .string a0] 65)).setCell ⟨w2.heap.size, 11, none⟩ (.slice (some ⟨w3.heap.size, 0, none⟩) 1 1)).cell? ⟨w2.heap.size, 9, none⟩ = some (.int .i64 a2_9) := (blk_cell S3.out 9).trans rfl; have hs10 : ((w3.alloc (.cells #[.int .i64 61, .string a0] 65)).setCell ⟨w2.heap.size, 11, none⟩ (.slice (some ⟨w3.heap.size, 0, none⟩) 1 1)).cell? ⟨w2.heap.size, 10, none⟩ = some (.string a1) := (blk_cell S3.out 10).trans rfl; have hs11 : ((w3.alloc (.cells #[.int .i64 61, .string a0] 65)).setCell ⟨w2.heap.size, 11, none⟩ (.slice (some ⟨w3.heap.size, 0, none⟩) 1 1)).cell? ⟨w2.heap.size, 11, none⟩ = some (.slice (some ⟨w3.heap.size, 0, none⟩) 1 1) := (blk_cell S3.out 11).trans rfl; have ho3 := (blk_cell E3.out 1); replace HB := Aside0.mk (below_step (HB.out.alloc HB.out.size _) hb3); clear hb3 e3)
          | (go_at_call 30; with_reducible refine (HQ.out _ (some ⟨w3.heap.size, 0, none⟩) (pinfoldlaw9_IdentSame.one L3.out)).mono ?_; rintro e w4 ⟨rfl, hb4⟩; have E4 := Aside0.mk (blk_below (pinfoldlaw9_IdentSame.stay (a := ⟨w2.heap.size, 11, none⟩) (o := .cells #[.int .i64 61, .string a0] 65) (v := .slice (some ⟨w3.heap.size, 0, none⟩) 1 1) E3.out (Nat.ne_of_lt (blk_lt E2.out))) hb4); have ho4 := (blk_cell E4.out 1); replace HB := Aside0.mk (below_step ((HB.out.alloc HB.out.size _).setCell G3.out _) hb4); clear hb4)
          | (go_at_call 20; with_reducible refine (HNum _ _).mono ?_; rintro e w5 ⟨rfl, hb5⟩; replace E4 := Aside0.mk (blk_below E4.out hb5.below); have ho5 := (blk_cell E4.out 1); replace HB := Aside0.mk (below_step HB.out hb5.below); clear hb5)
          | (go_at_call 20; with_reducible refine (HNum _ _).mono ?_; rintro e w5 ⟨rfl, hb5⟩; replace E4 := Aside0.mk (blk_below (blk_below E4.out (below_alloc (Below.refl _ _) (.cells #[.int .u8 (a2_1 % 256)] 5))) hb5.below); have ho5 := (blk_cell E4.out 1); replace HB := Aside0.mk (below_step (HB.out.alloc HB.out.size _) hb5.below); clear hb5))
      go_ret
      exact ⟨by rfl, HB.out⟩


/-- THE ONE PURE STATEMENT of pinfoldlaw9_IdentSame. -/
def pinfoldlaw9_IdentSame.Pure : Prop := ∀ (a0 : ByteArray) (a1 : ByteArray) (a2_0 : Int) (a2_1 : Int) (a2_2 : Int) (a2_3 : Int) (a2_4 : Int) (a2_5 : Int) (a2_6 : Int) (a2_7 : Int) (a2_8 : Int) (a2_9 : Int) (a2_10 : ByteArray) (l2_11 : List (S65)), a0.size ≤ 140737488351232 → a1.size ≤ 140737488351232 → (Lit.int .i64 a2_0).wf = true → (Lit.int .i64 a2_1).wf = true → (Lit.int .i64 a2_2).wf = true → (Lit.int .i64 a2_3).wf = true → (Lit.int .i64 a2_4).wf = true → (Lit.int .i64 a2_5).wf = true → (Lit.int .i64 a2_6).wf = true → (Lit.int .i64 a2_7).wf = true → (Lit.int .i64 a2_8).wf = true → (Lit.int .i64 a2_9).wf = true → a2_10.size ≤ 140737488351232 → (l2_11.length * Try.prog.bytesOf 65 ≤ 140737488351232 ∧ ∀ y0_ ∈ l2_11, ((Lit.int .i64 y0_.f0).wf = true ∧ y0_.f1.size ≤ 140737488351232)) → ∃ k, pinfoldlaw9_IdentSame.f k a0 a1 a2_0 a2_1 a2_2 a2_3 a2_4 a2_5 a2_6 a2_7 a2_8 a2_9 a2_10 l2_11 = some true
theorem pinfoldlaw9_IdentSame.walk (P : pinfoldlaw9_IdentSame.Pure) (a0 : ByteArray) (a1 : ByteArray) (a2_0 : Int) (a2_1 : Int) (a2_2 : Int) (a2_3 : Int) (a2_4 : Int) (a2_5 : Int) (a2_6 : Int) (a2_7 : Int) (a2_8 : Int) (a2_9 : Int) (a2_10 : ByteArray) (A2_11 : Option Addr) (c2_11 : Nat) (l2_11 : List (S65)) (w : World) (hr2_11 : Kd.C k65 w A2_11 l2_11.length l2_11) (hc2_11 : l2_11.length ≤ c2_11) (w0 : a0.size ≤ 140737488351232) (w1 : a1.size ≤ 140737488351232) (w2_0 : (Lit.int .i64 a2_0).wf = true) (w2_1 : (Lit.int .i64 a2_1).wf = true) (w2_2 : (Lit.int .i64 a2_2).wf = true) (w2_3 : (Lit.int .i64 a2_3).wf = true) (w2_4 : (Lit.int .i64 a2_4).wf = true) (w2_5 : (Lit.int .i64 a2_5).wf = true) (w2_6 : (Lit.int .i64 a2_6).wf = true) (w2_7 : (Lit.int .i64 a2_7).wf = true) (w2_8 : (Lit.int .i64 a2_8).wf = true) (w2_9 : (Lit.int .i64 a2_9).wf = true) (w2_10 : a2_10.size ≤ 140737488351232) (w2_11 : (l2_11.length * Try.prog.bytesOf 65 ≤ 140737488351232 ∧ ∀ y0_ ∈ l2_11, ((Lit.int .i64 y0_.f0).wf = true ∧ y0_.f1.size ≤ 140737488351232))) :
    Calls Try.prog 13 #[.string a0, .string a1, .agg #[.int .i64 a2_0, .int .i64 a2_1, .int .i64 a2_2, .int .i64 a2_3, .int .i64 a2_4, .int .i64 a2_5, .int .i64 a2_6, .int .i64 a2_7, .int .i64 a2_8, .int .i64 a2_9, .string a2_10, .slice A2_11 l2_11.length c2_11]] w fun e w' => e = .returned (.bool true) ∧ Below w.heap.size w w' := by
  obtain ⟨k, h⟩ := P a0 a1 a2_0 a2_1 a2_2 a2_3 a2_4 a2_5 a2_6 a2_7 a2_8 a2_9 a2_10 l2_11 w0 w1 w2_0 w2_1 w2_2 w2_3 w2_4 w2_5 w2_6 w2_7 w2_8 w2_9 w2_10 w2_11
  refine (pinfoldlaw9_IdentSame.calls k a0 a1 a2_0 a2_1 a2_2 a2_3 a2_4 a2_5 a2_6 a2_7 a2_8 a2_9 a2_10 _ _ l2_11 true w hr2_11 hc2_11 h).mono ?_
  rintro e w' ⟨rfl, hd⟩
  exact ⟨rfl, hd⟩
end Go.Proofs.Ytpfanafggmkejaa.PIdentSame
