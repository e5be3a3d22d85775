-- Made by wip/pr.py out of the translation (a turned copy of the kit's print; contracts by hand where said).
import Derived.Test.YtibmakpghbinbaaPTx0
import Derived.Test.YtibmakpghbinbaaPTx2
import Derived.Test.YtibmakpghbinbaaPTx8
namespace Go.Proofs.Ytibmakpghbinbaa.PT
open Go.RowKit Go.Proofs.YtibmakpghbinbaaW.PrintWords Go.Proofs.YtibmakpghbinbaaW.PrintLast Go.Proofs.YtibmakpghbinbaaW.PrintMore
-- shrunk
attribute [local go_sem] max2_int min2_int max_two min_two max_three min_three max_four min_four   -- for this text's walks alone
set_option linter.unusedVariables false
set_option linter.unusedSimpArgs false

/-! ### pinfoldref11_LeaseMay: function 60 -/
-- BY HAND
-- 82
def pinfoldref11_LeaseMay_c.f (a0_0 : Int) (a0_1 : Int) (a0_2 : ByteArray) (a0_3 : Int) (a0_4 : ByteArray) (a0_5 : Bool) : Option Bool := if a0_4.size ≤ 8796093022000 then some (leaseB a0_0 a0_1 a0_2 a0_3 a0_4 a0_5) else none
set_option maxHeartbeats 8000000 in
set_option maxRecDepth 100000 in
theorem pinfoldref11_LeaseMay_c.calls (a0_0 : Int) (a0_1 : Int) (a0_2 : ByteArray) (a0_3 : Int) (a0_4 : ByteArray) (a0_5 : Bool) (r : Bool) (w : World) (h : pinfoldref11_LeaseMay_c.f a0_0 a0_1 a0_2 a0_3 a0_4 a0_5 = some r) :
  Calls Try.prog 60 #[.agg #[.int .i64 a0_0, .int .i64 a0_1, .string a0_2, .int .i64 a0_3, .string a0_4, .bool a0_5]] w fun e w' => e = .returned (.bool r) ∧ Below w.heap.size w w' := by
 unfold pinfoldref11_LeaseMay_c.f at h
 by_cases hs : a0_4.size ≤ 8796093022000
 rotate_left
 ·rw [if_neg hs] at h
  cases h
 rw [if_pos hs] at h
 replace h := e5_ h
 obtain ⟨b1, h1⟩ : ∃ b, nameB (bytesOf a0_4) = b := ⟨_, rfl⟩
 unfold leaseB at h
 rw [h1] at h
 have C1 := am_ (fun W => pinfoldref1_NameMay_c.calls a0_4 b1 W (by unfold pinfoldref1_NameMay_c.f; rw [if_pos hs, h1]))
 have HB := am_ (Below.refl w.heap.size w)
 have BX := am_ (blk_new w (.cells #[.int .i64 a0_0, .int .i64 a0_1, .string a0_2, .int .i64 a0_3, .string a0_4, .bool a0_5] 37))
 have v0 := bc_ BX.out 0; have v1 := bc_ BX.out 1; have v2 := bc_ BX.out 2; have v3 := bc_ BX.out 3; have v4 := bc_ BX.out 4; have v5 := bc_ BX.out 5
 clear h1 hs
 by_cases hA : ((2 ≤ a0_0 ∧ a0_0 ≤ 254) ∧ (0 ≤ a0_1 ∧ a0_1 ≤ 3) ∧ a0_2.size ≤ 16 ∧ (0 ≤ a0_3 ∧ a0_3 ≤ 1099511627776) ∧ b1 = true)
 rotate_left
 ·have HF := am_ (show false = r by
   rw [← h, eq_comm, Bool.eq_false_iff]
   intro e
   simp only [Bool.and_eq_true, decide_eq_true_eq] at e
   refine hA ⟨e.1.1.1.1, ?_, e.1.1.2, e.1.2, e.2⟩
   have h := e.1.1.1.2
   unfold stateB at h
   by_cases q0 : a0_1 = 0 ∨ a0_1 = 3
   ·omega
   rw [if_neg q0] at h
   by_cases q1 : a0_1 = 1
   ·omega
   rw [if_neg q1] at h
   by_cases q2 : a0_1 = 2
   ·omega
   rw [if_neg q2] at h
   cases h)
  have hA2 := am_ hA
  clear h hA
  go_enter Try.func60, Try.ntmps60
  go_wp2_with (first | (go_at_call 82; (with_reducible refine (C1.out _).mono ?_); rintro e w1 ⟨rfl, hb2⟩; replace BX := am_ (kb_ (show _ from (by (with_reducible repeat (first | exact BX.out | refine k2_ ?_ _ | refine k3_ ?_ | refine k1_ ?_ _)))) hb2); replace HB := am_ (bt_ (show Below w.heap.size w _ from (by repeat (with_reducible first | exact HB.out | apply p3_ | apply p1_ | apply p2_))) hb2); clear hb2; clear v0 v1 v2 v3 v4 v5; have v0 := bc_ BX.out 0; have v1 := bc_ BX.out 1; have v2 := bc_ BX.out 2; have v3 := bc_ BX.out 3; have v4 := bc_ BX.out 4; have v5 := bc_ BX.out 5))
  all_goals (try go_ret)
  all_goals first
   | exact ⟨ret_bool HF.out, (by repeat (with_reducible first | exact HB.out | apply p3_ | apply p1_ | apply p2_))⟩
   | (exfalso; refine hA2.out ⟨⟨?_, ?_⟩, ⟨?_, ?_⟩, ?_, ⟨?_, ?_⟩, ?_⟩ <;> first | omega | assumption | (simp_all; done) | (simp_all; omega))
 obtain ⟨⟨g1, g2⟩, ⟨g3, g4⟩, g5, ⟨g6, g7⟩, rfl⟩ := hA
 rw [decide_eq_true (show 2 ≤ a0_0 ∧ a0_0 ≤ 254 from ⟨g1, g2⟩), decide_eq_true g5, decide_eq_true (show 0 ≤ a0_3 ∧ a0_3 ≤ 1099511627776 from ⟨g6, g7⟩), Bool.and_true, Bool.and_true, Bool.and_true, Bool.true_and] at h
 have d1 : decide (a0_0 < 2) = false := decide_eq_false (by omega)
 have d2 : decide (254 < a0_0) = false := decide_eq_false (by omega)
 have d5 : decide (16 < (a0_2.size : Int)) = false := decide_eq_false (by omega)
 have d6 : decide (a0_3 < 0) = false := decide_eq_false (by omega)
 have d7 : decide (1099511627776 < a0_3) = false := decide_eq_false (by omega)
 obtain ⟨c2, hc2⟩ : ∃ c, a0_2.toList.isEmpty = c := ⟨_, rfl⟩
 obtain ⟨c4, hc4⟩ : ∃ c, a0_4.toList.isEmpty = c := ⟨_, rfl⟩
 have e2 : decide (a0_2.toList = []) = c2 := by rw [← hc2]; cases a0_2.toList <;> rfl
 have e4 : decide (a0_4.toList = []) = c4 := by rw [← hc4]; cases a0_4.toList <;> rfl
 have e2n : decide (a0_2.toList ≠ []) = !c2 := by rw [← hc2]; cases a0_2.toList <;> rfl
 have e4n : decide (a0_4.toList ≠ []) = !c4 := by rw [← hc4]; cases a0_4.toList <;> rfl
 have e2b : (a0_2.toList == []) = c2 := by rw [← hc2]; cases a0_2.toList <;> rfl
 have e4b : (a0_4.toList == []) = c4 := by rw [← hc4]; cases a0_4.toList <;> rfl
 unfold stateB at h
 rw [e4, e2n, e4n] at h
 clear e2 e4 e2n e4n g1 g2 g5 g6 g7
 have hst : a0_1 = 0 ∨ a0_1 = 1 ∨ a0_1 = 2 ∨ a0_1 = 3 := by omega
 clear g3 g4
 rcases hst with rfl | rfl | rfl | rfl <;> cases c2 <;> cases c4 <;> cases a0_5
 all_goals
  have HF := am_ h
  clear h
  go_enter Try.func60, Try.ntmps60
  go_wp2_with (first | (go_at_call 82; (with_reducible refine (C1.out _).mono ?_); rintro e w1 ⟨rfl, hb2⟩; replace BX := am_ (kb_ (show _ from (by (with_reducible repeat (first | exact BX.out | refine k2_ ?_ _ | refine k3_ ?_ | refine k1_ ?_ _)))) hb2); replace HB := am_ (bt_ (show Below w.heap.size w _ from (by repeat (with_reducible first | exact HB.out | apply p3_ | apply p1_ | apply p2_))) hb2); clear hb2; clear v0 v1 v2 v3 v4 v5; have v0 := bc_ BX.out 0; have v1 := bc_ BX.out 1; have v2 := bc_ BX.out 2; have v3 := bc_ BX.out 3; have v4 := bc_ BX.out 4; have v5 := bc_ BX.out 5))
  go_ret
  exact ⟨ret_bool (by rw [← HF.out]; rfl), HB.out⟩

/-! ### pinfoldref11_TableMay: function 26 -/
-- BY HAND
-- 60
def hostAheadR (l : List S37) (i : Nat) : Option Int := if i = 0 then none else some (rd_T37 l ((i - 1 : Nat) : Int)).f0
def pinfoldref11_TableMay.S (pb : Addr) (x0 x1 : Int) (x2 : ByteArray) (x3 : Int) (x4 : ByteArray) (x5 : Bool) (pa : Addr) (y0 : Int) (w' : World) : Prop := w'.cell? pb = some (.int .i64 x0) ∧ w'.cell? ⟨pb.block, pb.off + 1, none⟩ = some (.int .i64 x1) ∧ w'.cell? ⟨pb.block, pb.off + 2, none⟩ = some (.string x2) ∧ w'.cell? ⟨pb.block, pb.off + 3, none⟩ = some (.int .i64 x3) ∧ w'.cell? ⟨pb.block, pb.off + 4, none⟩ = some (.string x4) ∧ w'.cell? ⟨pb.block, pb.off + 5, none⟩ = some (.bool x5) ∧ w'.cell? pa = some (.int .i64 y0)
theorem pinfoldref11_TableMay.S_below {w w2 : World} {pb : Addr} {x0 x1 : Int} {x2 : ByteArray} {x3 : Int} {x4 : ByteArray} {x5 : Bool} {pa : Addr} {y0 : Int} (h : pinfoldref11_TableMay.S pb x0 x1 x2 x3 x4 x5 pa y0 w) (hb : Below w.heap.size w w2) : pinfoldref11_TableMay.S pb x0 x1 x2 x3 x4 x5 pa y0 w2 := by
 obtain ⟨s0, s1, s2, s3, s4, s5, s6⟩ := h
 exact ⟨(hb.cell (wb_ _ _ s0)).trans s0, (hb.cell (wb_ _ _ s1)).trans s1, (hb.cell (wb_ _ _ s2)).trans s2, (hb.cell (wb_ _ _ s3)).trans s3, (hb.cell (wb_ _ _ s4)).trans s4, (hb.cell (wb_ _ _ s5)).trans s5, (hb.cell (wb_ _ _ s6)).trans s6⟩
def pinfoldref11_TableMay_c.f (l0 : List S37) : Option Bool := if tabFitR l0 then some (tableB l0) else none
set_option maxHeartbeats 8000000 in
set_option maxRecDepth 100000 in
theorem pinfoldref11_TableMay_c.calls (A0 : Option Addr) (c0 : Nat) (l0 : List S37) (r : Bool) (w : World) (hr0 : Kd.C k37 w A0 l0.length l0) (hc0 : l0.length ≤ c0) (h : pinfoldref11_TableMay_c.f l0 = some r) :
  Calls Try.prog 26 #[.slice A0 l0.length c0] w fun e w' => e = .returned (.bool r) ∧ Below w.heap.size w w' := by
 unfold pinfoldref11_TableMay_c.f at h
 by_cases hs : tabFitR l0
 rotate_left
 ·rw [if_neg hs] at h
  cases h
 rw [if_pos hs] at h
 have HT := am_ (show (goTab (hostAheadR l0 (0 : Int).toNat) (l0.drop (0 : Int).toNat) && decide (l0.length ≤ 8)) = r from e5_ h)
 have hl := hs.1
 have HX := am_ hs.2
 have HR := am_ hr0
 have HB := am_ (Below.refl w.heap.size w)
 clear h hs hr0 hc0
 go_enter Try.func26, Try.ntmps26
 go_wp2
 go_loopg [3] l0.length (fun d v w' => ∃ i : Int, 0 ≤ i ∧ i.toNat + d = l0.length ∧ v = .int .i64 i ∧ Aside0 (Below w.heap.size w w') ∧ Aside0 ((goTab (hostAheadR l0 i.toNat) (l0.drop i.toNat) && decide (l0.length ≤ 8)) = r))
 case atStart => exact ⟨0, by omega, by simp, rfl, HB, HT⟩
 case round =>
  clear HB HT
  obtain ⟨i, hi0, hd, rfl, HB, HT⟩ := hrel
  by_cases hlt : i < (l0.length : Int)
  ·obtain ⟨ad, e1, hw0, hw1, hw2, hw3, hw4, hw5⟩ := at_T37 HR.out i hi0 hlt
   cases e1
   have hx0 := (HB.out.cell (wb_ w _ hw0)).trans hw0; have hx1 := (HB.out.cell (wb_ w _ hw1)).trans hw1; have hx2 := (HB.out.cell (wb_ w _ hw2)).trans hw2; have hx3 := (HB.out.cell (wb_ w _ hw3)).trans hw3; have hx4 := (HB.out.cell (wb_ w _ hw4)).trans hw4; have hx5 := (HB.out.cell (wb_ w _ hw5)).trans hw5
   have hd1 := dropLease l0 i hi0 hlt
   have hsz := HX.out _ hd1.2
   have hst := HT.out
   rw [hd1.1] at hst
   have hnx : hostAheadR l0 (i.toNat + 1) = some (rd_T37 l0 i).f0 := by
    unfold hostAheadR
    rw [if_neg (by omega), Nat.add_sub_cancel, Int.toNat_of_nonneg hi0]
   have hi2 : (i + 1).toNat = i.toNat + 1 := by omega
   have hpv : ¬ i = 0 → ∃ j y, wrap64 (i - 1) = j ∧ 0 ≤ j ∧ j < (l0.length : Int) ∧ hostAheadR l0 i.toNat = some y ∧ w.cell? (ad.add (j.toNat * 6)) = some (.int .i64 y) := by
    intro h0
    have h1 : wrap64 (i - 1) = i - 1 := by unfold wrap64; omega
    obtain ⟨ad2, e2, hy0, _⟩ := at_T37 HR.out (i - 1) (by omega) (by omega)
    cases e2
    refine ⟨i - 1, _, h1, by omega, by omega, ?_, hy0⟩
    unfold hostAheadR
    rw [if_neg (by omega), show ((i.toNat - 1 : Nat) : Int) = i - 1 by omega]
   generalize rd_T37 l0 i = x at hw0 hw1 hw2 hw3 hw4 hw5 hx0 hx1 hx2 hx3 hx4 hx5 hsz hst hnx
   clear hd1 HT
   obtain ⟨x0, x1, x2, x3, x4, x5⟩ := x
   simp only at hw0 hw1 hw2 hw3 hw4 hw5 hx0 hx1 hx2 hx3 hx4 hx5 hsz hst hnx
   obtain ⟨b1, h1⟩ : ∃ b, leaseB x0 x1 x2 x3 x4 x5 = b := ⟨_, rfl⟩
   have hst2 : ((b1 && (above (hostAheadR l0 i.toNat) x0 && goTab (some x0) (l0.drop (i.toNat + 1)))) && decide (l0.length ≤ 8)) = r := by rw [← h1]; exact hst
   rw [← hnx, ← hi2] at hst2
   clear hst hnx
   have CM := am_ (fun W => pinfoldref11_LeaseMay_c.calls x0 x1 x2 x3 x4 x5 b1 W (by unfold pinfoldref11_LeaseMay_c.f; rw [if_pos hsz, h1]))
   have H1 := am_ (show 0 ≤ i + 1 by omega)
   have H2 := am_ (show (i + 1).toNat + (l0.length - (i.toNat + 1)) = l0.length by omega)
   have H3 := am_ (show l0.length - (i.toNat + 1) < gk by omega)
   have H4 := am_ (show IntKind.i64.wrap (i + 1) = i + 1 from (i64_w _).trans (by unfold wrap64; omega))
   have H6 := am_ (fun (h : i = 0) => show i.toNat = 0 by rw [h]; rfl)
   have H5 := am_ (fun (h : ¬ i = 0) => show 0 < i by omega)
   replace hi0 := am_ hi0
   replace hd := am_ hd
   replace hl := am_ hl
   have clt := decide_eq_true hlt
   have cle := decide_eq_true hi0.out
   have plt := eq_true hlt
   have ple := eq_true hi0.out
   clear h1 hlt
   cases b1 with
   | false =>
    have HF := am_ (show false = r by rw [← hst2]; rfl)
    clear hst2 hpv hi2
    go_wp2_with fail
    have HB1 := am_ (below_drew HB.out)
    refine seqS (S := pinfoldref11_TableMay.S (ad.add (i.toNat * 6)) x0 x1 x2 x3 x4 x5 (ad.add (i.toNat * 6)) x0) 24 (by kernel_rfl) rfl rfl (by unfold pinfoldref11_TableMay.S; exact ⟨(HB1.out.cell (wb_ w _ hw0)).trans hw0, (HB1.out.cell (wb_ w _ hw1)).trans hw1, (HB1.out.cell (wb_ w _ hw2)).trans hw2, (HB1.out.cell (wb_ w _ hw3)).trans hw3, (HB1.out.cell (wb_ w _ hw4)).trans hw4, (HB1.out.cell (wb_ w _ hw5)).trans hw5, (HB1.out.cell (wb_ w _ hw0)).trans hw0⟩) ?_
    intro hHeld
    clear hx0 hx1 hx2 hx3 hx4 hx5 hw0 hw1 hw2 hw3 hw4 hw5 HB
    iterate 4 first | (refine seqP (v := ?_) (a' := ?_) rfl rfl (by kernel_rfl) (fun _ _ _ h => h) (Or.inl ⟨by kernel_rfl, ?_⟩) ?_ ?_; rotate_left; (intro w'; go_simp; with_reducible rfl); rotate_left; (simp only [Act.put, sa_, sb_, sc_, i64_w, i32_w]; rfl)) | (refine seqL (v := ?_) (a' := ?_) rfl rfl (by kernel_rfl) (fun _ _ _ h => h) (Or.inl ⟨by kernel_rfl, ?_⟩) hHeld ?_ ?_; rotate_left; (rintro w' ⟨s0, s1, s2, s3, s4, s5, s6⟩; go_simp; with_reducible rfl); rotate_left; (simp only [Act.put, sa_, sb_, sc_, i64_w, i32_w]; rfl))
    refine seqG (fn := Try.f60) rfl rfl (by kernel_rfl) rfl Try.func60 (by kernel_rfl) (by kernel_rfl) #[.agg #[.int .i64 x0, .int .i64 x1, .string x2, .int .i64 x3, .string x4, .bool x5]] (by kernel_rfl) (by (try simp only [List.map_toArray, List.map_cons, List.map_nil]); first | done | rfl) ?_
    with_reducible refine (CM.out _).mono ?_
    rintro e wg ⟨rfl, hb2⟩
    have HB2 := am_ (bt_ HB1.out hb2)
    refine ⟨_, rfl, pinfoldref11_TableMay.S_below hHeld hb2, fun hHeld => ⟨?_, ?_, ?_⟩⟩
    rotate_left
    ·simp only [Act.put, sa_, sb_, sc_, i64_w, i32_w]
     rfl
    clear hb2 HB1 CM
    iterate 2 first | (refine seqP (v := ?_) (a' := ?_) rfl rfl (by kernel_rfl) (fun _ _ _ h => h) (Or.inl ⟨by kernel_rfl, ?_⟩) ?_ ?_; rotate_left; (intro w'; go_simp; with_reducible rfl); rotate_left; (simp only [Act.put, sa_, sb_, sc_, i64_w, i32_w]; rfl)) | (refine seqL (v := ?_) (a' := ?_) rfl rfl (by kernel_rfl) (fun _ _ _ h => h) (Or.inl ⟨by kernel_rfl, ?_⟩) hHeld ?_ ?_; rotate_left; (rintro w' ⟨s0, s1, s2, s3, s4, s5, s6⟩; go_simp; with_reducible rfl); rotate_left; (simp only [Act.put, sa_, sb_, sc_, i64_w, i32_w]; rfl))
    iterate 16 (refine seqP (v := undef) (a' := ?_) rfl rfl (by kernel_rfl) (fun _ _ _ h => h) (Or.inr ⟨by kernel_rfl, rfl⟩) ?_ ?_; rotate_left; (simp only [Act.put, sa_, sb_, sc_, i64_w, i32_w]; rfl))
    iterate 1 first | (refine seqP (v := ?_) (a' := ?_) rfl rfl (by kernel_rfl) (fun _ _ _ h => h) (Or.inl ⟨by kernel_rfl, ?_⟩) ?_ ?_; rotate_left; (intro w'; go_simp; with_reducible rfl); rotate_left; (simp only [Act.put, sa_, sb_, sc_, i64_w, i32_w]; rfl)) | (refine seqL (v := ?_) (a' := ?_) rfl rfl (by kernel_rfl) (fun _ _ _ h => h) (Or.inl ⟨by kernel_rfl, ?_⟩) hHeld ?_ ?_; rotate_left; (rintro w' ⟨s0, s1, s2, s3, s4, s5, s6⟩; go_simp; with_reducible rfl); rotate_left; (simp only [Act.put, sa_, sb_, sc_, i64_w, i32_w]; rfl))
    refine seqE (by kernel_rfl) ?_
    go_wp2
    go_ret
    exact ⟨ret_bool (HF.out), HB2.out⟩
   | true =>
   rw [Bool.true_and] at hst2
   by_cases hp : i = 0
   ·have cp : decide (0 < i) = false := decide_eq_false (by omega)
    have HN := am_ (show (goTab (hostAheadR l0 (i + 1).toNat) (l0.drop (i + 1).toNat) && decide (l0.length ≤ 8)) = r by rw [← hst2, show hostAheadR l0 i.toNat = none by unfold hostAheadR; rw [if_pos (H6.out hp)], show above none x0 = true from rfl, Bool.true_and])
    replace hp := am_ hp
    clear hst2 hpv hi2
    go_wp2_with fail
    have HB1 := am_ (below_drew HB.out)
    refine seqS (S := pinfoldref11_TableMay.S (ad.add (i.toNat * 6)) x0 x1 x2 x3 x4 x5 (ad.add (i.toNat * 6)) x0) 24 (by kernel_rfl) rfl rfl (by unfold pinfoldref11_TableMay.S; exact ⟨(HB1.out.cell (wb_ w _ hw0)).trans hw0, (HB1.out.cell (wb_ w _ hw1)).trans hw1, (HB1.out.cell (wb_ w _ hw2)).trans hw2, (HB1.out.cell (wb_ w _ hw3)).trans hw3, (HB1.out.cell (wb_ w _ hw4)).trans hw4, (HB1.out.cell (wb_ w _ hw5)).trans hw5, (HB1.out.cell (wb_ w _ hw0)).trans hw0⟩) ?_
    intro hHeld
    clear hx0 hx1 hx2 hx3 hx4 hx5 hw0 hw1 hw2 hw3 hw4 hw5 HB
    iterate 4 first | (refine seqP (v := ?_) (a' := ?_) rfl rfl (by kernel_rfl) (fun _ _ _ h => h) (Or.inl ⟨by kernel_rfl, ?_⟩) ?_ ?_; rotate_left; (intro w'; go_simp; with_reducible rfl); rotate_left; (simp only [Act.put, sa_, sb_, sc_, i64_w, i32_w]; rfl)) | (refine seqL (v := ?_) (a' := ?_) rfl rfl (by kernel_rfl) (fun _ _ _ h => h) (Or.inl ⟨by kernel_rfl, ?_⟩) hHeld ?_ ?_; rotate_left; (rintro w' ⟨s0, s1, s2, s3, s4, s5, s6⟩; go_simp; with_reducible rfl); rotate_left; (simp only [Act.put, sa_, sb_, sc_, i64_w, i32_w]; rfl))
    refine seqG (fn := Try.f60) rfl rfl (by kernel_rfl) rfl Try.func60 (by kernel_rfl) (by kernel_rfl) #[.agg #[.int .i64 x0, .int .i64 x1, .string x2, .int .i64 x3, .string x4, .bool x5]] (by kernel_rfl) (by (try simp only [List.map_toArray, List.map_cons, List.map_nil]); first | done | rfl) ?_
    with_reducible refine (CM.out _).mono ?_
    rintro e wg ⟨rfl, hb2⟩
    have HB2 := am_ (bt_ HB1.out hb2)
    refine ⟨_, rfl, pinfoldref11_TableMay.S_below hHeld hb2, fun hHeld => ⟨?_, ?_, ?_⟩⟩
    rotate_left
    ·simp only [Act.put, sa_, sb_, sc_, i64_w, i32_w]
     rfl
    clear hb2 HB1 CM
    iterate 2 first | (refine seqP (v := ?_) (a' := ?_) rfl rfl (by kernel_rfl) (fun _ _ _ h => h) (Or.inl ⟨by kernel_rfl, ?_⟩) ?_ ?_; rotate_left; (intro w'; go_simp; with_reducible rfl); rotate_left; (simp only [Act.put, sa_, sb_, sc_, i64_w, i32_w]; rfl)) | (refine seqL (v := ?_) (a' := ?_) rfl rfl (by kernel_rfl) (fun _ _ _ h => h) (Or.inl ⟨by kernel_rfl, ?_⟩) hHeld ?_ ?_; rotate_left; (rintro w' ⟨s0, s1, s2, s3, s4, s5, s6⟩; go_simp; with_reducible rfl); rotate_left; (simp only [Act.put, sa_, sb_, sc_, i64_w, i32_w]; rfl))
    iterate 3 first | (refine seqP (v := ?_) (a' := ?_) rfl rfl (by kernel_rfl) (fun _ _ _ h => h) (Or.inl ⟨by kernel_rfl, ?_⟩) ?_ ?_; rotate_left; (intro w'; go_simp; with_reducible rfl); rotate_left; (simp only [Act.put, sa_, sb_, sc_, i64_w, i32_w]; rfl)) | (refine seqL (v := ?_) (a' := ?_) rfl rfl (by kernel_rfl) (fun _ _ _ h => h) (Or.inl ⟨by kernel_rfl, ?_⟩) hHeld ?_ ?_; rotate_left; (rintro w' ⟨s0, s1, s2, s3, s4, s5, s6⟩; go_simp; with_reducible rfl); rotate_left; (simp only [Act.put, sa_, sb_, sc_, i64_w, i32_w]; rfl))
    iterate 12 (refine seqP (v := undef) (a' := ?_) rfl rfl (by kernel_rfl) (fun _ _ _ h => h) (Or.inr ⟨by kernel_rfl, rfl⟩) ?_ ?_; rotate_left; (simp only [Act.put, sa_, sb_, sc_, i64_w, i32_w]; rfl))
    iterate 2 first | (refine seqP (v := ?_) (a' := ?_) rfl rfl (by kernel_rfl) (fun _ _ _ h => h) (Or.inl ⟨by kernel_rfl, ?_⟩) ?_ ?_; rotate_left; (intro w'; go_simp; with_reducible rfl); rotate_left; (simp only [Act.put, sa_, sb_, sc_, i64_w, i32_w]; rfl)) | (refine seqL (v := ?_) (a' := ?_) rfl rfl (by kernel_rfl) (fun _ _ _ h => h) (Or.inl ⟨by kernel_rfl, ?_⟩) hHeld ?_ ?_; rotate_left; (rintro w' ⟨s0, s1, s2, s3, s4, s5, s6⟩; go_simp; with_reducible rfl); rotate_left; (simp only [Act.put, sa_, sb_, sc_, i64_w, i32_w]; rfl))
    refine seqE (by kernel_rfl) ?_
    go_wp2
    go_roundg (l0.length - (i.toNat + 1))
    case measure => exact H3.out
    case rel => exact ⟨i + 1, H1.out, H2.out, by first | rfl | (rw [show wrap64 (i + 1) = i + 1 from (i64_w _).symm.trans H4.out]), HB2, HN⟩
   ·obtain ⟨j, y, hj, hj0, hj1, hay, hwy⟩ := hpv hp
    have cp : decide (0 < i) = true := decide_eq_true (H5.out hp)
    have hjw : IntKind.i64.wrap (i - 1) = j := (i64_w _).trans hj
    have pj0 := eq_true hj0
    have pj1 := eq_true hj1
    have cj0 := decide_eq_true hj0
    have cj1 := decide_eq_true hj1
    rw [hay] at hst2
    replace hp := am_ hp
    replace hj0 := am_ hj0
    replace hj1 := am_ hj1
    by_cases hc : x0 ≤ y
    ·have cc : decide (x0 ≤ y) = true := decide_eq_true hc
     have HF := am_ (show false = r by rw [← hst2, show above (some y) x0 = false from decide_eq_false (by omega)]; simp)
     clear hst2 hpv hi2 hc hay
     go_wp2_with fail
     have HB1 := am_ (below_drew HB.out)
     refine seqS (S := pinfoldref11_TableMay.S (ad.add (i.toNat * 6)) x0 x1 x2 x3 x4 x5 (ad.add (j.toNat * 6)) y) 24 (by kernel_rfl) rfl rfl (by unfold pinfoldref11_TableMay.S; exact ⟨(HB1.out.cell (wb_ w _ hw0)).trans hw0, (HB1.out.cell (wb_ w _ hw1)).trans hw1, (HB1.out.cell (wb_ w _ hw2)).trans hw2, (HB1.out.cell (wb_ w _ hw3)).trans hw3, (HB1.out.cell (wb_ w _ hw4)).trans hw4, (HB1.out.cell (wb_ w _ hw5)).trans hw5, (HB1.out.cell (wb_ w _ hwy)).trans hwy⟩) ?_
     intro hHeld
     clear hx0 hx1 hx2 hx3 hx4 hx5 hw0 hw1 hw2 hw3 hw4 hw5 HB
     iterate 4 first | (refine seqP (v := ?_) (a' := ?_) rfl rfl (by kernel_rfl) (fun _ _ _ h => h) (Or.inl ⟨by kernel_rfl, ?_⟩) ?_ ?_; rotate_left; (intro w'; go_simp; with_reducible rfl); rotate_left; (simp only [Act.put, sa_, sb_, sc_, i64_w, i32_w]; rfl)) | (refine seqL (v := ?_) (a' := ?_) rfl rfl (by kernel_rfl) (fun _ _ _ h => h) (Or.inl ⟨by kernel_rfl, ?_⟩) hHeld ?_ ?_; rotate_left; (rintro w' ⟨s0, s1, s2, s3, s4, s5, s6⟩; go_simp; with_reducible rfl); rotate_left; (simp only [Act.put, sa_, sb_, sc_, i64_w, i32_w]; rfl))
     refine seqG (fn := Try.f60) rfl rfl (by kernel_rfl) rfl Try.func60 (by kernel_rfl) (by kernel_rfl) #[.agg #[.int .i64 x0, .int .i64 x1, .string x2, .int .i64 x3, .string x4, .bool x5]] (by kernel_rfl) (by (try simp only [List.map_toArray, List.map_cons, List.map_nil]); first | done | rfl) ?_
     with_reducible refine (CM.out _).mono ?_
     rintro e wg ⟨rfl, hb2⟩
     have HB2 := am_ (bt_ HB1.out hb2)
     refine ⟨_, rfl, pinfoldref11_TableMay.S_below hHeld hb2, fun hHeld => ⟨?_, ?_, ?_⟩⟩
     rotate_left
     ·simp only [Act.put, sa_, sb_, sc_, i64_w, i32_w]
      rfl
     clear hb2 HB1 CM
     iterate 2 first | (refine seqP (v := ?_) (a' := ?_) rfl rfl (by kernel_rfl) (fun _ _ _ h => h) (Or.inl ⟨by kernel_rfl, ?_⟩) ?_ ?_; rotate_left; (intro w'; go_simp; with_reducible rfl); rotate_left; (simp only [Act.put, sa_, sb_, sc_, i64_w, i32_w]; rfl)) | (refine seqL (v := ?_) (a' := ?_) rfl rfl (by kernel_rfl) (fun _ _ _ h => h) (Or.inl ⟨by kernel_rfl, ?_⟩) hHeld ?_ ?_; rotate_left; (rintro w' ⟨s0, s1, s2, s3, s4, s5, s6⟩; go_simp; with_reducible rfl); rotate_left; (simp only [Act.put, sa_, sb_, sc_, i64_w, i32_w]; rfl))
     iterate 17 first | (refine seqP (v := ?_) (a' := ?_) rfl rfl (by kernel_rfl) (fun _ _ _ h => h) (Or.inl ⟨by kernel_rfl, ?_⟩) ?_ ?_; rotate_left; (intro w'; go_simp; with_reducible rfl); rotate_left; (simp only [Act.put, sa_, sb_, sc_, i64_w, i32_w]; rfl)) | (refine seqL (v := ?_) (a' := ?_) rfl rfl (by kernel_rfl) (fun _ _ _ h => h) (Or.inl ⟨by kernel_rfl, ?_⟩) hHeld ?_ ?_; rotate_left; (rintro w' ⟨s0, s1, s2, s3, s4, s5, s6⟩; go_simp; with_reducible rfl); rotate_left; (simp only [Act.put, sa_, sb_, sc_, i64_w, i32_w]; rfl))
     refine seqE (by kernel_rfl) ?_
     go_wp2
     go_ret
     exact ⟨ret_bool (HF.out), HB2.out⟩
    ·have cc : decide (x0 ≤ y) = false := decide_eq_false hc
     have HN := am_ (show (goTab (hostAheadR l0 (i + 1).toNat) (l0.drop (i + 1).toNat) && decide (l0.length ≤ 8)) = r by rw [← hst2, show above (some y) x0 = true from decide_eq_true (by omega), Bool.true_and])
     clear hst2 hpv hi2 hc hay
     go_wp2_with fail
     have HB1 := am_ (below_drew HB.out)
     refine seqS (S := pinfoldref11_TableMay.S (ad.add (i.toNat * 6)) x0 x1 x2 x3 x4 x5 (ad.add (j.toNat * 6)) y) 24 (by kernel_rfl) rfl rfl (by unfold pinfoldref11_TableMay.S; exact ⟨(HB1.out.cell (wb_ w _ hw0)).trans hw0, (HB1.out.cell (wb_ w _ hw1)).trans hw1, (HB1.out.cell (wb_ w _ hw2)).trans hw2, (HB1.out.cell (wb_ w _ hw3)).trans hw3, (HB1.out.cell (wb_ w _ hw4)).trans hw4, (HB1.out.cell (wb_ w _ hw5)).trans hw5, (HB1.out.cell (wb_ w _ hwy)).trans hwy⟩) ?_
     intro hHeld
     clear hx0 hx1 hx2 hx3 hx4 hx5 hw0 hw1 hw2 hw3 hw4 hw5 HB
     iterate 4 first | (refine seqP (v := ?_) (a' := ?_) rfl rfl (by kernel_rfl) (fun _ _ _ h => h) (Or.inl ⟨by kernel_rfl, ?_⟩) ?_ ?_; rotate_left; (intro w'; go_simp; with_reducible rfl); rotate_left; (simp only [Act.put, sa_, sb_, sc_, i64_w, i32_w]; rfl)) | (refine seqL (v := ?_) (a' := ?_) rfl rfl (by kernel_rfl) (fun _ _ _ h => h) (Or.inl ⟨by kernel_rfl, ?_⟩) hHeld ?_ ?_; rotate_left; (rintro w' ⟨s0, s1, s2, s3, s4, s5, s6⟩; go_simp; with_reducible rfl); rotate_left; (simp only [Act.put, sa_, sb_, sc_, i64_w, i32_w]; rfl))
     refine seqG (fn := Try.f60) rfl rfl (by kernel_rfl) rfl Try.func60 (by kernel_rfl) (by kernel_rfl) #[.agg #[.int .i64 x0, .int .i64 x1, .string x2, .int .i64 x3, .string x4, .bool x5]] (by kernel_rfl) (by (try simp only [List.map_toArray, List.map_cons, List.map_nil]); first | done | rfl) ?_
     with_reducible refine (CM.out _).mono ?_
     rintro e wg ⟨rfl, hb2⟩
     have HB2 := am_ (bt_ HB1.out hb2)
     refine ⟨_, rfl, pinfoldref11_TableMay.S_below hHeld hb2, fun hHeld => ⟨?_, ?_, ?_⟩⟩
     rotate_left
     ·simp only [Act.put, sa_, sb_, sc_, i64_w, i32_w]
      rfl
     clear hb2 HB1 CM
     iterate 2 first | (refine seqP (v := ?_) (a' := ?_) rfl rfl (by kernel_rfl) (fun _ _ _ h => h) (Or.inl ⟨by kernel_rfl, ?_⟩) ?_ ?_; rotate_left; (intro w'; go_simp; with_reducible rfl); rotate_left; (simp only [Act.put, sa_, sb_, sc_, i64_w, i32_w]; rfl)) | (refine seqL (v := ?_) (a' := ?_) rfl rfl (by kernel_rfl) (fun _ _ _ h => h) (Or.inl ⟨by kernel_rfl, ?_⟩) hHeld ?_ ?_; rotate_left; (rintro w' ⟨s0, s1, s2, s3, s4, s5, s6⟩; go_simp; with_reducible rfl); rotate_left; (simp only [Act.put, sa_, sb_, sc_, i64_w, i32_w]; rfl))
     iterate 17 first | (refine seqP (v := ?_) (a' := ?_) rfl rfl (by kernel_rfl) (fun _ _ _ h => h) (Or.inl ⟨by kernel_rfl, ?_⟩) ?_ ?_; rotate_left; (intro w'; go_simp; with_reducible rfl); rotate_left; (simp only [Act.put, sa_, sb_, sc_, i64_w, i32_w]; rfl)) | (refine seqL (v := ?_) (a' := ?_) rfl rfl (by kernel_rfl) (fun _ _ _ h => h) (Or.inl ⟨by kernel_rfl, ?_⟩) hHeld ?_ ?_; rotate_left; (rintro w' ⟨s0, s1, s2, s3, s4, s5, s6⟩; go_simp; with_reducible rfl); rotate_left; (simp only [Act.put, sa_, sb_, sc_, i64_w, i32_w]; rfl))
     refine seqE (by kernel_rfl) ?_
     go_wp2
     go_roundg (l0.length - (i.toNat + 1))
     case measure => exact H3.out
     case rel => exact ⟨i + 1, H1.out, H2.out, by first | rfl | (rw [show wrap64 (i + 1) = i + 1 from (i64_w _).symm.trans H4.out]), HB2, HN⟩
  ·have HF := am_ (show decide (l0.length ≤ 8) = r by have h1 := HT.out; rw [List.drop_eq_nil_of_le (by omega)] at h1; rw [← h1, show goTab (hostAheadR l0 i.toNat) [] = true from rfl, Bool.true_and])
   by_cases h8 : l0.length ≤ 8
   ·have c8 : decide ((l0.length : Int) ≤ 8) = true := decide_eq_true (by omega)
    have HG := am_ (show true = r by rw [← HF.out]; exact (decide_eq_true h8).symm)
    clear HT HF
    go_wp2
    go_ret
    exact ⟨ret_bool HG.out, HB.out⟩
   ·have c8 : decide ((l0.length : Int) ≤ 8) = false := decide_eq_false (by omega)
    have HG := am_ (show false = r by rw [← HF.out]; exact (decide_eq_false h8).symm)
    clear HT HF
    go_wp2
    go_ret
    exact ⟨ret_bool HG.out, HB.out⟩

/-! ### pinfoldref11_put: function 54 -/
-- BY HAND
theorem pinfoldref11_put.info : (Try.prog.info? 37).map (fun i => (i.zero, i.size, i.bytes)) = some (some (.agg #[.int .i64 0, .int .i64 0, .string ⟨#[]⟩, .int .i64 0, .string ⟨#[]⟩, .bool false]), 6, 64) := by kernel_rfl
def pinfoldref11_put_c.f (l0 : List S37) (a1_0 : Int) (a1_1 : Int) (a1_2 : ByteArray) (a1_3 : Int) (a1_4 : ByteArray) (a1_5 : Bool) : Option (List S37) := if l0.length ≤ 1099511627776 then some (putL l0 ⟨a1_0, a1_1, a1_2, a1_3, a1_4, a1_5⟩) else none
set_option maxHeartbeats 8000000 in
set_option maxRecDepth 100000 in
theorem pinfoldref11_put_c.calls (A0 : Option Addr) (c0 : Nat) (l0 : List S37) (a1_0 : Int) (a1_1 : Int) (a1_2 : ByteArray) (a1_3 : Int) (a1_4 : ByteArray) (a1_5 : Bool) (r : List S37) (w : World) (hr0 : Kd.C k37 w A0 l0.length l0) (hc0 : l0.length ≤ c0) (h : pinfoldref11_put_c.f l0 a1_0 a1_1 a1_2 a1_3 a1_4 a1_5 = some r) :
  Calls Try.prog 54 #[.slice A0 l0.length c0, .agg #[.int .i64 a1_0, .int .i64 a1_1, .string a1_2, .int .i64 a1_3, .string a1_4, .bool a1_5]] w fun e w' => ∃ v0_ : Value, e = .returned v0_ ∧ Kd.R k37 37 w' w.heap.size (fun _ => True) v0_ r ∧ Below w.heap.size w w' := by
 unfold pinfoldref11_put_c.f at h
 by_cases hs : l0.length ≤ 1099511627776
 rotate_left
 ·rw [if_neg hs] at h
  cases h
 rw [if_pos hs] at h
 have HE := am_ (show ([] : List S37) ++ putGo (⟨a1_0, a1_1, a1_2, a1_3, a1_4, a1_5⟩ : S37) false (l0.drop (0 : Int).toNat) = r from e5_ h)
 have HR0 := am_ hr0
 have HB := am_ (Below.refl w.heap.size w)
 have BK := am_ (blk_new w (.cells #[.int .i64 a1_0, .int .i64 a1_1, .string a1_2, .int .i64 a1_3, .string a1_4, .bool a1_5] 37))
 clear h hr0 hc0
 go_enter Try.func54, Try.ntmps54
 go_wp2
 replace HB := am_ (p3_ HB.out (.cells #[.int .i64 a1_0, .int .i64 a1_1, .string a1_2, .int .i64 a1_3, .string a1_4, .bool a1_5] 37))
 go_loopg [5, 6, 7] l0.length (fun d v5 v6 v7 w' => ∃ (i : Int) (dn : Bool) (acc : List S37), 0 ≤ i ∧ i.toNat + d = l0.length ∧ v6 = .bool dn ∧ v7 = .int .i64 i ∧ acc.length ≤ i.toNat + (if dn = true then 1 else 0) ∧ Aside0 (Below w.heap.size w w') ∧ Aside0 (w'.heap[w.heap.size]? = some (.cells #[.int .i64 a1_0, .int .i64 a1_1, .string a1_2, .int .i64 a1_3, .string a1_4, .bool a1_5] 37)) ∧ Aside0 (Kd.R k37 37 w' w.heap.size (fun k_ => k_ ≠ w.heap.size) v5 acc) ∧ Aside0 (acc ++ putGo (⟨a1_0, a1_1, a1_2, a1_3, a1_4, a1_5⟩ : S37) dn (l0.drop i.toNat) = r))
 case atStart => exact ⟨0, false, [], by omega, by simp, rfl, rfl, by simp, HB, BK, ⟨Kd.R_nil _ _ _ _ _⟩, HE⟩
 case round =>
  clear HB BK HE
  obtain ⟨i, dn, acc, hi0, hd, rfl, rfl, hac, HB, BK, HO, HE⟩ := hrel
  have ua0 := bc_ BK.out 0; have ua1 := bc_ BK.out 1; have ua2 := bc_ BK.out 2; have ua3 := bc_ BK.out 3; have ua4 := bc_ BK.out 4; have ua5 := bc_ BK.out 5
  have tokA : True := trivial
  by_cases hlt : i < (l0.length : Int)
  ·obtain ⟨ad, e1, hw⟩ := at_T37 HR0.out i hi0 hlt
   cases e1
   have he := HE.out
   rw [(dropLease l0 i hi0 hlt).1] at he
   clear HE
   generalize rd_T37 l0 i = x at hw he
   obtain ⟨y0, y1, y2, y3, y4, y5⟩ := x
   simp only at hw
   have HW := am_ hw
   clear hw
   have hx0 := (HB.out.cell (wb_ w _ HW.out.1)).trans HW.out.1; have hx1 := (HB.out.cell (wb_ w _ HW.out.2.1)).trans HW.out.2.1; have hx2 := (HB.out.cell (wb_ w _ HW.out.2.2.1)).trans HW.out.2.2.1; have hx3 := (HB.out.cell (wb_ w _ HW.out.2.2.2.1)).trans HW.out.2.2.2.1; have hx4 := (HB.out.cell (wb_ w _ HW.out.2.2.2.2.1)).trans HW.out.2.2.2.2.1; have hx5 := (HB.out.cell (wb_ w _ HW.out.2.2.2.2.2)).trans HW.out.2.2.2.2.2
   unfold putGo at he
   have M1 := am_ (show 0 ≤ i + 1 by omega)
   have M2 := am_ (show (i + 1).toNat + (l0.length - (i.toNat + 1)) = l0.length by omega)
   have M3 := am_ (show l0.length - (i.toNat + 1) < gk by omega)
   have M4 := am_ (show IntKind.i64.wrap (i + 1) = i + 1 from (i64_w _).trans (by unfold wrap64; omega))
   have hi2 : i.toNat + 1 = (i + 1).toNat := by omega
   rw [hi2] at he
   have clt := decide_eq_true hlt
   have cle := decide_eq_true hi0
   have plt := eq_true hlt
   have ple := eq_true hi0
   cases dn with
   | true =>
    replace hac : acc.length ≤ i.toNat + 1 := hac
    rw [if_neg (fun h => by cases h.1), List.nil_append, Bool.true_or] at he
    by_cases q : y0 = a1_0
    ·rw [if_pos q, List.nil_append] at he
     have HN := am_ he
     have HL := am_ (show acc.length ≤ (i + 1).toNat + 1 by omega)
     have qb : (y0 == a1_0) = true := by simpa using q
     clear q he hi2 hd hi0 hlt hac
     go_wp2_with fail
     go_quiet (fail)
     go_wp2_with fail
     go_quiet (fail)
     go_wp2
     go_roundg (l0.length - (i.toNat + 1))
     case measure => exact M3.out
     case rel => exact ⟨i + 1, true, acc, M1.out, M2.out, rfl, by first | rfl | (rw [show wrap64 (i + 1) = i + 1 from (i64_w _).symm.trans M4.out]), HL.out, ⟨(by repeat (with_reducible first | exact HB.out | apply p3_ | apply p1_ | apply p2_))⟩, ⟨(by (with_reducible repeat (first | exact BK.out | refine k2_ ?_ _ | refine k3_ ?_ | refine k1_ ?_ _)))⟩, ⟨by (with_reducible repeat (first | apply r1_ | apply r2_ | apply r3_)); exact HO.out⟩, HN⟩
    ·rw [if_neg q, ← List.append_assoc] at he
     have HN := am_ he
     have HL := am_ (show (acc ++ [(⟨y0, y1, y2, y3, y4, y5⟩ : S37)]).length ≤ (i + 1).toNat + 1 by rw [List.length_append, List.length_singleton]; omega)
     have qb : (y0 == a1_0) = false := by simpa using q
     have LEN := am_ (show (acc.length + 1) * 64 ≤ 140737488355328 by omega)
     clear q he hi2 hd hi0 hlt hac
     go_wp2_with fail
     go_quiet (fail)
     go_wp2_with fail
     go_quiet (fail)
     go_wp2_with (first | ((with_reducible refine gate_builtin (b := .append) (xs := #[.tmp 38, .tmp 43]) rfl ?_); at_builtin; refine Kd.R_append k37 (w0 := w) w.heap.size rfl (.tmp 38) (.tmp 43) 27 37 (.agg #[(.int .i64 0), (.int .i64 0), (.string ⟨#[]⟩), (.int .i64 0), (.string ⟨#[]⟩), (.bool false)]) 64 rfl Try.underlying27 pinfoldref11_put.info rfl (by decide) (by omega) u5 acc (⟨y0, y1, y2, y3, y4, y5⟩ : S37) [.int .i64 y0, .int .i64 y1, .string y2, .int .i64 y3, .string y4, .bool y5] (fun k_ => k_ ≠ w.heap.size) (fun _ => False) rfl rfl ?aP (fun _ hk => hk.elim) ?aF ?aO ?aB ?aS ?aL ?_; (case aP => exact k37_mkM _ _ _ (⟨y0, y1, y2, y3, y4, y5⟩ : S37)); (case aF => exact (fun k_ hk => Kd.freshB (g := w.heap.size) (o := (.cells #[.int .i64 a1_0, .int .i64 a1_1, .string a1_2, .int .i64 a1_3, .string a1_4, .bool a1_5] 37)) (by (with_reducible repeat (first | exact BK.out | refine k2_ ?_ _ | refine k3_ ?_ | refine k1_ ?_ _))) k_ hk)); (case aO => exact (by (with_reducible repeat (first | apply r1_ | apply r2_ | apply r3_)); exact HO.out)); (case aB => exact (by repeat (with_reducible first | exact HB.out | apply p3_ | apply p1_ | apply p2_))); (case aS => exact (bz_ (by repeat (with_reducible first | exact HB.out | apply p3_ | apply p1_ | apply p2_)))); (case aL => exact LEN.out); intro v9 w9 ho hb hg hat; have n0 := am_ (blk_grown (g := w.heap.size) (o := (.cells #[.int .i64 a1_0, .int .i64 a1_1, .string a1_2, .int .i64 a1_3, .string a1_4, .bool a1_5] 37)) (by (with_reducible repeat (first | exact BK.out | refine k2_ ?_ _ | refine k3_ ?_ | refine k1_ ?_ _))) hg (Kd.R_away HO.out (fun _ hk => hk))); have n1 := am_ hb; have n2 := am_ ho; clear BK HB HO ho hb hg hat; have BK := n0; have HB := n1; have HO := n2; clear n0 n1 n2; clear ua0 ua1 ua2 ua3 ua4 ua5 hx0 hx1 hx2 hx3 hx4 hx5))
     go_roundg (l0.length - (i.toNat + 1))
     case measure => exact M3.out
     case rel => exact ⟨i + 1, true, (acc ++ [(⟨y0, y1, y2, y3, y4, y5⟩ : S37)]), M1.out, M2.out, rfl, by first | rfl | (rw [show wrap64 (i + 1) = i + 1 from (i64_w _).symm.trans M4.out]), HL.out, ⟨(by repeat (with_reducible first | exact HB.out | apply p3_ | apply p1_ | apply p2_))⟩, ⟨(by (with_reducible repeat (first | exact BK.out | refine k2_ ?_ _ | refine k3_ ?_ | refine k1_ ?_ _)))⟩, ⟨by (with_reducible repeat (first | apply r1_ | apply r2_ | apply r3_)); exact HO.out⟩, HN⟩
   | false =>
    replace hac : acc.length ≤ i.toNat := hac
    rw [Bool.false_or] at he
    by_cases q : y0 ≥ a1_0
    rotate_left
    ·rw [if_neg (fun h => q h.2), List.nil_append, if_neg (show ¬ y0 = a1_0 from fun e => q (by omega)), decide_eq_false q, ← List.append_assoc] at he
     have HN := am_ he
     have HL := am_ (show (acc ++ [(⟨y0, y1, y2, y3, y4, y5⟩ : S37)]).length ≤ (i + 1).toNat + 0 by rw [List.length_append, List.length_singleton]; omega)
     have qb : (y0 == a1_0) = false := by simpa using (fun e : y0 = a1_0 => q (by omega))
     have qc : decide (a1_0 ≤ y0) = false := decide_eq_false q
     have LEN := am_ (show (acc.length + 1) * 64 ≤ 140737488355328 by omega)
     clear q he hi2 hd hi0 hlt hac
     go_wp2_with fail
     go_quiet (fail)
     go_wp2_with fail
     go_quiet (fail)
     go_wp2_with (first | ((with_reducible refine gate_builtin (b := .append) (xs := #[.tmp 38, .tmp 43]) rfl ?_); at_builtin; refine Kd.R_append k37 (w0 := w) w.heap.size rfl (.tmp 38) (.tmp 43) 27 37 (.agg #[(.int .i64 0), (.int .i64 0), (.string ⟨#[]⟩), (.int .i64 0), (.string ⟨#[]⟩), (.bool false)]) 64 rfl Try.underlying27 pinfoldref11_put.info rfl (by decide) (by omega) u5 acc (⟨y0, y1, y2, y3, y4, y5⟩ : S37) [.int .i64 y0, .int .i64 y1, .string y2, .int .i64 y3, .string y4, .bool y5] (fun k_ => k_ ≠ w.heap.size) (fun _ => False) rfl rfl ?aP (fun _ hk => hk.elim) ?aF ?aO ?aB ?aS ?aL ?_; (case aP => exact k37_mkM _ _ _ (⟨y0, y1, y2, y3, y4, y5⟩ : S37)); (case aF => exact (fun k_ hk => Kd.freshB (g := w.heap.size) (o := (.cells #[.int .i64 a1_0, .int .i64 a1_1, .string a1_2, .int .i64 a1_3, .string a1_4, .bool a1_5] 37)) (by (with_reducible repeat (first | exact BK.out | refine k2_ ?_ _ | refine k3_ ?_ | refine k1_ ?_ _))) k_ hk)); (case aO => exact (by (with_reducible repeat (first | apply r1_ | apply r2_ | apply r3_)); exact HO.out)); (case aB => exact (by repeat (with_reducible first | exact HB.out | apply p3_ | apply p1_ | apply p2_))); (case aS => exact (bz_ (by repeat (with_reducible first | exact HB.out | apply p3_ | apply p1_ | apply p2_)))); (case aL => exact LEN.out); intro v9 w9 ho hb hg hat; have n0 := am_ (blk_grown (g := w.heap.size) (o := (.cells #[.int .i64 a1_0, .int .i64 a1_1, .string a1_2, .int .i64 a1_3, .string a1_4, .bool a1_5] 37)) (by (with_reducible repeat (first | exact BK.out | refine k2_ ?_ _ | refine k3_ ?_ | refine k1_ ?_ _))) hg (Kd.R_away HO.out (fun _ hk => hk))); have n1 := am_ hb; have n2 := am_ ho; clear BK HB HO ho hb hg hat; have BK := n0; have HB := n1; have HO := n2; clear n0 n1 n2; clear ua0 ua1 ua2 ua3 ua4 ua5 hx0 hx1 hx2 hx3 hx4 hx5))
     go_roundg (l0.length - (i.toNat + 1))
     case measure => exact M3.out
     case rel => exact ⟨i + 1, false, (acc ++ [(⟨y0, y1, y2, y3, y4, y5⟩ : S37)]), M1.out, M2.out, rfl, by first | rfl | (rw [show wrap64 (i + 1) = i + 1 from (i64_w _).symm.trans M4.out]), HL.out, ⟨(by repeat (with_reducible first | exact HB.out | apply p3_ | apply p1_ | apply p2_))⟩, ⟨(by (with_reducible repeat (first | exact BK.out | refine k2_ ?_ _ | refine k3_ ?_ | refine k1_ ?_ _)))⟩, ⟨by (with_reducible repeat (first | apply r1_ | apply r2_ | apply r3_)); exact HO.out⟩, HN⟩
    rw [if_pos ⟨rfl, q⟩, decide_eq_true q, ← List.append_assoc] at he
    have qc : decide (a1_0 ≤ y0) = true := decide_eq_true q
    have LEN := am_ (show (acc.length + 1) * 64 ≤ 140737488355328 by omega)
    have LEN2 := am_ (show ((acc ++ [(⟨a1_0, a1_1, a1_2, a1_3, a1_4, a1_5⟩ : S37)]).length + 1) * 64 ≤ 140737488355328 by rw [List.length_append, List.length_singleton]; omega)
    by_cases q2 : y0 = a1_0
    ·rw [if_pos q2, List.nil_append] at he
     have HN := am_ he
     have HL := am_ (show (acc ++ [(⟨a1_0, a1_1, a1_2, a1_3, a1_4, a1_5⟩ : S37)]).length ≤ (i + 1).toNat + 1 by rw [List.length_append, List.length_singleton]; omega)
     have qb : (y0 == a1_0) = true := by simpa using q2
     clear q q2 he hi2 hd hi0 hlt hac
     go_wp2_with fail
     go_quiet (fail)
     go_wp2_with (first | (have N1 := tokA; clear tokA N1; ((with_reducible refine gate_builtin (b := .append) (xs := #[.tmp 26, .tmp 28]) rfl ?_); at_builtin; refine Kd.R_append k37 (w0 := w) w.heap.size rfl (.tmp 26) (.tmp 28) 27 37 (.agg #[(.int .i64 0), (.int .i64 0), (.string ⟨#[]⟩), (.int .i64 0), (.string ⟨#[]⟩), (.bool false)]) 64 rfl Try.underlying27 pinfoldref11_put.info rfl (by decide) (by omega) u5 acc (⟨a1_0, a1_1, a1_2, a1_3, a1_4, a1_5⟩ : S37) [.int .i64 a1_0, .int .i64 a1_1, .string a1_2, .int .i64 a1_3, .string a1_4, .bool a1_5] (fun k_ => k_ ≠ w.heap.size) (fun _ => False) rfl rfl ?aP (fun _ hk => hk.elim) ?aF ?aO ?aB ?aS ?aL ?_; (case aP => exact k37_mkM _ _ _ (⟨a1_0, a1_1, a1_2, a1_3, a1_4, a1_5⟩ : S37)); (case aF => exact (fun k_ hk => Kd.freshB (g := w.heap.size) (o := (.cells #[.int .i64 a1_0, .int .i64 a1_1, .string a1_2, .int .i64 a1_3, .string a1_4, .bool a1_5] 37)) (by (with_reducible repeat (first | exact BK.out | refine k2_ ?_ _ | refine k3_ ?_ | refine k1_ ?_ _))) k_ hk)); (case aO => exact (by (with_reducible repeat (first | apply r1_ | apply r2_ | apply r3_)); exact HO.out)); (case aB => exact (by repeat (with_reducible first | exact HB.out | apply p3_ | apply p1_ | apply p2_))); (case aS => exact (bz_ (by repeat (with_reducible first | exact HB.out | apply p3_ | apply p1_ | apply p2_)))); (case aL => exact LEN.out); intro v9 w9 ho hb hg hat; have n0 := am_ (blk_grown (g := w.heap.size) (o := (.cells #[.int .i64 a1_0, .int .i64 a1_1, .string a1_2, .int .i64 a1_3, .string a1_4, .bool a1_5] 37)) (by (with_reducible repeat (first | exact BK.out | refine k2_ ?_ _ | refine k3_ ?_ | refine k1_ ?_ _))) hg (Kd.R_away HO.out (fun _ hk => hk))); have n1 := am_ hb; have n2 := am_ ho; clear BK HB HO ho hb hg hat; have BK := n0; have HB := n1; have HO := n2; clear n0 n1 n2; have LEN := LEN2; clear LEN2 ua0 ua1 ua2 ua3 ua4 ua5 hx0 hx1 hx2 hx3 hx4 hx5; have ua0 := bc_ BK.out 0; have ua1 := bc_ BK.out 1; have ua2 := bc_ BK.out 2; have ua3 := bc_ BK.out 3; have ua4 := bc_ BK.out 4; have ua5 := bc_ BK.out 5; have hx0 := (HB.out.cell (wb_ w _ HW.out.1)).trans HW.out.1; have hx1 := (HB.out.cell (wb_ w _ HW.out.2.1)).trans HW.out.2.1; have hx2 := (HB.out.cell (wb_ w _ HW.out.2.2.1)).trans HW.out.2.2.1; have hx3 := (HB.out.cell (wb_ w _ HW.out.2.2.2.1)).trans HW.out.2.2.2.1; have hx4 := (HB.out.cell (wb_ w _ HW.out.2.2.2.2.1)).trans HW.out.2.2.2.2.1; have hx5 := (HB.out.cell (wb_ w _ HW.out.2.2.2.2.2)).trans HW.out.2.2.2.2.2)))
     go_quiet (fail)
     go_wp2
     go_roundg (l0.length - (i.toNat + 1))
     case measure => exact M3.out
     case rel => exact ⟨i + 1, true, (acc ++ [(⟨a1_0, a1_1, a1_2, a1_3, a1_4, a1_5⟩ : S37)]), M1.out, M2.out, rfl, by first | rfl | (rw [show wrap64 (i + 1) = i + 1 from (i64_w _).symm.trans M4.out]), HL.out, ⟨(by repeat (with_reducible first | exact HB.out | apply p3_ | apply p1_ | apply p2_))⟩, ⟨(by (with_reducible repeat (first | exact BK.out | refine k2_ ?_ _ | refine k3_ ?_ | refine k1_ ?_ _)))⟩, ⟨by (with_reducible repeat (first | apply r1_ | apply r2_ | apply r3_)); exact HO.out⟩, HN⟩
    ·rw [if_neg q2, ← List.append_assoc] at he
     have HN := am_ he
     have HL := am_ (show ((acc ++ [(⟨a1_0, a1_1, a1_2, a1_3, a1_4, a1_5⟩ : S37)]) ++ [(⟨y0, y1, y2, y3, y4, y5⟩ : S37)]).length ≤ (i + 1).toNat + 1 by rw [List.length_append, List.length_append, List.length_singleton, List.length_singleton]; omega)
     have qb : (y0 == a1_0) = false := by simpa using q2
     clear q q2 he hi2 hd hi0 hlt hac
     go_wp2_with fail
     go_quiet (fail)
     go_wp2_with (first | (have N1 := tokA; clear tokA N1; ((with_reducible refine gate_builtin (b := .append) (xs := #[.tmp 26, .tmp 28]) rfl ?_); at_builtin; refine Kd.R_append k37 (w0 := w) w.heap.size rfl (.tmp 26) (.tmp 28) 27 37 (.agg #[(.int .i64 0), (.int .i64 0), (.string ⟨#[]⟩), (.int .i64 0), (.string ⟨#[]⟩), (.bool false)]) 64 rfl Try.underlying27 pinfoldref11_put.info rfl (by decide) (by omega) u5 acc (⟨a1_0, a1_1, a1_2, a1_3, a1_4, a1_5⟩ : S37) [.int .i64 a1_0, .int .i64 a1_1, .string a1_2, .int .i64 a1_3, .string a1_4, .bool a1_5] (fun k_ => k_ ≠ w.heap.size) (fun _ => False) rfl rfl ?aP (fun _ hk => hk.elim) ?aF ?aO ?aB ?aS ?aL ?_; (case aP => exact k37_mkM _ _ _ (⟨a1_0, a1_1, a1_2, a1_3, a1_4, a1_5⟩ : S37)); (case aF => exact (fun k_ hk => Kd.freshB (g := w.heap.size) (o := (.cells #[.int .i64 a1_0, .int .i64 a1_1, .string a1_2, .int .i64 a1_3, .string a1_4, .bool a1_5] 37)) (by (with_reducible repeat (first | exact BK.out | refine k2_ ?_ _ | refine k3_ ?_ | refine k1_ ?_ _))) k_ hk)); (case aO => exact (by (with_reducible repeat (first | apply r1_ | apply r2_ | apply r3_)); exact HO.out)); (case aB => exact (by repeat (with_reducible first | exact HB.out | apply p3_ | apply p1_ | apply p2_))); (case aS => exact (bz_ (by repeat (with_reducible first | exact HB.out | apply p3_ | apply p1_ | apply p2_)))); (case aL => exact LEN.out); intro v9 w9 ho hb hg hat; have n0 := am_ (blk_grown (g := w.heap.size) (o := (.cells #[.int .i64 a1_0, .int .i64 a1_1, .string a1_2, .int .i64 a1_3, .string a1_4, .bool a1_5] 37)) (by (with_reducible repeat (first | exact BK.out | refine k2_ ?_ _ | refine k3_ ?_ | refine k1_ ?_ _))) hg (Kd.R_away HO.out (fun _ hk => hk))); have n1 := am_ hb; have n2 := am_ ho; clear BK HB HO ho hb hg hat; have BK := n0; have HB := n1; have HO := n2; clear n0 n1 n2; have LEN := LEN2; clear LEN2 ua0 ua1 ua2 ua3 ua4 ua5 hx0 hx1 hx2 hx3 hx4 hx5; have ua0 := bc_ BK.out 0; have ua1 := bc_ BK.out 1; have ua2 := bc_ BK.out 2; have ua3 := bc_ BK.out 3; have ua4 := bc_ BK.out 4; have ua5 := bc_ BK.out 5; have hx0 := (HB.out.cell (wb_ w _ HW.out.1)).trans HW.out.1; have hx1 := (HB.out.cell (wb_ w _ HW.out.2.1)).trans HW.out.2.1; have hx2 := (HB.out.cell (wb_ w _ HW.out.2.2.1)).trans HW.out.2.2.1; have hx3 := (HB.out.cell (wb_ w _ HW.out.2.2.2.1)).trans HW.out.2.2.2.1; have hx4 := (HB.out.cell (wb_ w _ HW.out.2.2.2.2.1)).trans HW.out.2.2.2.2.1; have hx5 := (HB.out.cell (wb_ w _ HW.out.2.2.2.2.2)).trans HW.out.2.2.2.2.2)))
     go_quiet (fail)
     go_wp2_with (first | ((with_reducible refine gate_builtin (b := .append) (xs := #[.tmp 38, .tmp 43]) rfl ?_); at_builtin; refine Kd.R_append k37 (w0 := w) w.heap.size rfl (.tmp 38) (.tmp 43) 27 37 (.agg #[(.int .i64 0), (.int .i64 0), (.string ⟨#[]⟩), (.int .i64 0), (.string ⟨#[]⟩), (.bool false)]) 64 rfl Try.underlying27 pinfoldref11_put.info rfl (by decide) (by omega) v9 (acc ++ [(⟨a1_0, a1_1, a1_2, a1_3, a1_4, a1_5⟩ : S37)]) (⟨y0, y1, y2, y3, y4, y5⟩ : S37) [.int .i64 y0, .int .i64 y1, .string y2, .int .i64 y3, .string y4, .bool y5] (fun k_ => k_ ≠ w.heap.size) (fun _ => False) rfl rfl ?aP (fun _ hk => hk.elim) ?aF ?aO ?aB ?aS ?aL ?_; (case aP => exact k37_mkM _ _ _ (⟨y0, y1, y2, y3, y4, y5⟩ : S37)); (case aF => exact (fun k_ hk => Kd.freshB (g := w.heap.size) (o := (.cells #[.int .i64 a1_0, .int .i64 a1_1, .string a1_2, .int .i64 a1_3, .string a1_4, .bool a1_5] 37)) (by (with_reducible repeat (first | exact BK.out | refine k2_ ?_ _ | refine k3_ ?_ | refine k1_ ?_ _))) k_ hk)); (case aO => exact (by (with_reducible repeat (first | apply r1_ | apply r2_ | apply r3_)); exact HO.out)); (case aB => exact (by repeat (with_reducible first | exact HB.out | apply p3_ | apply p1_ | apply p2_))); (case aS => exact (bz_ (by repeat (with_reducible first | exact HB.out | apply p3_ | apply p1_ | apply p2_)))); (case aL => exact LEN.out); intro v9 w9 ho hb hg hat; have n0 := am_ (blk_grown (g := w.heap.size) (o := (.cells #[.int .i64 a1_0, .int .i64 a1_1, .string a1_2, .int .i64 a1_3, .string a1_4, .bool a1_5] 37)) (by (with_reducible repeat (first | exact BK.out | refine k2_ ?_ _ | refine k3_ ?_ | refine k1_ ?_ _))) hg (Kd.R_away HO.out (fun _ hk => hk))); have n1 := am_ hb; have n2 := am_ ho; clear BK HB HO ho hb hg hat; have BK := n0; have HB := n1; have HO := n2; clear n0 n1 n2; clear ua0 ua1 ua2 ua3 ua4 ua5 hx0 hx1 hx2 hx3 hx4 hx5))
     go_roundg (l0.length - (i.toNat + 1))
     case measure => exact M3.out
     case rel => exact ⟨i + 1, true, ((acc ++ [(⟨a1_0, a1_1, a1_2, a1_3, a1_4, a1_5⟩ : S37)]) ++ [(⟨y0, y1, y2, y3, y4, y5⟩ : S37)]), M1.out, M2.out, rfl, by first | rfl | (rw [show wrap64 (i + 1) = i + 1 from (i64_w _).symm.trans M4.out]), HL.out, ⟨(by repeat (with_reducible first | exact HB.out | apply p3_ | apply p1_ | apply p2_))⟩, ⟨(by (with_reducible repeat (first | exact BK.out | refine k2_ ?_ _ | refine k3_ ?_ | refine k1_ ?_ _)))⟩, ⟨by (with_reducible repeat (first | apply r1_ | apply r2_ | apply r3_)); exact HO.out⟩, HN⟩
  ·have he := HE.out
   rw [List.drop_eq_nil_of_le (by omega)] at he
   cases dn with
   | true =>
    have HN := am_ (show acc = r by rw [← he]; exact (List.append_nil _).symm)
    clear he HE
    go_wp2
    go_ret
    exact ⟨_, rfl, Kd.R_mono (by rw [← HN.out]; exact HO.out) (fun _ _ => trivial), HB.out⟩
   | false =>
    have HN := am_ (show acc ++ [(⟨a1_0, a1_1, a1_2, a1_3, a1_4, a1_5⟩ : S37)] = r from he)
    have LEN := am_ (show (acc.length + 1) * 64 ≤ 140737488355328 by replace hac : acc.length ≤ i.toNat := hac; omega)
    clear he HE hac hd
    go_wp2_with (first | ((with_reducible refine gate_builtin (b := .append) (xs := #[.tmp 47, .tmp 49]) rfl ?_); at_builtin; refine Kd.R_append k37 (w0 := w) w.heap.size rfl (.tmp 47) (.tmp 49) 27 37 (.agg #[(.int .i64 0), (.int .i64 0), (.string ⟨#[]⟩), (.int .i64 0), (.string ⟨#[]⟩), (.bool false)]) 64 rfl Try.underlying27 pinfoldref11_put.info rfl (by decide) (by omega) u5 acc (⟨a1_0, a1_1, a1_2, a1_3, a1_4, a1_5⟩ : S37) [.int .i64 a1_0, .int .i64 a1_1, .string a1_2, .int .i64 a1_3, .string a1_4, .bool a1_5] (fun k_ => k_ ≠ w.heap.size) (fun _ => False) rfl rfl ?aP (fun _ hk => hk.elim) ?aF ?aO ?aB ?aS ?aL ?_; (case aP => exact k37_mkM _ _ _ (⟨a1_0, a1_1, a1_2, a1_3, a1_4, a1_5⟩ : S37)); (case aF => exact (fun k_ hk => Kd.freshB (g := w.heap.size) (o := (.cells #[.int .i64 a1_0, .int .i64 a1_1, .string a1_2, .int .i64 a1_3, .string a1_4, .bool a1_5] 37)) (by (with_reducible repeat (first | exact BK.out | refine k2_ ?_ _ | refine k3_ ?_ | refine k1_ ?_ _))) k_ hk)); (case aO => exact (by (with_reducible repeat (first | apply r1_ | apply r2_ | apply r3_)); exact HO.out)); (case aB => exact (by repeat (with_reducible first | exact HB.out | apply p3_ | apply p1_ | apply p2_))); (case aS => exact (bz_ (by repeat (with_reducible first | exact HB.out | apply p3_ | apply p1_ | apply p2_)))); (case aL => exact LEN.out); intro v9 w9 ho hb hg hat; have n0 := am_ (blk_grown (g := w.heap.size) (o := (.cells #[.int .i64 a1_0, .int .i64 a1_1, .string a1_2, .int .i64 a1_3, .string a1_4, .bool a1_5] 37)) (by (with_reducible repeat (first | exact BK.out | refine k2_ ?_ _ | refine k3_ ?_ | refine k1_ ?_ _))) hg (Kd.R_away HO.out (fun _ hk => hk))); have n1 := am_ hb; have n2 := am_ ho; clear BK HB HO ho hb hg hat; have BK := n0; have HB := n1; have HO := n2; clear n0 n1 n2))
    go_ret
    exact ⟨_, rfl, Kd.R_mono (by rw [← HN.out]; exact HO.out) (fun _ _ => trivial), HB.out⟩

/-! ### pinfoldref11_With: function 19 -/
def pinfoldref11_With.f (l0 : List (S37)) (a1_0 : Int) (a1_1 : Int) (a1_2 : ByteArray) (a1_3 : Int) (a1_4 : ByteArray) (a1_5 : Bool) : Option ((List (S37)) × Int) := (pinfoldref11_put_c.f l0 a1_0 a1_1 a1_2 a1_3 a1_4 a1_5).bind fun t209 => ((pinfoldref11_TableMay_c.f l0).bind fun t212 => (if t212 = true then ((pinfoldref11_TableMay_c.f t209).bind fun t213 => (if t213 = true then (some (t209, 0)) else (some (([] : List (S37)), 1300)))) else (some (([] : List (S37)), 1300))))
set_option maxHeartbeats 8000000 in
set_option maxRecDepth 100000 in
theorem pinfoldref11_With.calls (A0 : Option Addr) (c0 : Nat) (l0 : List (S37)) (a1_0 : Int) (a1_1 : Int) (a1_2 : ByteArray) (a1_3 : Int) (a1_4 : ByteArray) (a1_5 : Bool) (r1 : List (S37)) (r2 : Int) (w : World) (hr0 : Kd.C k37 w A0 l0.length l0) (hc0 : l0.length ≤ c0) (h : pinfoldref11_With.f l0 a1_0 a1_1 a1_2 a1_3 a1_4 a1_5 = some (r1, r2)) :
  Calls Try.prog 19 #[.slice A0 l0.length c0, .agg #[.int .i64 a1_0, .int .i64 a1_1, .string a1_2, .int .i64 a1_3, .string a1_4, .bool a1_5]] w fun e w' => ∃ v0_ : Value, e = .returned (.tuple #[v0_, .int .i64 r2]) ∧ Kd.R k37 37 w' w.heap.size (fun _ => True) v0_ r1 ∧ Below w.heap.size w w' := by
 have hu37 := Try.underlying37
 have HR0 := am_ hr0
 have HC0 := am_ hc0
 clear hr0 hc0
 have HB := am_ (Below.refl w.heap.size w)
 have H : ((pinfoldref11_put_c.f l0 a1_0 a1_1 a1_2 a1_3 a1_4 a1_5).bind fun t209 => ((pinfoldref11_TableMay_c.f l0).bind fun t212 => (if t212 = true then ((pinfoldref11_TableMay_c.f t209).bind fun t213 => (if t213 = true then (some (t209, 0)) else (some (([] : List (S37)), 1300)))) else (some (([] : List (S37)), 1300))))) = some (r1, r2) := h
 clear h
 replace H := e4_ H
 obtain ⟨t209, A30, H⟩ := H
 replace H : ((pinfoldref11_TableMay_c.f l0).bind fun t212 => (if t212 = true then ((pinfoldref11_TableMay_c.f t209).bind fun t213 => (if t213 = true then (some (t209, 0)) else (some (([] : List (S37)), 1300)))) else (some (([] : List (S37)), 1300)))) = some (r1, r2) := H
 have A3 := am_ A30
 clear A30
 replace H := e4_ H
 obtain ⟨t212, A40, H⟩ := H
 replace H : (if t212 = true then ((pinfoldref11_TableMay_c.f t209).bind fun t213 => (if t213 = true then (some (t209, 0)) else (some (([] : List (S37)), 1300)))) else (some (([] : List (S37)), 1300))) = some (r1, r2) := H
 have A4 := am_ A40
 clear A40
 by_cases c5 : t212 = true
 ·subst c5
  have H1 : ((pinfoldref11_TableMay_c.f t209).bind fun t213 => (if t213 = true then (some (t209, 0)) else (some (([] : List (S37)), 1300)))) = some (r1, r2) := by rw [if_pos rfl] at H; exact H
  clear H
  have H := H1
  clear H1
  replace H := e4_ H
  obtain ⟨t213, A60, H⟩ := H
  replace H : (if t213 = true then (some (t209, 0)) else (some (([] : List (S37)), 1300))) = some (r1, r2) := H
  have A6 := am_ A60
  clear A60
  by_cases c7 : t213 = true
  ·subst c7
   have H1 : (some (t209, 0)) = some (r1, r2) := by rw [if_pos rfl] at H; exact H
   clear H
   have H := H1
   clear H1
   simp only [Option.some.injEq, Prod.mk.injEq] at H
   obtain ⟨rfl, rfl⟩ := H
   go_enter Try.func19, Try.ntmps19
   go_wp2_with (first | ((with_reducible refine gate_dst (N := 3) rfl ?_); refine box_event ?hg (N := 3) ?hd (cs := #[.int .i64 a1_0, .int .i64 a1_1, .string a1_2, .int .i64 a1_3, .string a1_4, .bool a1_5]) (t := 37) ?hr ?_; (case hd => rfl); (case hg => rfl); (case hr => first | (go_simp; done) | (go_simp; rfl)); intro gb208 hg w8 hbox hb; have n0_ := am_ (bt_ (by repeat (with_reducible first | exact HB.out | apply p3_ | apply p1_ | apply p2_)) hb); have n1_ := am_ (hbox); have n2_ := am_ ((by rw [hg]; exact (bz_ (by repeat (with_reducible first | exact HB.out | apply p3_ | apply p1_ | apply p2_))) : w.heap.size ≤ gb208)); have n3_ := am_ ((by rw [hg]; exact (bz_ (by repeat (with_reducible first | exact HB.out | apply p3_ | apply p1_ | apply p2_))) : w.heap.size ≤ gb208)); clear HB; have HB := n0_; have BK208 := n1_; have GW208 := n2_; have GE208 := n3_; clear n0_ n1_ n2_ n3_; clear hb hbox hg; have hcz9_0 : w8.cell? ⟨gb208, 0, none⟩ = some (.int .i64 a1_0) := (bc_ BK208.out 0).trans rfl; have hcz9_1 : w8.cell? ⟨gb208, 1, none⟩ = some (.int .i64 a1_1) := (bc_ BK208.out 1).trans rfl; have hcz9_2 : w8.cell? ⟨gb208, 2, none⟩ = some (.string a1_2) := (bc_ BK208.out 2).trans rfl; have hcz9_3 : w8.cell? ⟨gb208, 3, none⟩ = some (.int .i64 a1_3) := (bc_ BK208.out 3).trans rfl; have hcz9_4 : w8.cell? ⟨gb208, 4, none⟩ = some (.string a1_4) := (bc_ BK208.out 4).trans rfl; have hcz9_5 : w8.cell? ⟨gb208, 5, none⟩ = some (.bool a1_5) := (bc_ BK208.out 5).trans rfl; have hfz9_0 := bf_ BK208.out 0; have hfz9_1 := bf_ BK208.out 1; have hfz9_2 := bf_ BK208.out 2; have hfz9_3 := bf_ BK208.out 3; have hfz9_4 := bf_ BK208.out 4; have hfz9_5 := bf_ BK208.out 5) | ((with_reducible refine gate_callee (f := 54) rfl ?_); refine goesL_ (some 9) rfl rfl Try.func54 (by kernel_rfl) rfl #[.slice A0 l0.length c0, .agg #[.int .i64 a1_0, .int .i64 a1_1, .string a1_2, .int .i64 a1_3, .string a1_4, .bool a1_5]] rfl (by (try simp only [List.map_toArray, List.map_cons, List.map_nil]); first | done | rfl | (simp only [List.length_drop, List.length_take]; rfl)) ?_; (with_reducible refine (pinfoldref11_put_c.calls _ _ l0 a1_0 a1_1 a1_2 a1_3 a1_4 a1_5 t209 _ ?side1 ?side2 A3.out).mono ?_); (case side1 => repeat (first | exact (c4_ HR0.out HB.out) | (with_reducible refine c1_ ?_ _) | (with_reducible refine c2_ ?_ _) | (with_reducible refine c3_ ?_))); (case side2 => exact HC0.out); rintro e w10 ⟨v210, rfl, ho0, hb⟩; refine ⟨_, rfl, ?_⟩; have n0_ := am_ (Kd.R_lower (Kd.R_newB ho0 (g := gb208) (o := .cells #[.int .i64 a1_0, .int .i64 a1_1, .string a1_2, .int .i64 a1_3, .string a1_4, .bool a1_5] 37 (0, 0)) (by (with_reducible repeat (first | refine k2_ ?_ _ | refine k3_ ?_ | refine k1_ ?_ _)); exact BK208.out)) (bz_ (by repeat (with_reducible first | exact HB.out | apply p3_ | apply p1_ | apply p2_ | refine bs_ ?_ GE208.out)))); have n1_ := am_ (kb_ (g := gb208) (o := .cells #[.int .i64 a1_0, .int .i64 a1_1, .string a1_2, .int .i64 a1_3, .string a1_4, .bool a1_5] 37 (0, 0)) (by (with_reducible repeat (first | refine k2_ ?_ _ | refine k3_ ?_ | refine k1_ ?_ _)); exact BK208.out) hb); have n2_ := am_ (bt_ (by repeat (with_reducible first | exact HB.out | apply p3_ | apply p1_ | apply p2_ | refine bs_ ?_ GE208.out)) hb); clear BK208; clear HB; have HO211 := n0_; have BK208 := n1_; have HB := n2_; clear n0_ n1_ n2_; (try clear hb); (try clear ho0)) | ((with_reducible refine gate_callee (f := 26) rfl ?_); refine goesL_ (some 11) rfl rfl Try.func26 (by kernel_rfl) rfl #[.slice A0 l0.length c0] rfl (by (try simp only [List.map_toArray, List.map_cons, List.map_nil]); first | done | rfl | (simp only [List.length_drop, List.length_take]; rfl)) ?_; (with_reducible refine (pinfoldref11_TableMay_c.calls _ _ l0 true _ ?side1 ?side2 A4.out).mono ?_); (case side1 => repeat (first | exact (c4_ HR0.out HB.out) | (with_reducible refine c1_ ?_ _) | (with_reducible refine c2_ ?_ _) | (with_reducible refine c3_ ?_))); (case side2 => exact HC0.out); rintro e w11 ⟨rfl, hb⟩; refine ⟨_, rfl, ?_⟩; have n0_ := am_ (Kd.R_below (by (with_reducible repeat (first | apply r1_ | apply r2_ | apply r3_)); exact HO211.out) hb); have n1_ := am_ (kb_ (g := gb208) (o := .cells #[.int .i64 a1_0, .int .i64 a1_1, .string a1_2, .int .i64 a1_3, .string a1_4, .bool a1_5] 37 (0, 0)) (by (with_reducible repeat (first | refine k2_ ?_ _ | refine k3_ ?_ | refine k1_ ?_ _)); exact BK208.out) hb); have n2_ := am_ (bt_ (by repeat (with_reducible first | exact HB.out | apply p3_ | apply p1_ | apply p2_ | refine bs_ ?_ GE208.out)) hb); clear HO211; clear BK208; clear HB; have HO211 := n0_; have BK208 := n1_; have HB := n2_; clear n0_ n1_ n2_; (try clear hb); obtain ⟨Ao12, co12, eo12⟩ := Kd.R_slice HO211.out; subst eo12) | (go_at_call 26; (with_reducible refine (pinfoldref11_TableMay_c.calls _ _ t209 true _ ?side1 ?side2 A6.out).mono ?_); (case side1 => repeat (first | exact (Kd.R_reads' HO211.out).2.2 | (with_reducible refine c1_ ?_ _) | (with_reducible refine c2_ ?_ _) | (with_reducible refine c3_ ?_))); (case side2 => exact (Kd.R_reads' HO211.out).2.1); rintro e w13 ⟨rfl, hb⟩; have n0_ := am_ (Kd.R_below (by (with_reducible repeat (first | apply r1_ | apply r2_ | apply r3_)); exact HO211.out) hb); have n1_ := am_ (kb_ (g := gb208) (o := .cells #[.int .i64 a1_0, .int .i64 a1_1, .string a1_2, .int .i64 a1_3, .string a1_4, .bool a1_5] 37 (0, 0)) (by (with_reducible repeat (first | refine k2_ ?_ _ | refine k3_ ?_ | refine k1_ ?_ _)); exact BK208.out) hb); have n2_ := am_ (bt_ (by repeat (with_reducible first | exact HB.out | apply p3_ | apply p1_ | apply p2_ | refine bs_ ?_ GE208.out)) hb); clear HO211; clear BK208; clear HB; have HO211 := n0_; have BK208 := n1_; have HB := n2_; clear n0_ n1_ n2_; (try clear hb)))
   go_ret2
   exact ⟨_, by first | rfl | (simp [errW_none, errW_some] <;> rfl) | (simp [*, errW_none, errW_some] <;> rfl), by (with_reducible repeat (first | apply r1_ | apply r2_ | apply r3_)); exact Kd.R_mono HO211.out (fun _ hk => trivial), by repeat (with_reducible first | exact HB.out | apply p3_ | apply p1_ | apply p2_ | refine bs_ ?_ GE208.out)⟩
  replace c7 := e3_ c7
  subst c7
  have H1 : (some (([] : List (S37)), 1300)) = some (r1, r2) := by rw [if_neg (show ¬ (false = true) by decide)] at H; exact H
  clear H
  have H := H1
  clear H1
  simp only [Option.some.injEq, Prod.mk.injEq] at H
  obtain ⟨rfl, rfl⟩ := H
  go_enter Try.func19, Try.ntmps19
  go_wp2_with (first | ((with_reducible refine gate_dst (N := 3) rfl ?_); refine box_event ?hg (N := 3) ?hd (cs := #[.int .i64 a1_0, .int .i64 a1_1, .string a1_2, .int .i64 a1_3, .string a1_4, .bool a1_5]) (t := 37) ?hr ?_; (case hd => rfl); (case hg => rfl); (case hr => first | (go_simp; done) | (go_simp; rfl)); intro gb208 hg w14 hbox hb; have n0_ := am_ (bt_ (by repeat (with_reducible first | exact HB.out | apply p3_ | apply p1_ | apply p2_)) hb); have n1_ := am_ (hbox); have n2_ := am_ ((by rw [hg]; exact (bz_ (by repeat (with_reducible first | exact HB.out | apply p3_ | apply p1_ | apply p2_))) : w.heap.size ≤ gb208)); have n3_ := am_ ((by rw [hg]; exact (bz_ (by repeat (with_reducible first | exact HB.out | apply p3_ | apply p1_ | apply p2_))) : w.heap.size ≤ gb208)); clear HB; have HB := n0_; have BK208 := n1_; have GW208 := n2_; have GE208 := n3_; clear n0_ n1_ n2_ n3_; clear hb hbox hg; have hcz15_0 : w14.cell? ⟨gb208, 0, none⟩ = some (.int .i64 a1_0) := (bc_ BK208.out 0).trans rfl; have hcz15_1 : w14.cell? ⟨gb208, 1, none⟩ = some (.int .i64 a1_1) := (bc_ BK208.out 1).trans rfl; have hcz15_2 : w14.cell? ⟨gb208, 2, none⟩ = some (.string a1_2) := (bc_ BK208.out 2).trans rfl; have hcz15_3 : w14.cell? ⟨gb208, 3, none⟩ = some (.int .i64 a1_3) := (bc_ BK208.out 3).trans rfl; have hcz15_4 : w14.cell? ⟨gb208, 4, none⟩ = some (.string a1_4) := (bc_ BK208.out 4).trans rfl; have hcz15_5 : w14.cell? ⟨gb208, 5, none⟩ = some (.bool a1_5) := (bc_ BK208.out 5).trans rfl; have hfz15_0 := bf_ BK208.out 0; have hfz15_1 := bf_ BK208.out 1; have hfz15_2 := bf_ BK208.out 2; have hfz15_3 := bf_ BK208.out 3; have hfz15_4 := bf_ BK208.out 4; have hfz15_5 := bf_ BK208.out 5) | ((with_reducible refine gate_callee (f := 54) rfl ?_); refine goesL_ (some 9) rfl rfl Try.func54 (by kernel_rfl) rfl #[.slice A0 l0.length c0, .agg #[.int .i64 a1_0, .int .i64 a1_1, .string a1_2, .int .i64 a1_3, .string a1_4, .bool a1_5]] rfl (by (try simp only [List.map_toArray, List.map_cons, List.map_nil]); first | done | rfl | (simp only [List.length_drop, List.length_take]; rfl)) ?_; (with_reducible refine (pinfoldref11_put_c.calls _ _ l0 a1_0 a1_1 a1_2 a1_3 a1_4 a1_5 t209 _ ?side1 ?side2 A3.out).mono ?_); (case side1 => repeat (first | exact (c4_ HR0.out HB.out) | (with_reducible refine c1_ ?_ _) | (with_reducible refine c2_ ?_ _) | (with_reducible refine c3_ ?_))); (case side2 => exact HC0.out); rintro e w16 ⟨v210, rfl, ho0, hb⟩; refine ⟨_, rfl, ?_⟩; have n0_ := am_ (Kd.R_lower (Kd.R_newB ho0 (g := gb208) (o := .cells #[.int .i64 a1_0, .int .i64 a1_1, .string a1_2, .int .i64 a1_3, .string a1_4, .bool a1_5] 37 (0, 0)) (by (with_reducible repeat (first | refine k2_ ?_ _ | refine k3_ ?_ | refine k1_ ?_ _)); exact BK208.out)) (bz_ (by repeat (with_reducible first | exact HB.out | apply p3_ | apply p1_ | apply p2_ | refine bs_ ?_ GE208.out)))); have n1_ := am_ (kb_ (g := gb208) (o := .cells #[.int .i64 a1_0, .int .i64 a1_1, .string a1_2, .int .i64 a1_3, .string a1_4, .bool a1_5] 37 (0, 0)) (by (with_reducible repeat (first | refine k2_ ?_ _ | refine k3_ ?_ | refine k1_ ?_ _)); exact BK208.out) hb); have n2_ := am_ (bt_ (by repeat (with_reducible first | exact HB.out | apply p3_ | apply p1_ | apply p2_ | refine bs_ ?_ GE208.out)) hb); clear BK208; clear HB; have HO211 := n0_; have BK208 := n1_; have HB := n2_; clear n0_ n1_ n2_; (try clear hb); (try clear ho0)) | ((with_reducible refine gate_callee (f := 26) rfl ?_); refine goesL_ (some 11) rfl rfl Try.func26 (by kernel_rfl) rfl #[.slice A0 l0.length c0] rfl (by (try simp only [List.map_toArray, List.map_cons, List.map_nil]); first | done | rfl | (simp only [List.length_drop, List.length_take]; rfl)) ?_; (with_reducible refine (pinfoldref11_TableMay_c.calls _ _ l0 true _ ?side1 ?side2 A4.out).mono ?_); (case side1 => repeat (first | exact (c4_ HR0.out HB.out) | (with_reducible refine c1_ ?_ _) | (with_reducible refine c2_ ?_ _) | (with_reducible refine c3_ ?_))); (case side2 => exact HC0.out); rintro e w17 ⟨rfl, hb⟩; refine ⟨_, rfl, ?_⟩; have n0_ := am_ (Kd.R_below (by (with_reducible repeat (first | apply r1_ | apply r2_ | apply r3_)); exact HO211.out) hb); have n1_ := am_ (kb_ (g := gb208) (o := .cells #[.int .i64 a1_0, .int .i64 a1_1, .string a1_2, .int .i64 a1_3, .string a1_4, .bool a1_5] 37 (0, 0)) (by (with_reducible repeat (first | refine k2_ ?_ _ | refine k3_ ?_ | refine k1_ ?_ _)); exact BK208.out) hb); have n2_ := am_ (bt_ (by repeat (with_reducible first | exact HB.out | apply p3_ | apply p1_ | apply p2_ | refine bs_ ?_ GE208.out)) hb); clear HO211; clear BK208; clear HB; have HO211 := n0_; have BK208 := n1_; have HB := n2_; clear n0_ n1_ n2_; (try clear hb); obtain ⟨Ao18, co18, eo18⟩ := Kd.R_slice HO211.out; subst eo18) | (go_at_call 26; (with_reducible refine (pinfoldref11_TableMay_c.calls _ _ t209 false _ ?side1 ?side2 A6.out).mono ?_); (case side1 => repeat (first | exact (Kd.R_reads' HO211.out).2.2 | (with_reducible refine c1_ ?_ _) | (with_reducible refine c2_ ?_ _) | (with_reducible refine c3_ ?_))); (case side2 => exact (Kd.R_reads' HO211.out).2.1); rintro e w19 ⟨rfl, hb⟩; have n0_ := am_ (Kd.R_below (by (with_reducible repeat (first | apply r1_ | apply r2_ | apply r3_)); exact HO211.out) hb); have n1_ := am_ (kb_ (g := gb208) (o := .cells #[.int .i64 a1_0, .int .i64 a1_1, .string a1_2, .int .i64 a1_3, .string a1_4, .bool a1_5] 37 (0, 0)) (by (with_reducible repeat (first | refine k2_ ?_ _ | refine k3_ ?_ | refine k1_ ?_ _)); exact BK208.out) hb); have n2_ := am_ (bt_ (by repeat (with_reducible first | exact HB.out | apply p3_ | apply p1_ | apply p2_ | refine bs_ ?_ GE208.out)) hb); clear HO211; clear BK208; clear HB; have HO211 := n0_; have BK208 := n1_; have HB := n2_; clear n0_ n1_ n2_; (try clear hb)))
  go_ret2
  exact ⟨_, by first | rfl | (simp [errW_none, errW_some] <;> rfl) | (simp [*, errW_none, errW_some] <;> rfl), by first | exact Kd.R_nil _ _ _ _ _ | exact Kd.N_nil _ _ _ _ _ | exact Kd.V_nil _ _ _ _ _ | exact Kd.Q_nil _ _ _ _ _ | exact Kd.S_nil _ _ _ _ _, by repeat (with_reducible first | exact HB.out | apply p3_ | apply p1_ | apply p2_ | refine bs_ ?_ GE208.out)⟩
 replace c5 := e3_ c5
 subst c5
 have H1 : (some (([] : List (S37)), 1300)) = some (r1, r2) := by rw [if_neg (show ¬ (false = true) by decide)] at H; exact H
 clear H
 have H := H1
 clear H1
 simp only [Option.some.injEq, Prod.mk.injEq] at H
 obtain ⟨rfl, rfl⟩ := H
 go_enter Try.func19, Try.ntmps19
 go_wp2_with (first | ((with_reducible refine gate_dst (N := 3) rfl ?_); refine box_event ?hg (N := 3) ?hd (cs := #[.int .i64 a1_0, .int .i64 a1_1, .string a1_2, .int .i64 a1_3, .string a1_4, .bool a1_5]) (t := 37) ?hr ?_; (case hd => rfl); (case hg => rfl); (case hr => first | (go_simp; done) | (go_simp; rfl)); intro gb208 hg w20 hbox hb; have n0_ := am_ (bt_ (by repeat (with_reducible first | exact HB.out | apply p3_ | apply p1_ | apply p2_)) hb); have n1_ := am_ (hbox); have n2_ := am_ ((by rw [hg]; exact (bz_ (by repeat (with_reducible first | exact HB.out | apply p3_ | apply p1_ | apply p2_))) : w.heap.size ≤ gb208)); have n3_ := am_ ((by rw [hg]; exact (bz_ (by repeat (with_reducible first | exact HB.out | apply p3_ | apply p1_ | apply p2_))) : w.heap.size ≤ gb208)); clear HB; have HB := n0_; have BK208 := n1_; have GW208 := n2_; have GE208 := n3_; clear n0_ n1_ n2_ n3_; clear hb hbox hg; have hcz21_0 : w20.cell? ⟨gb208, 0, none⟩ = some (.int .i64 a1_0) := (bc_ BK208.out 0).trans rfl; have hcz21_1 : w20.cell? ⟨gb208, 1, none⟩ = some (.int .i64 a1_1) := (bc_ BK208.out 1).trans rfl; have hcz21_2 : w20.cell? ⟨gb208, 2, none⟩ = some (.string a1_2) := (bc_ BK208.out 2).trans rfl; have hcz21_3 : w20.cell? ⟨gb208, 3, none⟩ = some (.int .i64 a1_3) := (bc_ BK208.out 3).trans rfl; have hcz21_4 : w20.cell? ⟨gb208, 4, none⟩ = some (.string a1_4) := (bc_ BK208.out 4).trans rfl; have hcz21_5 : w20.cell? ⟨gb208, 5, none⟩ = some (.bool a1_5) := (bc_ BK208.out 5).trans rfl; have hfz21_0 := bf_ BK208.out 0; have hfz21_1 := bf_ BK208.out 1; have hfz21_2 := bf_ BK208.out 2; have hfz21_3 := bf_ BK208.out 3; have hfz21_4 := bf_ BK208.out 4; have hfz21_5 := bf_ BK208.out 5) | ((with_reducible refine gate_callee (f := 54) rfl ?_); refine goesL_ (some 9) rfl rfl Try.func54 (by kernel_rfl) rfl #[.slice A0 l0.length c0, .agg #[.int .i64 a1_0, .int .i64 a1_1, .string a1_2, .int .i64 a1_3, .string a1_4, .bool a1_5]] rfl (by (try simp only [List.map_toArray, List.map_cons, List.map_nil]); first | done | rfl | (simp only [List.length_drop, List.length_take]; rfl)) ?_; (with_reducible refine (pinfoldref11_put_c.calls _ _ l0 a1_0 a1_1 a1_2 a1_3 a1_4 a1_5 t209 _ ?side1 ?side2 A3.out).mono ?_); (case side1 => repeat (first | exact (c4_ HR0.out HB.out) | (with_reducible refine c1_ ?_ _) | (with_reducible refine c2_ ?_ _) | (with_reducible refine c3_ ?_))); (case side2 => exact HC0.out); rintro e w22 ⟨v210, rfl, ho0, hb⟩; refine ⟨_, rfl, ?_⟩; have n0_ := am_ (Kd.R_lower (Kd.R_newB ho0 (g := gb208) (o := .cells #[.int .i64 a1_0, .int .i64 a1_1, .string a1_2, .int .i64 a1_3, .string a1_4, .bool a1_5] 37 (0, 0)) (by (with_reducible repeat (first | refine k2_ ?_ _ | refine k3_ ?_ | refine k1_ ?_ _)); exact BK208.out)) (bz_ (by repeat (with_reducible first | exact HB.out | apply p3_ | apply p1_ | apply p2_ | refine bs_ ?_ GE208.out)))); have n1_ := am_ (kb_ (g := gb208) (o := .cells #[.int .i64 a1_0, .int .i64 a1_1, .string a1_2, .int .i64 a1_3, .string a1_4, .bool a1_5] 37 (0, 0)) (by (with_reducible repeat (first | refine k2_ ?_ _ | refine k3_ ?_ | refine k1_ ?_ _)); exact BK208.out) hb); have n2_ := am_ (bt_ (by repeat (with_reducible first | exact HB.out | apply p3_ | apply p1_ | apply p2_ | refine bs_ ?_ GE208.out)) hb); clear BK208; clear HB; have HO211 := n0_; have BK208 := n1_; have HB := n2_; clear n0_ n1_ n2_; (try clear hb); (try clear ho0)) | ((with_reducible refine gate_callee (f := 26) rfl ?_); refine goesL_ (some 11) rfl rfl Try.func26 (by kernel_rfl) rfl #[.slice A0 l0.length c0] rfl (by (try simp only [List.map_toArray, List.map_cons, List.map_nil]); first | done | rfl | (simp only [List.length_drop, List.length_take]; rfl)) ?_; (with_reducible refine (pinfoldref11_TableMay_c.calls _ _ l0 false _ ?side1 ?side2 A4.out).mono ?_); (case side1 => repeat (first | exact (c4_ HR0.out HB.out) | (with_reducible refine c1_ ?_ _) | (with_reducible refine c2_ ?_ _) | (with_reducible refine c3_ ?_))); (case side2 => exact HC0.out); rintro e w23 ⟨rfl, hb⟩; refine ⟨_, rfl, ?_⟩; have n0_ := am_ (Kd.R_below (by (with_reducible repeat (first | apply r1_ | apply r2_ | apply r3_)); exact HO211.out) hb); have n1_ := am_ (kb_ (g := gb208) (o := .cells #[.int .i64 a1_0, .int .i64 a1_1, .string a1_2, .int .i64 a1_3, .string a1_4, .bool a1_5] 37 (0, 0)) (by (with_reducible repeat (first | refine k2_ ?_ _ | refine k3_ ?_ | refine k1_ ?_ _)); exact BK208.out) hb); have n2_ := am_ (bt_ (by repeat (with_reducible first | exact HB.out | apply p3_ | apply p1_ | apply p2_ | refine bs_ ?_ GE208.out)) hb); clear HO211; clear BK208; clear HB; have HO211 := n0_; have BK208 := n1_; have HB := n2_; clear n0_ n1_ n2_; (try clear hb)))
 go_ret2
 exact ⟨_, by first | rfl | (simp [errW_none, errW_some] <;> rfl) | (simp [*, errW_none, errW_some] <;> rfl), by first | exact Kd.R_nil _ _ _ _ _ | exact Kd.N_nil _ _ _ _ _ | exact Kd.V_nil _ _ _ _ _ | exact Kd.Q_nil _ _ _ _ _ | exact Kd.S_nil _ _ _ _ _, by repeat (with_reducible first | exact HB.out | apply p3_ | apply p1_ | apply p2_ | refine bs_ ?_ GE208.out)⟩

/-! ### pinfoldref11_FindLease: function 21 -/
def pinfoldref11_FindLease.l0 : Nat → List (S37) → Int → Int → Option (Int × Int × ByteArray × Int × ByteArray × Bool × Bool)
 | 0, _, _, _ => none
 | k + 1, x0, x1, x6 => if x6 < (x0.length : Int) then (if 0 ≤ x6 then (if ((rd_T37 x0 x6).f0) = x1 then (some ((rd_T37 x0 x6).f0, (rd_T37 x0 x6).f1, (rd_T37 x0 x6).f2, (rd_T37 x0 x6).f3, (rd_T37 x0 x6).f4, (rd_T37 x0 x6).f5, true)) else (pinfoldref11_FindLease.l0 k x0 x1 (wrap64 (x6 + 1)))) else (none)) else (some (0, 0, (⟨#[]⟩ : ByteArray), 0, (⟨#[]⟩ : ByteArray), false, false))
def pinfoldref11_FindLease.f (k : Nat) (l0 : List (S37)) (a1 : Int) : Option (Int × Int × ByteArray × Int × ByteArray × Bool × Bool) := pinfoldref11_FindLease.l0 k l0 a1 0
theorem pinfoldref11_FindLease.mono_l : ∀ k, (∀ y0 y1 y2, LeO (pinfoldref11_FindLease.l0 k y0 y1 y2) (pinfoldref11_FindLease.l0 (k + 1) y0 y1 y2))
 | 0 => fun _ _ _ r h => by simp [pinfoldref11_FindLease.l0] at h
 | k + 1 => by
  have ih0 := pinfoldref11_FindLease.mono_l k
  ·intro y0 y1 y2
   unfold pinfoldref11_FindLease.l0
   repeat' first
   | (with_reducible exact ih0 _ _ _)
   | (with_reducible exact LeO.refl _)
   | (with_reducible exact LeO.none _)
   | (with_reducible refine LeO.ite ?_ ?_)
   | (with_reducible refine LeO.bind ?_ (fun _ => ?_))
   | exact ih0 _ _ _
   | exact LeO.none _
   | refine LeO.ite ?_ ?_
   | refine LeO.bind ?_ (fun _ => ?_)
theorem pinfoldref11_FindLease.mono : ∀ a0 a1 k, LeO (pinfoldref11_FindLease.f k a0 a1) (pinfoldref11_FindLease.f (k + 1) a0 a1) := by
 intro a0 a1 k
 have ih0 := pinfoldref11_FindLease.mono_l k
 unfold pinfoldref11_FindLease.f
 repeat' first
   | (with_reducible exact ih0 _ _ _)
   | (with_reducible exact LeO.refl _)
   | (with_reducible exact LeO.none _)
   | (with_reducible refine LeO.ite ?_ ?_)
   | (with_reducible refine LeO.bind ?_ (fun _ => ?_))
   | exact ih0 _ _ _
   | exact LeO.none _
   | refine LeO.ite ?_ ?_
   | refine LeO.bind ?_ (fun _ => ?_)
set_option maxHeartbeats 8000000 in
set_option maxRecDepth 100000 in
theorem pinfoldref11_FindLease.calls (k : Nat) (A0 : Option Addr) (c0 : Nat) (l0 : List (S37)) (a1 : Int) (r1 : Int) (r2 : Int) (r3 : ByteArray) (r4 : Int) (r5 : ByteArray) (r6 : Bool) (r7 : Bool) (w : World) (hr0 : Kd.C k37 w A0 l0.length l0) (hc0 : l0.length ≤ c0) (h : pinfoldref11_FindLease.f k l0 a1 = some (r1, r2, r3, r4, r5, r6, r7)) :
  Calls Try.prog 21 #[.slice A0 l0.length c0, .int .i64 a1] w fun e w' => e = .returned (.tuple #[.agg #[.int .i64 r1, .int .i64 r2, .string r3, .int .i64 r4, .string r5, .bool r6], .bool r7]) ∧ Below w.heap.size w w' := by
 have hu37 := Try.underlying37
 have HR0 := am_ hr0
 have HC0 := am_ hc0
 clear hr0 hc0
 have HB := am_ (Below.refl w.heap.size w)
 have H : (pinfoldref11_FindLease.l0 k l0 a1 0) = some (r1, r2, r3, r4, r5, r6, r7) := h
 clear h
 have H' := am_ H
 clear H
 go_enter Try.func21, Try.ntmps21
 go_wp2_with (first | ((with_reducible refine gate_dst (N := 4) rfl ?_); refine box_event ?hg (N := 4) ?hd (cs := #[.int .i64 0, .int .i64 0, .string (⟨#[]⟩ : ByteArray), .int .i64 0, .string (⟨#[]⟩ : ByteArray), .bool false]) (t := 37) ?hr ?_; (case hd => rfl); (case hg => rfl); (case hr => first | (go_simp; done) | (go_simp; rfl)); intro gb214 hg w3 hbox hb; have n0_ := am_ (bt_ (by repeat (with_reducible first | exact HB.out | apply p3_ | apply p1_ | apply p2_)) hb); have n1_ := am_ (hbox); have n2_ := am_ ((by rw [hg]; exact (bz_ (by repeat (with_reducible first | exact HB.out | apply p3_ | apply p1_ | apply p2_))) : w.heap.size ≤ gb214)); have n3_ := am_ ((by rw [hg]; exact (bz_ (by repeat (with_reducible first | exact HB.out | apply p3_ | apply p1_ | apply p2_))) : w.heap.size ≤ gb214)); clear HB; have HB := n0_; have BK214 := n1_; have GW214 := n2_; have GE214 := n3_; clear n0_ n1_ n2_ n3_; clear hb hbox hg))
 go_loopg [6] k (fun kq v6 w' => ∃ (x6_1 : Int) (x215000_1 : Int) (x215001_1 : Int) (x215002_1 : ByteArray) (x215003_1 : Int) (x215004_1 : ByteArray) (x215005_1 : Bool), v6 = .int .i64 x6_1 ∧ Aside0 (pinfoldref11_FindLease.l0 kq l0 a1 x6_1 = some (r1, r2, r3, r4, r5, r6, r7)) ∧ Aside0 (kq ≤ k) ∧ Aside0 (w'.heap[gb214]? = some (.cells #[.int .i64 x215000_1, .int .i64 x215001_1, .string x215002_1, .int .i64 x215003_1, .string x215004_1, .bool x215005_1] 37 (0, 0))) ∧ Aside0 (Below w.heap.size w w'))
 case atStart => exact ⟨(0), (0), (0), ((⟨#[]⟩ : ByteArray)), (0), ((⟨#[]⟩ : ByteArray)), (false), (by first | rfl | (simp; done) | (simp [*]; done)), H', ⟨Nat.le_refl _⟩, ⟨by (with_reducible repeat (first | refine k2_ ?_ _ | refine k3_ ?_ | refine k1_ ?_ _)); exact BK214.out⟩, ⟨by repeat (with_reducible first | exact HB.out | apply p3_ | apply p1_ | apply p2_ | refine bs_ ?_ GE214.out)⟩⟩
 case round =>
  clear H'
  obtain ⟨x6_1, x215000_1, x215001_1, x215002_1, x215003_1, x215004_1, x215005_1, rfl, HA, HK1, BK214, HB⟩ := hrel
  cases gk with
  | zero => exact absurd HA.out (by simp [pinfoldref11_FindLease.l0])
  | succ k1 =>
   have H := HA.out
   clear HA
   simp only [pinfoldref11_FindLease.l0] at H
   by_cases c4 : x6_1 < (l0.length : Int)
   ·rw [if_pos c4] at H
    have c4b0 : decide (x6_1 < (l0.length : Int)) = true := decide_eq_true c4
    clear c4
    by_cases c5 : 0 ≤ x6_1
    rotate_left
    ·rw [if_neg c5] at H
     exact absurd H (by simp)
    rw [if_pos c5] at H
    have c5b0 : decide (0 ≤ x6_1) = true := decide_eq_true c5
    clear c5
    by_cases c6 : ((rd_T37 l0 x6_1).f0) = a1
    ·rw [if_pos c6] at H
     have c6b0 : (((rd_T37 l0 x6_1).f0) == a1) = true := beq_iff_eq.mpr c6
     have c6b1 : (((rd_T37 l0 x6_1).f0) != a1) = false := e1_ c6
     clear c6
     simp only [Option.some.injEq, Prod.mk.injEq] at H
     obtain ⟨rfl, rfl, rfl, rfl, rfl, rfl, rfl⟩ := H
     have p215 : 0 ≤ (x6_1 : Int) := of_decide_eq_true (by first | (with_reducible assumption) | assumption)
     have q215 : x6_1 < (l0.length : Int) := of_decide_eq_true (by first | (with_reducible assumption) | assumption)
     obtain ⟨ad215, e215, hx215_0, hx215_1, hx215_2, hx215_3, hx215_4, hx215_5⟩ := at_T37 HR0.out x6_1 p215 q215
     cases e215
     replace hx215_0 := (HB.out.cell (wb_ w _ hx215_0)).trans hx215_0
     replace hx215_1 := (HB.out.cell (wb_ w _ hx215_1)).trans hx215_1
     replace hx215_2 := (HB.out.cell (wb_ w _ hx215_2)).trans hx215_2
     replace hx215_3 := (HB.out.cell (wb_ w _ hx215_3)).trans hx215_3
     replace hx215_4 := (HB.out.cell (wb_ w _ hx215_4)).trans hx215_4
     replace hx215_5 := (HB.out.cell (wb_ w _ hx215_5)).trans hx215_5
     replace p215 := eq_true p215
     replace q215 := eq_true q215
     have p216 : 0 ≤ (x6_1 : Int) := of_decide_eq_true (by first | (with_reducible assumption) | assumption)
     have q216 : x6_1 < (l0.length : Int) := of_decide_eq_true (by first | (with_reducible assumption) | assumption)
     obtain ⟨ad216, e216, hx216_0, hx216_1, hx216_2, hx216_3, hx216_4, hx216_5⟩ := at_T37 HR0.out x6_1 p216 q216
     obtain rfl : ad215 = ad216 := (by injection e216)
     replace hx216_0 := (HB.out.cell (wb_ w _ hx216_0)).trans hx216_0
     replace hx216_1 := (HB.out.cell (wb_ w _ hx216_1)).trans hx216_1
     replace hx216_2 := (HB.out.cell (wb_ w _ hx216_2)).trans hx216_2
     replace hx216_3 := (HB.out.cell (wb_ w _ hx216_3)).trans hx216_3
     replace hx216_4 := (HB.out.cell (wb_ w _ hx216_4)).trans hx216_4
     replace hx216_5 := (HB.out.cell (wb_ w _ hx216_5)).trans hx216_5
     replace p216 := eq_true p216
     replace q216 := eq_true q216
     have hcz7_0 : wr.cell? ⟨gb214, 0, none⟩ = some (.int .i64 x215000_1) := (bc_ BK214.out 0).trans rfl; have hcz7_1 : wr.cell? ⟨gb214, 1, none⟩ = some (.int .i64 x215001_1) := (bc_ BK214.out 1).trans rfl; have hcz7_2 : wr.cell? ⟨gb214, 2, none⟩ = some (.string x215002_1) := (bc_ BK214.out 2).trans rfl; have hcz7_3 : wr.cell? ⟨gb214, 3, none⟩ = some (.int .i64 x215003_1) := (bc_ BK214.out 3).trans rfl; have hcz7_4 : wr.cell? ⟨gb214, 4, none⟩ = some (.string x215004_1) := (bc_ BK214.out 4).trans rfl; have hcz7_5 : wr.cell? ⟨gb214, 5, none⟩ = some (.bool x215005_1) := (bc_ BK214.out 5).trans rfl; have hfz7_0 := bf_ BK214.out 0; have hfz7_1 := bf_ BK214.out 1; have hfz7_2 := bf_ BK214.out 2; have hfz7_3 := bf_ BK214.out 3; have hfz7_4 := bf_ BK214.out 4; have hfz7_5 := bf_ BK214.out 5
     go_wp2
     refine bodyPost_ret (results_ct rfl _ _ gb214 37 #[.int .i64 ((rd_T37 l0 x6_1).f0), .int .i64 ((rd_T37 l0 x6_1).f1), .string ((rd_T37 l0 x6_1).f2), .int .i64 ((rd_T37 l0 x6_1).f3), .string ((rd_T37 l0 x6_1).f4), .bool ((rd_T37 l0 x6_1).f5)] (0, 0) _ rfl (by (with_reducible repeat (first | refine k2_ ?_ _ | refine k3_ ?_ | refine k1_ ?_ _)); refine blk_put (cs := #[.int .i64 ((rd_T37 l0 x6_1).f0), .int .i64 ((rd_T37 l0 x6_1).f1), .string ((rd_T37 l0 x6_1).f2), .int .i64 ((rd_T37 l0 x6_1).f3), .string ((rd_T37 l0 x6_1).f4), .bool x215005_1]) ?_ 5 _ rfl; (with_reducible repeat (first | refine k2_ ?_ _ | refine k3_ ?_ | refine k1_ ?_ _)); refine blk_put (cs := #[.int .i64 ((rd_T37 l0 x6_1).f0), .int .i64 ((rd_T37 l0 x6_1).f1), .string ((rd_T37 l0 x6_1).f2), .int .i64 ((rd_T37 l0 x6_1).f3), .string x215004_1, .bool x215005_1]) ?_ 4 _ rfl; (with_reducible repeat (first | refine k2_ ?_ _ | refine k3_ ?_ | refine k1_ ?_ _)); refine blk_put (cs := #[.int .i64 ((rd_T37 l0 x6_1).f0), .int .i64 ((rd_T37 l0 x6_1).f1), .string ((rd_T37 l0 x6_1).f2), .int .i64 x215003_1, .string x215004_1, .bool x215005_1]) ?_ 3 _ rfl; (with_reducible repeat (first | refine k2_ ?_ _ | refine k3_ ?_ | refine k1_ ?_ _)); refine blk_put (cs := #[.int .i64 ((rd_T37 l0 x6_1).f0), .int .i64 ((rd_T37 l0 x6_1).f1), .string x215002_1, .int .i64 x215003_1, .string x215004_1, .bool x215005_1]) ?_ 2 _ rfl; (with_reducible repeat (first | refine k2_ ?_ _ | refine k3_ ?_ | refine k1_ ?_ _)); refine blk_put (cs := #[.int .i64 ((rd_T37 l0 x6_1).f0), .int .i64 x215001_1, .string x215002_1, .int .i64 x215003_1, .string x215004_1, .bool x215005_1]) ?_ 1 _ rfl; (with_reducible repeat (first | refine k2_ ?_ _ | refine k3_ ?_ | refine k1_ ?_ _)); refine blk_put (cs := #[.int .i64 x215000_1, .int .i64 x215001_1, .string x215002_1, .int .i64 x215003_1, .string x215004_1, .bool x215005_1]) ?_ 0 _ rfl; (with_reducible repeat (first | refine k2_ ?_ _ | refine k3_ ?_ | refine k1_ ?_ _)); exact BK214.out) Try.underlying37 rfl (by kernel_rfl)) rfl ?_
     exact ⟨by first | rfl | (simp [errW_none, errW_some] <;> rfl) | (simp [*, errW_none, errW_some] <;> rfl), by repeat (with_reducible first | exact HB.out | apply p3_ | apply p1_ | apply p2_ | refine bs_ ?_ GE214.out)⟩
    rw [if_neg c6] at H
    have c6b0 : (((rd_T37 l0 x6_1).f0) == a1) = false := e2_ c6
    have c6b1 : (((rd_T37 l0 x6_1).f0) != a1) = true := bne_iff_ne.mpr c6
    have H' := am_ H
    clear H
    have p215 : 0 ≤ (x6_1 : Int) := of_decide_eq_true (by first | (with_reducible assumption) | assumption)
    have q215 : x6_1 < (l0.length : Int) := of_decide_eq_true (by first | (with_reducible assumption) | assumption)
    obtain ⟨ad215, e215, hx215_0, hx215_1, hx215_2, hx215_3, hx215_4, hx215_5⟩ := at_T37 HR0.out x6_1 p215 q215
    cases e215
    replace hx215_0 := (HB.out.cell (wb_ w _ hx215_0)).trans hx215_0
    replace hx215_1 := (HB.out.cell (wb_ w _ hx215_1)).trans hx215_1
    replace hx215_2 := (HB.out.cell (wb_ w _ hx215_2)).trans hx215_2
    replace hx215_3 := (HB.out.cell (wb_ w _ hx215_3)).trans hx215_3
    replace hx215_4 := (HB.out.cell (wb_ w _ hx215_4)).trans hx215_4
    replace hx215_5 := (HB.out.cell (wb_ w _ hx215_5)).trans hx215_5
    replace p215 := eq_true p215
    replace q215 := eq_true q215
    go_wp2
    go_roundg k1
    case measure => have := HK1.out; omega
    case rel => exact ⟨(wrap64 (x6_1 + 1)), (x215000_1), (x215001_1), (x215002_1), (x215003_1), (x215004_1), (x215005_1), (by first | rfl | (simp; done) | (simp [*]; done)), H', ⟨by have := HK1.out; omega⟩, ⟨by (with_reducible repeat (first | refine k2_ ?_ _ | refine k3_ ?_ | refine k1_ ?_ _)); exact BK214.out⟩, ⟨by repeat (with_reducible first | exact HB.out | apply p3_ | apply p1_ | apply p2_ | refine bs_ ?_ GE214.out)⟩⟩
   rw [if_neg c4] at H
   have c4b0 : decide (x6_1 < (l0.length : Int)) = false := decide_eq_false c4
   clear c4
   simp only [Option.some.injEq, Prod.mk.injEq] at H
   obtain ⟨rfl, rfl, rfl, rfl, rfl, rfl, rfl⟩ := H
   have hcz8_0 : wr.cell? ⟨gb214, 0, none⟩ = some (.int .i64 x215000_1) := (bc_ BK214.out 0).trans rfl; have hcz8_1 : wr.cell? ⟨gb214, 1, none⟩ = some (.int .i64 x215001_1) := (bc_ BK214.out 1).trans rfl; have hcz8_2 : wr.cell? ⟨gb214, 2, none⟩ = some (.string x215002_1) := (bc_ BK214.out 2).trans rfl; have hcz8_3 : wr.cell? ⟨gb214, 3, none⟩ = some (.int .i64 x215003_1) := (bc_ BK214.out 3).trans rfl; have hcz8_4 : wr.cell? ⟨gb214, 4, none⟩ = some (.string x215004_1) := (bc_ BK214.out 4).trans rfl; have hcz8_5 : wr.cell? ⟨gb214, 5, none⟩ = some (.bool x215005_1) := (bc_ BK214.out 5).trans rfl; have hfz8_0 := bf_ BK214.out 0; have hfz8_1 := bf_ BK214.out 1; have hfz8_2 := bf_ BK214.out 2; have hfz8_3 := bf_ BK214.out 3; have hfz8_4 := bf_ BK214.out 4; have hfz8_5 := bf_ BK214.out 5
   go_wp2
   refine bodyPost_ret (results_ct rfl _ _ gb214 37 #[.int .i64 0, .int .i64 0, .string (⟨#[]⟩ : ByteArray), .int .i64 0, .string (⟨#[]⟩ : ByteArray), .bool false] (0, 0) _ rfl (by (with_reducible repeat (first | refine k2_ ?_ _ | refine k3_ ?_ | refine k1_ ?_ _)); refine blk_put (cs := #[.int .i64 0, .int .i64 0, .string (⟨#[]⟩ : ByteArray), .int .i64 0, .string (⟨#[]⟩ : ByteArray), .bool x215005_1]) ?_ 5 _ rfl; (with_reducible repeat (first | refine k2_ ?_ _ | refine k3_ ?_ | refine k1_ ?_ _)); refine blk_put (cs := #[.int .i64 0, .int .i64 0, .string (⟨#[]⟩ : ByteArray), .int .i64 0, .string x215004_1, .bool x215005_1]) ?_ 4 _ rfl; (with_reducible repeat (first | refine k2_ ?_ _ | refine k3_ ?_ | refine k1_ ?_ _)); refine blk_put (cs := #[.int .i64 0, .int .i64 0, .string (⟨#[]⟩ : ByteArray), .int .i64 x215003_1, .string x215004_1, .bool x215005_1]) ?_ 3 _ rfl; (with_reducible repeat (first | refine k2_ ?_ _ | refine k3_ ?_ | refine k1_ ?_ _)); refine blk_put (cs := #[.int .i64 0, .int .i64 0, .string x215002_1, .int .i64 x215003_1, .string x215004_1, .bool x215005_1]) ?_ 2 _ rfl; (with_reducible repeat (first | refine k2_ ?_ _ | refine k3_ ?_ | refine k1_ ?_ _)); refine blk_put (cs := #[.int .i64 0, .int .i64 x215001_1, .string x215002_1, .int .i64 x215003_1, .string x215004_1, .bool x215005_1]) ?_ 1 _ rfl; (with_reducible repeat (first | refine k2_ ?_ _ | refine k3_ ?_ | refine k1_ ?_ _)); refine blk_put (cs := #[.int .i64 x215000_1, .int .i64 x215001_1, .string x215002_1, .int .i64 x215003_1, .string x215004_1, .bool x215005_1]) ?_ 0 _ rfl; (with_reducible repeat (first | refine k2_ ?_ _ | refine k3_ ?_ | refine k1_ ?_ _)); exact BK214.out) Try.underlying37 rfl (by kernel_rfl)) rfl ?_
   exact ⟨by first | rfl | (simp [errW_none, errW_some] <;> rfl) | (simp [*, errW_none, errW_some] <;> rfl), by repeat (with_reducible first | exact HB.out | apply p3_ | apply p1_ | apply p2_ | refine bs_ ?_ GE214.out)⟩

/-! ### pinfoldref11_FindLease_c: function 21 -/
theorem reffind_l0 (l : List S37) (h : Int) (hl : l.length ≤ 140737488351232) : ∀ (d k i : Nat), i + d = l.length → d + 1 ≤ k → pinfoldref11_FindLease.l0 k l h (i : Int) = some ((gotL (findL (l.drop i) h)).f0, (gotL (findL (l.drop i) h)).f1, (gotL (findL (l.drop i) h)).f2, (gotL (findL (l.drop i) h)).f3, (gotL (findL (l.drop i) h)).f4, (gotL (findL (l.drop i) h)).f5, (findL (l.drop i) h).isSome)
 | 0, k, i, hi, hk => by
  obtain ⟨k, rfl⟩ : ∃ j, k = j + 1 := ⟨k - 1, by omega⟩
  rw [List.drop_eq_nil_of_le (by omega), pinfoldref11_FindLease.l0, if_neg (by omega)]
  rfl
 | d + 1, k, i, hi, hk => by
  obtain ⟨k, rfl⟩ : ∃ j, k = j + 1 := ⟨k - 1, by omega⟩
  have hlt : i < l.length := by omega
  have ih := reffind_l0 l h hl d k (i + 1) (by omega) (by omega)
  rw [pinfoldref11_FindLease.l0, if_pos (by omega), if_pos (by omega), wrap_succ i l.length hlt hl, ih, rdLease_get l i hlt, List.drop_eq_getElem_cons hlt]
  by_cases q : l[i].f0 = h
  ·have e : findL (l[i] :: l.drop (i + 1)) h = some l[i] := by
    unfold findL
    rw [List.find?_cons, show (l[i].f0 == h) = true by simpa using q]
   rw [if_pos q, e]
   rfl
  ·have e : findL (l[i] :: l.drop (i + 1)) h = findL (l.drop (i + 1)) h := by
    unfold findL
    rw [List.find?_cons, show (l[i].f0 == h) = false by simpa using q]
   rw [if_neg q, e]
def pinfoldref11_FindLease_c.f (l0 : List S37) (a1 : Int) : Option (Int × Int × ByteArray × Int × ByteArray × Bool × Bool) := if l0.length ≤ 140737488351232 then some ((gotL (findL l0 a1)).f0, (gotL (findL l0 a1)).f1, (gotL (findL l0 a1)).f2, (gotL (findL l0 a1)).f3, (gotL (findL l0 a1)).f4, (gotL (findL l0 a1)).f5, (findL l0 a1).isSome) else none
theorem pinfoldref11_FindLease_c.calls (A0 : Option Addr) (c0 : Nat) (l0 : List S37) (a1 : Int) (r1 : Int) (r2 : Int) (r3 : ByteArray) (r4 : Int) (r5 : ByteArray) (r6 : Bool) (r7 : Bool) (w : World) (hr0 : Kd.C k37 w A0 l0.length l0) (hc0 : l0.length ≤ c0) (h : pinfoldref11_FindLease_c.f l0 a1 = some (r1, r2, r3, r4, r5, r6, r7)) :
  Calls Try.prog 21 #[.slice A0 l0.length c0, .int .i64 a1] w fun e w' => e = .returned (.tuple #[.agg #[.int .i64 r1, .int .i64 r2, .string r3, .int .i64 r4, .string r5, .bool r6], .bool r7]) ∧ Below w.heap.size w w' := by
 unfold pinfoldref11_FindLease_c.f at h
 by_cases hs : l0.length ≤ 140737488351232
 ·rw [if_pos hs] at h
  exact pinfoldref11_FindLease.calls (l0.length + 1) A0 c0 l0 a1 r1 r2 r3 r4 r5 r6 r7 w hr0 hc0 ((reffind_l0 l0 a1 hs l0.length (l0.length + 1) 0 (by omega) (by omega)).trans h)
 ·rw [if_neg hs] at h
  cases h

/-! ### pinfoldref11_Live: function 48 -/
-- BY HAND
-- 60
def pinfoldref11_Live_c.f (a0_0 : Int) (a0_1 : Int) (a0_2 : ByteArray) (a0_3 : Int) (a0_4 : ByteArray) (a0_5 : Bool) (a1 : Int) : Option Bool := if a0_4.size ≤ 8796093022000 then some (liveB a0_0 a0_1 a0_2 a0_3 a0_4 a0_5 a1) else none
set_option maxHeartbeats 8000000 in
set_option maxRecDepth 100000 in
theorem pinfoldref11_Live_c.calls (a0_0 : Int) (a0_1 : Int) (a0_2 : ByteArray) (a0_3 : Int) (a0_4 : ByteArray) (a0_5 : Bool) (a1 : Int) (r : Bool) (w : World) (h : pinfoldref11_Live_c.f a0_0 a0_1 a0_2 a0_3 a0_4 a0_5 a1 = some r) :
  Calls Try.prog 48 #[.agg #[.int .i64 a0_0, .int .i64 a0_1, .string a0_2, .int .i64 a0_3, .string a0_4, .bool a0_5], .int .i64 a1] w fun e w' => e = .returned (.bool r) ∧ Below w.heap.size w w' := by
 unfold pinfoldref11_Live_c.f at h
 by_cases hs : a0_4.size ≤ 8796093022000
 rotate_left
 ·rw [if_neg hs] at h
  cases h
 rw [if_pos hs] at h
 replace h := e5_ h
 unfold liveB at h
 obtain ⟨b1, h1⟩ : ∃ b, leaseB a0_0 a0_1 a0_2 a0_3 a0_4 a0_5 = b := ⟨_, rfl⟩
 rw [h1] at h
 have C1 := am_ (fun W => pinfoldref11_LeaseMay_c.calls a0_0 a0_1 a0_2 a0_3 a0_4 a0_5 b1 W (by unfold pinfoldref11_LeaseMay_c.f; rw [if_pos hs, h1]))
 have HR := am_ h
 have HB := am_ (Below.refl w.heap.size w)
 have BX := am_ (blk_new w (.cells #[.int .i64 a0_0, .int .i64 a0_1, .string a0_2, .int .i64 a0_3, .string a0_4, .bool a0_5] 37))
 have v0 := bc_ BX.out 0; have v1 := bc_ BX.out 1; have v2 := bc_ BX.out 2; have v3 := bc_ BX.out 3; have v4 := bc_ BX.out 4; have v5 := bc_ BX.out 5
 clear h h1 hs
 go_enter Try.func48, Try.ntmps48
 go_wp2_with (first | (go_at_call 60; (with_reducible refine (C1.out _).mono ?_); rintro e w1 ⟨rfl, hb2⟩; replace BX := am_ (kb_ (show _ from (by (with_reducible repeat (first | exact BX.out | refine k2_ ?_ _ | refine k3_ ?_ | refine k1_ ?_ _)))) hb2); replace HB := am_ (bt_ (show Below w.heap.size w _ from (by repeat (with_reducible first | exact HB.out | apply p3_ | apply p1_ | apply p2_))) hb2); clear hb2; clear v0 v1 v2 v3 v4 v5; have v0 := bc_ BX.out 0; have v1 := bc_ BX.out 1; have v2 := bc_ BX.out 2; have v3 := bc_ BX.out 3; have v4 := bc_ BX.out 4; have v5 := bc_ BX.out 5))
 all_goals (try go_ret)
 all_goals refine ⟨ret_bool ?_, ?_⟩
 all_goals first
  | exact HB.out
  | (rw [← HR.out]; clear HR HB C1 BX v0 v1 v2 v3 v4 v5; (simp_all; done))
  | (rw [← HR.out]; clear HR HB C1 BX v0 v1 v2 v3 v4 v5; simp_all <;> omega)

/-! ### pinfoldref11_his: function 58 -/
-- BY HAND
-- 48
def pinfoldref11_his_c.f (a0_0 : Int) (a0_1 : Int) (a0_2 : ByteArray) (a0_3 : Int) (a0_4 : ByteArray) (a0_5 : Bool) (a1 : ByteArray) (a2 : Int) : Option Bool := if a0_4.size ≤ 8796093022000 then some (holdsB a0_0 a0_1 a0_2 a0_3 a0_4 a0_5 a1 a2) else none
set_option maxHeartbeats 8000000 in
set_option maxRecDepth 100000 in
theorem pinfoldref11_his_c.calls (a0_0 : Int) (a0_1 : Int) (a0_2 : ByteArray) (a0_3 : Int) (a0_4 : ByteArray) (a0_5 : Bool) (a1 : ByteArray) (a2 : Int) (r : Bool) (w : World) (h : pinfoldref11_his_c.f a0_0 a0_1 a0_2 a0_3 a0_4 a0_5 a1 a2 = some r) :
  Calls Try.prog 58 #[.agg #[.int .i64 a0_0, .int .i64 a0_1, .string a0_2, .int .i64 a0_3, .string a0_4, .bool a0_5], .string a1, .int .i64 a2] w fun e w' => e = .returned (.bool r) ∧ Below w.heap.size w w' := by
 unfold pinfoldref11_his_c.f at h
 by_cases hs : a0_4.size ≤ 8796093022000
 rotate_left
 ·rw [if_neg hs] at h
  cases h
 rw [if_pos hs] at h
 replace h := e5_ h
 obtain ⟨b1, h1⟩ : ∃ b, liveB a0_0 a0_1 a0_2 a0_3 a0_4 a0_5 a2 = b := ⟨_, rfl⟩
 have hst : b1 = true → a0_1 = 1 ∨ a0_1 = 2 ∨ a0_1 = 3 := by
  intro e
  have e2 := h1.trans e
  unfold liveB leaseB stateB at e2
  simp only [Bool.and_eq_true, decide_eq_true_eq] at e2
  obtain ⟨⟨⟨⟨⟨⟨_, h⟩, _⟩, _⟩, _⟩, h0⟩, _⟩ := e2
  by_cases q0 : a0_1 = 0 ∨ a0_1 = 3
  ·omega
  rw [if_neg q0] at h
  by_cases q1 : a0_1 = 1
  ·omega
  rw [if_neg q1] at h
  by_cases q2 : a0_1 = 2
  ·omega
  rw [if_neg q2] at h
  cases h
 unfold holdsB at h
 rw [h1] at h
 have C1 := am_ (fun W => pinfoldref11_Live_c.calls a0_0 a0_1 a0_2 a0_3 a0_4 a0_5 a2 b1 W (by unfold pinfoldref11_Live_c.f; rw [if_pos hs, h1]))
 have HB := am_ (Below.refl w.heap.size w)
 have BX := am_ (blk_new w (.cells #[.int .i64 a0_0, .int .i64 a0_1, .string a0_2, .int .i64 a0_3, .string a0_4, .bool a0_5] 37))
 have v0 := bc_ BX.out 0; have v1 := bc_ BX.out 1; have v2 := bc_ BX.out 2; have v3 := bc_ BX.out 3; have v4 := bc_ BX.out 4; have v5 := bc_ BX.out 5
 clear h1 hs
 have q2b : (a0_2.toList == a1.toList) = decide (a0_2.toList = a1.toList) := by rw [Bool.eq_iff_iff, beq_iff_eq, decide_eq_true_eq]
 obtain ⟨c2, hc2⟩ : ∃ c, decide (a0_2.toList = a1.toList) = c := ⟨_, rfl⟩
 rw [hc2] at h q2b
 clear hc2
 cases b1 with
 | false =>
  have HR := am_ (show false = r from h)
  clear h hst
  go_enter Try.func58, Try.ntmps58
  go_wp2_with (first | (go_at_call 48; (with_reducible refine (C1.out _).mono ?_); rintro e w1 ⟨rfl, hb2⟩; replace BX := am_ (kb_ (show _ from (by (with_reducible repeat (first | exact BX.out | refine k2_ ?_ _ | refine k3_ ?_ | refine k1_ ?_ _)))) hb2); replace HB := am_ (bt_ (show Below w.heap.size w _ from (by repeat (with_reducible first | exact HB.out | apply p3_ | apply p1_ | apply p2_))) hb2); clear hb2; clear v0 v1 v2 v3 v4 v5; have v0 := bc_ BX.out 0; have v1 := bc_ BX.out 1; have v2 := bc_ BX.out 2; have v3 := bc_ BX.out 3; have v4 := bc_ BX.out 4; have v5 := bc_ BX.out 5))
  go_ret
  exact ⟨ret_bool HR.out, HB.out⟩
 | true =>
  rw [Bool.true_and] at h
  rcases hst rfl with e | e | e
  all_goals
   subst e
   have HR := am_ h
   clear h hst
   go_enter Try.func58, Try.ntmps58
   go_wp2_with (first | (go_at_call 48; (with_reducible refine (C1.out _).mono ?_); rintro e w1 ⟨rfl, hb2⟩; replace BX := am_ (kb_ (show _ from (by (with_reducible repeat (first | exact BX.out | refine k2_ ?_ _ | refine k3_ ?_ | refine k1_ ?_ _)))) hb2); replace HB := am_ (bt_ (show Below w.heap.size w _ from (by repeat (with_reducible first | exact HB.out | apply p3_ | apply p1_ | apply p2_))) hb2); clear hb2; clear v0 v1 v2 v3 v4 v5; have v0 := bc_ BX.out 0; have v1 := bc_ BX.out 1; have v2 := bc_ BX.out 2; have v3 := bc_ BX.out 3; have v4 := bc_ BX.out 4; have v5 := bc_ BX.out 5))
   all_goals (try go_ret)
   all_goals exact ⟨ret_bool (by rw [← HR.out]; simp), HB.out⟩

end Go.Proofs.Ytibmakpghbinbaa.PT
