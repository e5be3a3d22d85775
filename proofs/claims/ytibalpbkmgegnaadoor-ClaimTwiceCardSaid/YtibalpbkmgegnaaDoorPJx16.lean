-- Made by wip/pr.py out of the translation (a turned copy of the kit's print; contracts by hand where said).
import Derived.Test.YtibalpbkmgegnaaDoorPJx0
import Derived.Test.YtibalpbkmgegnaaDoorPJx2
import Derived.Test.YtibalpbkmgegnaaDoorPJx3
import Derived.Test.YtibalpbkmgegnaaDoorPJx11
import Derived.Test.YtibalpbkmgegnaaDoorPJx15
namespace Go.Proofs.YtibalpbkmgegnaaDoor.PJ
open Go.RowKit Go.Proofs.YtibalpbkmgegnaaDoorW.PrintWords Go.Proofs.YtibalpbkmgegnaaDoorW.PrintLast Go.Proofs.YtibalpbkmgegnaaDoorW.PrintMore
-- shrunk
attribute [local go_sem] max2_int min2_int max_two min_two max_three min_three max_four min_four   -- for this text's walks alone
set_option linter.unusedVariables false
set_option linter.unusedSimpArgs false

/-! ### pinfoldref11_TableMay: function 15 -/
-- BY HAND
-- 31
def hostAheadR (l : List S36) (i : Nat) : Option Int := if i = 0 then none else some (rd_T36 l ((i - 1 : Nat) : Int)).f0
def pinfoldref11_TableMay.S (pb : Addr) (x0 x1 : Int) (x2 : ByteArray) (x3 : Int) (x4 : ByteArray) (x5 : Bool) (pa : Addr) (y0 : Int) (w' : World) : Prop := w'.cell? pb = some (.int .i64 x0) ∧ w'.cell? ⟨pb.block, pb.off + 1, none⟩ = some (.int .i64 x1) ∧ w'.cell? ⟨pb.block, pb.off + 2, none⟩ = some (.string x2) ∧ w'.cell? ⟨pb.block, pb.off + 3, none⟩ = some (.int .i64 x3) ∧ w'.cell? ⟨pb.block, pb.off + 4, none⟩ = some (.string x4) ∧ w'.cell? ⟨pb.block, pb.off + 5, none⟩ = some (.bool x5) ∧ w'.cell? pa = some (.int .i64 y0)
theorem pinfoldref11_TableMay.S_below {w w2 : World} {pb : Addr} {x0 x1 : Int} {x2 : ByteArray} {x3 : Int} {x4 : ByteArray} {x5 : Bool} {pa : Addr} {y0 : Int} (h : pinfoldref11_TableMay.S pb x0 x1 x2 x3 x4 x5 pa y0 w) (hb : Below w.heap.size w w2) : pinfoldref11_TableMay.S pb x0 x1 x2 x3 x4 x5 pa y0 w2 := by
 obtain ⟨s0, s1, s2, s3, s4, s5, s6⟩ := h
 exact ⟨(hb.cell (wb_ _ _ s0)).trans s0, (hb.cell (wb_ _ _ s1)).trans s1, (hb.cell (wb_ _ _ s2)).trans s2, (hb.cell (wb_ _ _ s3)).trans s3, (hb.cell (wb_ _ _ s4)).trans s4, (hb.cell (wb_ _ _ s5)).trans s5, (hb.cell (wb_ _ _ s6)).trans s6⟩
def pinfoldref11_TableMay_c.f (l0 : List S36) : Option Bool := if tabFitR l0 then some (tableB l0) else none
set_option maxHeartbeats 8000000 in
set_option maxRecDepth 100000 in
theorem pinfoldref11_TableMay_c.calls (A0 : Option Addr) (c0 : Nat) (l0 : List S36) (r : Bool) (w : World) (hr0 : Kd.C k36 w A0 l0.length l0) (hc0 : l0.length ≤ c0) (h : pinfoldref11_TableMay_c.f l0 = some r) :
  Calls Tryd.prog 15 #[.slice A0 l0.length c0] w fun e w' => e = .returned (.bool r) ∧ Below w.heap.size w w' := by
 unfold pinfoldref11_TableMay_c.f at h
 by_cases hs : tabFitR l0
 rotate_left
 ·rw [if_neg hs] at h
  cases h
 rw [if_pos hs] at h
 have HT := am_ (show (goTab (hostAheadR l0 (0 : Int).toNat) (l0.drop (0 : Int).toNat) && decide (l0.length ≤ 8)) = r from e5_ h)
 have hl := hs.1
 have HX := am_ hs.2
 have HR := am_ hr0
 have HB := am_ (Below.refl w.heap.size w)
 clear h hs hr0 hc0
 go_enter Tryd.func15, Tryd.ntmps15
 go_wp2
 go_loopg [3] l0.length (fun d v w' => ∃ i : Int, 0 ≤ i ∧ i.toNat + d = l0.length ∧ v = .int .i64 i ∧ Aside0 (Below w.heap.size w w') ∧ Aside0 ((goTab (hostAheadR l0 i.toNat) (l0.drop i.toNat) && decide (l0.length ≤ 8)) = r))
 case atStart => exact ⟨0, by omega, by simp, rfl, HB, HT⟩
 case round =>
  clear HB HT
  obtain ⟨i, hi0, hd, rfl, HB, HT⟩ := hrel
  by_cases hlt : i < (l0.length : Int)
  ·obtain ⟨ad, e1, hw0, hw1, hw2, hw3, hw4, hw5⟩ := at_T36 HR.out i hi0 hlt
   cases e1
   have hx0 := (HB.out.cell (wb_ w _ hw0)).trans hw0; have hx1 := (HB.out.cell (wb_ w _ hw1)).trans hw1; have hx2 := (HB.out.cell (wb_ w _ hw2)).trans hw2; have hx3 := (HB.out.cell (wb_ w _ hw3)).trans hw3; have hx4 := (HB.out.cell (wb_ w _ hw4)).trans hw4; have hx5 := (HB.out.cell (wb_ w _ hw5)).trans hw5
   have hd1 := dropLease l0 i hi0 hlt
   have hsz := HX.out _ hd1.2
   have hst := HT.out
   rw [hd1.1] at hst
   have hnx : hostAheadR l0 (i.toNat + 1) = some (rd_T36 l0 i).f0 := by
    unfold hostAheadR
    rw [if_neg (by omega), Nat.add_sub_cancel, Int.toNat_of_nonneg hi0]
   have hi2 : (i + 1).toNat = i.toNat + 1 := by omega
   have hpv : ¬ i = 0 → ∃ j y, wrap64 (i - 1) = j ∧ 0 ≤ j ∧ j < (l0.length : Int) ∧ hostAheadR l0 i.toNat = some y ∧ w.cell? (ad.add (j.toNat * 6)) = some (.int .i64 y) := by
    intro h0
    have h1 : wrap64 (i - 1) = i - 1 := by unfold wrap64; omega
    obtain ⟨ad2, e2, hy0, _⟩ := at_T36 HR.out (i - 1) (by omega) (by omega)
    cases e2
    refine ⟨i - 1, _, h1, by omega, by omega, ?_, hy0⟩
    unfold hostAheadR
    rw [if_neg (by omega), show ((i.toNat - 1 : Nat) : Int) = i - 1 by omega]
   generalize rd_T36 l0 i = x at hw0 hw1 hw2 hw3 hw4 hw5 hx0 hx1 hx2 hx3 hx4 hx5 hsz hst hnx
   clear hd1 HT
   obtain ⟨x0, x1, x2, x3, x4, x5⟩ := x
   simp only at hw0 hw1 hw2 hw3 hw4 hw5 hx0 hx1 hx2 hx3 hx4 hx5 hsz hst hnx
   obtain ⟨b1, h1⟩ : ∃ b, leaseB x0 x1 x2 x3 x4 x5 = b := ⟨_, rfl⟩
   have hst2 : ((b1 && (above (hostAheadR l0 i.toNat) x0 && goTab (some x0) (l0.drop (i.toNat + 1)))) && decide (l0.length ≤ 8)) = r := by rw [← h1]; exact hst
   rw [← hnx, ← hi2] at hst2
   clear hst hnx
   have CM := am_ (fun W => pinfoldref11_LeaseMay_c.calls x0 x1 x2 x3 x4 x5 b1 W (by unfold pinfoldref11_LeaseMay_c.f; rw [if_pos hsz, h1]))
   have H1 := am_ (show 0 ≤ i + 1 by omega)
   have H2 := am_ (show (i + 1).toNat + (l0.length - (i.toNat + 1)) = l0.length by omega)
   have H3 := am_ (show l0.length - (i.toNat + 1) < gk by omega)
   have H4 := am_ (show IntKind.i64.wrap (i + 1) = i + 1 from (i64_w _).trans (by unfold wrap64; omega))
   have H6 := am_ (fun (h : i = 0) => show i.toNat = 0 by rw [h]; rfl)
   have H5 := am_ (fun (h : ¬ i = 0) => show 0 < i by omega)
   replace hi0 := am_ hi0
   replace hd := am_ hd
   replace hl := am_ hl
   have clt := decide_eq_true hlt
   have cle := decide_eq_true hi0.out
   have plt := eq_true hlt
   have ple := eq_true hi0.out
   clear h1 hlt
   cases b1 with
   | false =>
    have HF := am_ (show false = r by rw [← hst2]; rfl)
    clear hst2 hpv hi2
    go_wp2_with fail
    have HB1 := am_ (below_drew HB.out)
    refine seqS (S := pinfoldref11_TableMay.S (ad.add (i.toNat * 6)) x0 x1 x2 x3 x4 x5 (ad.add (i.toNat * 6)) x0) 24 (by kernel_rfl) rfl rfl (by unfold pinfoldref11_TableMay.S; exact ⟨(HB1.out.cell (wb_ w _ hw0)).trans hw0, (HB1.out.cell (wb_ w _ hw1)).trans hw1, (HB1.out.cell (wb_ w _ hw2)).trans hw2, (HB1.out.cell (wb_ w _ hw3)).trans hw3, (HB1.out.cell (wb_ w _ hw4)).trans hw4, (HB1.out.cell (wb_ w _ hw5)).trans hw5, (HB1.out.cell (wb_ w _ hw0)).trans hw0⟩) ?_
    intro hHeld
    clear hx0 hx1 hx2 hx3 hx4 hx5 hw0 hw1 hw2 hw3 hw4 hw5 HB
    iterate 4 first | (refine seqP (v := ?_) (a' := ?_) rfl rfl (by kernel_rfl) (fun _ _ _ h => h) (Or.inl ⟨by kernel_rfl, ?_⟩) ?_ ?_; rotate_left; (intro w'; go_simp; with_reducible rfl); rotate_left; (simp only [Act.put, sa_, sb_, sc_, i64_w, i32_w]; rfl)) | (refine seqL (v := ?_) (a' := ?_) rfl rfl (by kernel_rfl) (fun _ _ _ h => h) (Or.inl ⟨by kernel_rfl, ?_⟩) hHeld ?_ ?_; rotate_left; (rintro w' ⟨s0, s1, s2, s3, s4, s5, s6⟩; go_simp; with_reducible rfl); rotate_left; (simp only [Act.put, sa_, sb_, sc_, i64_w, i32_w]; rfl))
    refine seqG (fn := Tryd.f31) rfl rfl (by kernel_rfl) rfl Tryd.func31 (by kernel_rfl) (by kernel_rfl) #[.agg #[.int .i64 x0, .int .i64 x1, .string x2, .int .i64 x3, .string x4, .bool x5]] (by kernel_rfl) (by (try simp only [List.map_toArray, List.map_cons, List.map_nil]); first | done | rfl) ?_
    with_reducible refine (CM.out _).mono ?_
    rintro e wg ⟨rfl, hb2⟩
    have HB2 := am_ (bt_ HB1.out hb2)
    refine ⟨_, rfl, pinfoldref11_TableMay.S_below hHeld hb2, fun hHeld => ⟨?_, ?_, ?_⟩⟩
    rotate_left
    ·simp only [Act.put, sa_, sb_, sc_, i64_w, i32_w]
     rfl
    clear hb2 HB1 CM
    iterate 2 first | (refine seqP (v := ?_) (a' := ?_) rfl rfl (by kernel_rfl) (fun _ _ _ h => h) (Or.inl ⟨by kernel_rfl, ?_⟩) ?_ ?_; rotate_left; (intro w'; go_simp; with_reducible rfl); rotate_left; (simp only [Act.put, sa_, sb_, sc_, i64_w, i32_w]; rfl)) | (refine seqL (v := ?_) (a' := ?_) rfl rfl (by kernel_rfl) (fun _ _ _ h => h) (Or.inl ⟨by kernel_rfl, ?_⟩) hHeld ?_ ?_; rotate_left; (rintro w' ⟨s0, s1, s2, s3, s4, s5, s6⟩; go_simp; with_reducible rfl); rotate_left; (simp only [Act.put, sa_, sb_, sc_, i64_w, i32_w]; rfl))
    iterate 16 (refine seqP (v := undef) (a' := ?_) rfl rfl (by kernel_rfl) (fun _ _ _ h => h) (Or.inr ⟨by kernel_rfl, rfl⟩) ?_ ?_; rotate_left; (simp only [Act.put, sa_, sb_, sc_, i64_w, i32_w]; rfl))
    iterate 1 first | (refine seqP (v := ?_) (a' := ?_) rfl rfl (by kernel_rfl) (fun _ _ _ h => h) (Or.inl ⟨by kernel_rfl, ?_⟩) ?_ ?_; rotate_left; (intro w'; go_simp; with_reducible rfl); rotate_left; (simp only [Act.put, sa_, sb_, sc_, i64_w, i32_w]; rfl)) | (refine seqL (v := ?_) (a' := ?_) rfl rfl (by kernel_rfl) (fun _ _ _ h => h) (Or.inl ⟨by kernel_rfl, ?_⟩) hHeld ?_ ?_; rotate_left; (rintro w' ⟨s0, s1, s2, s3, s4, s5, s6⟩; go_simp; with_reducible rfl); rotate_left; (simp only [Act.put, sa_, sb_, sc_, i64_w, i32_w]; rfl))
    refine seqE (by kernel_rfl) ?_
    go_wp2
    go_ret
    exact ⟨ret_bool (HF.out), HB2.out⟩
   | true =>
   rw [Bool.true_and] at hst2
   by_cases hp : i = 0
   ·have cp : decide (0 < i) = false := decide_eq_false (by omega)
    have HN := am_ (show (goTab (hostAheadR l0 (i + 1).toNat) (l0.drop (i + 1).toNat) && decide (l0.length ≤ 8)) = r by rw [← hst2, show hostAheadR l0 i.toNat = none by unfold hostAheadR; rw [if_pos (H6.out hp)], show above none x0 = true from rfl, Bool.true_and])
    replace hp := am_ hp
    clear hst2 hpv hi2
    go_wp2_with fail
    have HB1 := am_ (below_drew HB.out)
    refine seqS (S := pinfoldref11_TableMay.S (ad.add (i.toNat * 6)) x0 x1 x2 x3 x4 x5 (ad.add (i.toNat * 6)) x0) 24 (by kernel_rfl) rfl rfl (by unfold pinfoldref11_TableMay.S; exact ⟨(HB1.out.cell (wb_ w _ hw0)).trans hw0, (HB1.out.cell (wb_ w _ hw1)).trans hw1, (HB1.out.cell (wb_ w _ hw2)).trans hw2, (HB1.out.cell (wb_ w _ hw3)).trans hw3, (HB1.out.cell (wb_ w _ hw4)).trans hw4, (HB1.out.cell (wb_ w _ hw5)).trans hw5, (HB1.out.cell (wb_ w _ hw0)).trans hw0⟩) ?_
    intro hHeld
    clear hx0 hx1 hx2 hx3 hx4 hx5 hw0 hw1 hw2 hw3 hw4 hw5 HB
    iterate 4 first | (refine seqP (v := ?_) (a' := ?_) rfl rfl (by kernel_rfl) (fun _ _ _ h => h) (Or.inl ⟨by kernel_rfl, ?_⟩) ?_ ?_; rotate_left; (intro w'; go_simp; with_reducible rfl); rotate_left; (simp only [Act.put, sa_, sb_, sc_, i64_w, i32_w]; rfl)) | (refine seqL (v := ?_) (a' := ?_) rfl rfl (by kernel_rfl) (fun _ _ _ h => h) (Or.inl ⟨by kernel_rfl, ?_⟩) hHeld ?_ ?_; rotate_left; (rintro w' ⟨s0, s1, s2, s3, s4, s5, s6⟩; go_simp; with_reducible rfl); rotate_left; (simp only [Act.put, sa_, sb_, sc_, i64_w, i32_w]; rfl))
    refine seqG (fn := Tryd.f31) rfl rfl (by kernel_rfl) rfl Tryd.func31 (by kernel_rfl) (by kernel_rfl) #[.agg #[.int .i64 x0, .int .i64 x1, .string x2, .int .i64 x3, .string x4, .bool x5]] (by kernel_rfl) (by (try simp only [List.map_toArray, List.map_cons, List.map_nil]); first | done | rfl) ?_
    with_reducible refine (CM.out _).mono ?_
    rintro e wg ⟨rfl, hb2⟩
    have HB2 := am_ (bt_ HB1.out hb2)
    refine ⟨_, rfl, pinfoldref11_TableMay.S_below hHeld hb2, fun hHeld => ⟨?_, ?_, ?_⟩⟩
    rotate_left
    ·simp only [Act.put, sa_, sb_, sc_, i64_w, i32_w]
     rfl
    clear hb2 HB1 CM
    iterate 2 first | (refine seqP (v := ?_) (a' := ?_) rfl rfl (by kernel_rfl) (fun _ _ _ h => h) (Or.inl ⟨by kernel_rfl, ?_⟩) ?_ ?_; rotate_left; (intro w'; go_simp; with_reducible rfl); rotate_left; (simp only [Act.put, sa_, sb_, sc_, i64_w, i32_w]; rfl)) | (refine seqL (v := ?_) (a' := ?_) rfl rfl (by kernel_rfl) (fun _ _ _ h => h) (Or.inl ⟨by kernel_rfl, ?_⟩) hHeld ?_ ?_; rotate_left; (rintro w' ⟨s0, s1, s2, s3, s4, s5, s6⟩; go_simp; with_reducible rfl); rotate_left; (simp only [Act.put, sa_, sb_, sc_, i64_w, i32_w]; rfl))
    iterate 3 first | (refine seqP (v := ?_) (a' := ?_) rfl rfl (by kernel_rfl) (fun _ _ _ h => h) (Or.inl ⟨by kernel_rfl, ?_⟩) ?_ ?_; rotate_left; (intro w'; go_simp; with_reducible rfl); rotate_left; (simp only [Act.put, sa_, sb_, sc_, i64_w, i32_w]; rfl)) | (refine seqL (v := ?_) (a' := ?_) rfl rfl (by kernel_rfl) (fun _ _ _ h => h) (Or.inl ⟨by kernel_rfl, ?_⟩) hHeld ?_ ?_; rotate_left; (rintro w' ⟨s0, s1, s2, s3, s4, s5, s6⟩; go_simp; with_reducible rfl); rotate_left; (simp only [Act.put, sa_, sb_, sc_, i64_w, i32_w]; rfl))
    iterate 12 (refine seqP (v := undef) (a' := ?_) rfl rfl (by kernel_rfl) (fun _ _ _ h => h) (Or.inr ⟨by kernel_rfl, rfl⟩) ?_ ?_; rotate_left; (simp only [Act.put, sa_, sb_, sc_, i64_w, i32_w]; rfl))
    iterate 2 first | (refine seqP (v := ?_) (a' := ?_) rfl rfl (by kernel_rfl) (fun _ _ _ h => h) (Or.inl ⟨by kernel_rfl, ?_⟩) ?_ ?_; rotate_left; (intro w'; go_simp; with_reducible rfl); rotate_left; (simp only [Act.put, sa_, sb_, sc_, i64_w, i32_w]; rfl)) | (refine seqL (v := ?_) (a' := ?_) rfl rfl (by kernel_rfl) (fun _ _ _ h => h) (Or.inl ⟨by kernel_rfl, ?_⟩) hHeld ?_ ?_; rotate_left; (rintro w' ⟨s0, s1, s2, s3, s4, s5, s6⟩; go_simp; with_reducible rfl); rotate_left; (simp only [Act.put, sa_, sb_, sc_, i64_w, i32_w]; rfl))
    refine seqE (by kernel_rfl) ?_
    go_wp2
    go_roundg (l0.length - (i.toNat + 1))
    case measure => exact H3.out
    case rel => exact ⟨i + 1, H1.out, H2.out, by first | rfl | (rw [show wrap64 (i + 1) = i + 1 from (i64_w _).symm.trans H4.out]), HB2, HN⟩
   ·obtain ⟨j, y, hj, hj0, hj1, hay, hwy⟩ := hpv hp
    have cp : decide (0 < i) = true := decide_eq_true (H5.out hp)
    have hjw : IntKind.i64.wrap (i - 1) = j := (i64_w _).trans hj
    have pj0 := eq_true hj0
    have pj1 := eq_true hj1
    have cj0 := decide_eq_true hj0
    have cj1 := decide_eq_true hj1
    rw [hay] at hst2
    replace hp := am_ hp
    replace hj0 := am_ hj0
    replace hj1 := am_ hj1
    by_cases hc : x0 ≤ y
    ·have cc : decide (x0 ≤ y) = true := decide_eq_true hc
     have HF := am_ (show false = r by rw [← hst2, show above (some y) x0 = false from decide_eq_false (by omega)]; simp)
     clear hst2 hpv hi2 hc hay
     go_wp2_with fail
     have HB1 := am_ (below_drew HB.out)
     refine seqS (S := pinfoldref11_TableMay.S (ad.add (i.toNat * 6)) x0 x1 x2 x3 x4 x5 (ad.add (j.toNat * 6)) y) 24 (by kernel_rfl) rfl rfl (by unfold pinfoldref11_TableMay.S; exact ⟨(HB1.out.cell (wb_ w _ hw0)).trans hw0, (HB1.out.cell (wb_ w _ hw1)).trans hw1, (HB1.out.cell (wb_ w _ hw2)).trans hw2, (HB1.out.cell (wb_ w _ hw3)).trans hw3, (HB1.out.cell (wb_ w _ hw4)).trans hw4, (HB1.out.cell (wb_ w _ hw5)).trans hw5, (HB1.out.cell (wb_ w _ hwy)).trans hwy⟩) ?_
     intro hHeld
     clear hx0 hx1 hx2 hx3 hx4 hx5 hw0 hw1 hw2 hw3 hw4 hw5 HB
     iterate 4 first | (refine seqP (v := ?_) (a' := ?_) rfl rfl (by kernel_rfl) (fun _ _ _ h => h) (Or.inl ⟨by kernel_rfl, ?_⟩) ?_ ?_; rotate_left; (intro w'; go_simp; with_reducible rfl); rotate_left; (simp only [Act.put, sa_, sb_, sc_, i64_w, i32_w]; rfl)) | (refine seqL (v := ?_) (a' := ?_) rfl rfl (by kernel_rfl) (fun _ _ _ h => h) (Or.inl ⟨by kernel_rfl, ?_⟩) hHeld ?_ ?_; rotate_left; (rintro w' ⟨s0, s1, s2, s3, s4, s5, s6⟩; go_simp; with_reducible rfl); rotate_left; (simp only [Act.put, sa_, sb_, sc_, i64_w, i32_w]; rfl))
     refine seqG (fn := Tryd.f31) rfl rfl (by kernel_rfl) rfl Tryd.func31 (by kernel_rfl) (by kernel_rfl) #[.agg #[.int .i64 x0, .int .i64 x1, .string x2, .int .i64 x3, .string x4, .bool x5]] (by kernel_rfl) (by (try simp only [List.map_toArray, List.map_cons, List.map_nil]); first | done | rfl) ?_
     with_reducible refine (CM.out _).mono ?_
     rintro e wg ⟨rfl, hb2⟩
     have HB2 := am_ (bt_ HB1.out hb2)
     refine ⟨_, rfl, pinfoldref11_TableMay.S_below hHeld hb2, fun hHeld => ⟨?_, ?_, ?_⟩⟩
     rotate_left
     ·simp only [Act.put, sa_, sb_, sc_, i64_w, i32_w]
      rfl
     clear hb2 HB1 CM
     iterate 2 first | (refine seqP (v := ?_) (a' := ?_) rfl rfl (by kernel_rfl) (fun _ _ _ h => h) (Or.inl ⟨by kernel_rfl, ?_⟩) ?_ ?_; rotate_left; (intro w'; go_simp; with_reducible rfl); rotate_left; (simp only [Act.put, sa_, sb_, sc_, i64_w, i32_w]; rfl)) | (refine seqL (v := ?_) (a' := ?_) rfl rfl (by kernel_rfl) (fun _ _ _ h => h) (Or.inl ⟨by kernel_rfl, ?_⟩) hHeld ?_ ?_; rotate_left; (rintro w' ⟨s0, s1, s2, s3, s4, s5, s6⟩; go_simp; with_reducible rfl); rotate_left; (simp only [Act.put, sa_, sb_, sc_, i64_w, i32_w]; rfl))
     iterate 17 first | (refine seqP (v := ?_) (a' := ?_) rfl rfl (by kernel_rfl) (fun _ _ _ h => h) (Or.inl ⟨by kernel_rfl, ?_⟩) ?_ ?_; rotate_left; (intro w'; go_simp; with_reducible rfl); rotate_left; (simp only [Act.put, sa_, sb_, sc_, i64_w, i32_w]; rfl)) | (refine seqL (v := ?_) (a' := ?_) rfl rfl (by kernel_rfl) (fun _ _ _ h => h) (Or.inl ⟨by kernel_rfl, ?_⟩) hHeld ?_ ?_; rotate_left; (rintro w' ⟨s0, s1, s2, s3, s4, s5, s6⟩; go_simp; with_reducible rfl); rotate_left; (simp only [Act.put, sa_, sb_, sc_, i64_w, i32_w]; rfl))
     refine seqE (by kernel_rfl) ?_
     go_wp2
     go_ret
     exact ⟨ret_bool (HF.out), HB2.out⟩
    ·have cc : decide (x0 ≤ y) = false := decide_eq_false hc
     have HN := am_ (show (goTab (hostAheadR l0 (i + 1).toNat) (l0.drop (i + 1).toNat) && decide (l0.length ≤ 8)) = r by rw [← hst2, show above (some y) x0 = true from decide_eq_true (by omega), Bool.true_and])
     clear hst2 hpv hi2 hc hay
     go_wp2_with fail
     have HB1 := am_ (below_drew HB.out)
     refine seqS (S := pinfoldref11_TableMay.S (ad.add (i.toNat * 6)) x0 x1 x2 x3 x4 x5 (ad.add (j.toNat * 6)) y) 24 (by kernel_rfl) rfl rfl (by unfold pinfoldref11_TableMay.S; exact ⟨(HB1.out.cell (wb_ w _ hw0)).trans hw0, (HB1.out.cell (wb_ w _ hw1)).trans hw1, (HB1.out.cell (wb_ w _ hw2)).trans hw2, (HB1.out.cell (wb_ w _ hw3)).trans hw3, (HB1.out.cell (wb_ w _ hw4)).trans hw4, (HB1.out.cell (wb_ w _ hw5)).trans hw5, (HB1.out.cell (wb_ w _ hwy)).trans hwy⟩) ?_
     intro hHeld
     clear hx0 hx1 hx2 hx3 hx4 hx5 hw0 hw1 hw2 hw3 hw4 hw5 HB
     iterate 4 first | (refine seqP (v := ?_) (a' := ?_) rfl rfl (by kernel_rfl) (fun _ _ _ h => h) (Or.inl ⟨by kernel_rfl, ?_⟩) ?_ ?_; rotate_left; (intro w'; go_simp; with_reducible rfl); rotate_left; (simp only [Act.put, sa_, sb_, sc_, i64_w, i32_w]; rfl)) | (refine seqL (v := ?_) (a' := ?_) rfl rfl (by kernel_rfl) (fun _ _ _ h => h) (Or.inl ⟨by kernel_rfl, ?_⟩) hHeld ?_ ?_; rotate_left; (rintro w' ⟨s0, s1, s2, s3, s4, s5, s6⟩; go_simp; with_reducible rfl); rotate_left; (simp only [Act.put, sa_, sb_, sc_, i64_w, i32_w]; rfl))
     refine seqG (fn := Tryd.f31) rfl rfl (by kernel_rfl) rfl Tryd.func31 (by kernel_rfl) (by kernel_rfl) #[.agg #[.int .i64 x0, .int .i64 x1, .string x2, .int .i64 x3, .string x4, .bool x5]] (by kernel_rfl) (by (try simp only [List.map_toArray, List.map_cons, List.map_nil]); first | done | rfl) ?_
     with_reducible refine (CM.out _).mono ?_
     rintro e wg ⟨rfl, hb2⟩
     have HB2 := am_ (bt_ HB1.out hb2)
     refine ⟨_, rfl, pinfoldref11_TableMay.S_below hHeld hb2, fun hHeld => ⟨?_, ?_, ?_⟩⟩
     rotate_left
     ·simp only [Act.put, sa_, sb_, sc_, i64_w, i32_w]
      rfl
     clear hb2 HB1 CM
     iterate 2 first | (refine seqP (v := ?_) (a' := ?_) rfl rfl (by kernel_rfl) (fun _ _ _ h => h) (Or.inl ⟨by kernel_rfl, ?_⟩) ?_ ?_; rotate_left; (intro w'; go_simp; with_reducible rfl); rotate_left; (simp only [Act.put, sa_, sb_, sc_, i64_w, i32_w]; rfl)) | (refine seqL (v := ?_) (a' := ?_) rfl rfl (by kernel_rfl) (fun _ _ _ h => h) (Or.inl ⟨by kernel_rfl, ?_⟩) hHeld ?_ ?_; rotate_left; (rintro w' ⟨s0, s1, s2, s3, s4, s5, s6⟩; go_simp; with_reducible rfl); rotate_left; (simp only [Act.put, sa_, sb_, sc_, i64_w, i32_w]; rfl))
     iterate 17 first | (refine seqP (v := ?_) (a' := ?_) rfl rfl (by kernel_rfl) (fun _ _ _ h => h) (Or.inl ⟨by kernel_rfl, ?_⟩) ?_ ?_; rotate_left; (intro w'; go_simp; with_reducible rfl); rotate_left; (simp only [Act.put, sa_, sb_, sc_, i64_w, i32_w]; rfl)) | (refine seqL (v := ?_) (a' := ?_) rfl rfl (by kernel_rfl) (fun _ _ _ h => h) (Or.inl ⟨by kernel_rfl, ?_⟩) hHeld ?_ ?_; rotate_left; (rintro w' ⟨s0, s1, s2, s3, s4, s5, s6⟩; go_simp; with_reducible rfl); rotate_left; (simp only [Act.put, sa_, sb_, sc_, i64_w, i32_w]; rfl))
     refine seqE (by kernel_rfl) ?_
     go_wp2
     go_roundg (l0.length - (i.toNat + 1))
     case measure => exact H3.out
     case rel => exact ⟨i + 1, H1.out, H2.out, by first | rfl | (rw [show wrap64 (i + 1) = i + 1 from (i64_w _).symm.trans H4.out]), HB2, HN⟩
  ·have HF := am_ (show decide (l0.length ≤ 8) = r by have h1 := HT.out; rw [List.drop_eq_nil_of_le (by omega)] at h1; rw [← h1, show goTab (hostAheadR l0 i.toNat) [] = true from rfl, Bool.true_and])
   by_cases h8 : l0.length ≤ 8
   ·have c8 : decide ((l0.length : Int) ≤ 8) = true := decide_eq_true (by omega)
    have HG := am_ (show true = r by rw [← HF.out]; exact (decide_eq_true h8).symm)
    clear HT HF
    go_wp2
    go_ret
    exact ⟨ret_bool HG.out, HB.out⟩
   ·have c8 : decide ((l0.length : Int) ≤ 8) = false := decide_eq_false (by omega)
    have HG := am_ (show false = r by rw [← HF.out]; exact (decide_eq_false h8).symm)
    clear HT HF
    go_wp2
    go_ret
    exact ⟨ret_bool HG.out, HB.out⟩

/-! ### pinfoldref11_Live: function 12 -/
-- BY HAND
-- 31
def pinfoldref11_Live_c.f (a0_0 : Int) (a0_1 : Int) (a0_2 : ByteArray) (a0_3 : Int) (a0_4 : ByteArray) (a0_5 : Bool) (a1 : Int) : Option Bool := if a0_4.size ≤ 8796093022000 then some (liveB a0_0 a0_1 a0_2 a0_3 a0_4 a0_5 a1) else none
set_option maxHeartbeats 8000000 in
set_option maxRecDepth 100000 in
theorem pinfoldref11_Live_c.calls (a0_0 : Int) (a0_1 : Int) (a0_2 : ByteArray) (a0_3 : Int) (a0_4 : ByteArray) (a0_5 : Bool) (a1 : Int) (r : Bool) (w : World) (h : pinfoldref11_Live_c.f a0_0 a0_1 a0_2 a0_3 a0_4 a0_5 a1 = some r) :
  Calls Tryd.prog 12 #[.agg #[.int .i64 a0_0, .int .i64 a0_1, .string a0_2, .int .i64 a0_3, .string a0_4, .bool a0_5], .int .i64 a1] w fun e w' => e = .returned (.bool r) ∧ Below w.heap.size w w' := by
 unfold pinfoldref11_Live_c.f at h
 by_cases hs : a0_4.size ≤ 8796093022000
 rotate_left
 ·rw [if_neg hs] at h
  cases h
 rw [if_pos hs] at h
 replace h := e5_ h
 unfold liveB at h
 obtain ⟨b1, h1⟩ : ∃ b, leaseB a0_0 a0_1 a0_2 a0_3 a0_4 a0_5 = b := ⟨_, rfl⟩
 rw [h1] at h
 have C1 := am_ (fun W => pinfoldref11_LeaseMay_c.calls a0_0 a0_1 a0_2 a0_3 a0_4 a0_5 b1 W (by unfold pinfoldref11_LeaseMay_c.f; rw [if_pos hs, h1]))
 have HR := am_ h
 have HB := am_ (Below.refl w.heap.size w)
 have BX := am_ (blk_new w (.cells #[.int .i64 a0_0, .int .i64 a0_1, .string a0_2, .int .i64 a0_3, .string a0_4, .bool a0_5] 36))
 have v0 := bc_ BX.out 0; have v1 := bc_ BX.out 1; have v2 := bc_ BX.out 2; have v3 := bc_ BX.out 3; have v4 := bc_ BX.out 4; have v5 := bc_ BX.out 5
 clear h h1 hs
 go_enter Tryd.func12, Tryd.ntmps12
 go_wp2_with (first | (go_at_call 31; (with_reducible refine (C1.out _).mono ?_); rintro e w1 ⟨rfl, hb2⟩; replace BX := am_ (kb_ (show _ from (by (with_reducible repeat (first | exact BX.out | refine k2_ ?_ _ | refine k3_ ?_ | refine k1_ ?_ _)))) hb2); replace HB := am_ (bt_ (show Below w.heap.size w _ from (by repeat (with_reducible first | exact HB.out | apply p3_ | apply p1_ | apply p2_))) hb2); clear hb2; clear v0 v1 v2 v3 v4 v5; have v0 := bc_ BX.out 0; have v1 := bc_ BX.out 1; have v2 := bc_ BX.out 2; have v3 := bc_ BX.out 3; have v4 := bc_ BX.out 4; have v5 := bc_ BX.out 5))
 all_goals (try go_ret)
 all_goals refine ⟨ret_bool ?_, ?_⟩
 all_goals first
  | exact HB.out
  | (rw [← HR.out]; clear HR HB C1 BX v0 v1 v2 v3 v4 v5; (simp_all; done))
  | (rw [← HR.out]; clear HR HB C1 BX v0 v1 v2 v3 v4 v5; simp_all <;> omega)

/-! ### pinfoldref11_his: function 36 -/
-- BY HAND
-- 12
def pinfoldref11_his_c.f (a0_0 : Int) (a0_1 : Int) (a0_2 : ByteArray) (a0_3 : Int) (a0_4 : ByteArray) (a0_5 : Bool) (a1 : ByteArray) (a2 : Int) : Option Bool := if a0_4.size ≤ 8796093022000 then some (holdsB a0_0 a0_1 a0_2 a0_3 a0_4 a0_5 a1 a2) else none
set_option maxHeartbeats 8000000 in
set_option maxRecDepth 100000 in
theorem pinfoldref11_his_c.calls (a0_0 : Int) (a0_1 : Int) (a0_2 : ByteArray) (a0_3 : Int) (a0_4 : ByteArray) (a0_5 : Bool) (a1 : ByteArray) (a2 : Int) (r : Bool) (w : World) (h : pinfoldref11_his_c.f a0_0 a0_1 a0_2 a0_3 a0_4 a0_5 a1 a2 = some r) :
  Calls Tryd.prog 36 #[.agg #[.int .i64 a0_0, .int .i64 a0_1, .string a0_2, .int .i64 a0_3, .string a0_4, .bool a0_5], .string a1, .int .i64 a2] w fun e w' => e = .returned (.bool r) ∧ Below w.heap.size w w' := by
 unfold pinfoldref11_his_c.f at h
 by_cases hs : a0_4.size ≤ 8796093022000
 rotate_left
 ·rw [if_neg hs] at h
  cases h
 rw [if_pos hs] at h
 replace h := e5_ h
 obtain ⟨b1, h1⟩ : ∃ b, liveB a0_0 a0_1 a0_2 a0_3 a0_4 a0_5 a2 = b := ⟨_, rfl⟩
 have hst : b1 = true → a0_1 = 1 ∨ a0_1 = 2 ∨ a0_1 = 3 := by
  intro e
  have e2 := h1.trans e
  unfold liveB leaseB stateB at e2
  simp only [Bool.and_eq_true, decide_eq_true_eq] at e2
  obtain ⟨⟨⟨⟨⟨⟨_, h⟩, _⟩, _⟩, _⟩, h0⟩, _⟩ := e2
  by_cases q0 : a0_1 = 0 ∨ a0_1 = 3
  ·omega
  rw [if_neg q0] at h
  by_cases q1 : a0_1 = 1
  ·omega
  rw [if_neg q1] at h
  by_cases q2 : a0_1 = 2
  ·omega
  rw [if_neg q2] at h
  cases h
 unfold holdsB at h
 rw [h1] at h
 have C1 := am_ (fun W => pinfoldref11_Live_c.calls a0_0 a0_1 a0_2 a0_3 a0_4 a0_5 a2 b1 W (by unfold pinfoldref11_Live_c.f; rw [if_pos hs, h1]))
 have HB := am_ (Below.refl w.heap.size w)
 have BX := am_ (blk_new w (.cells #[.int .i64 a0_0, .int .i64 a0_1, .string a0_2, .int .i64 a0_3, .string a0_4, .bool a0_5] 36))
 have v0 := bc_ BX.out 0; have v1 := bc_ BX.out 1; have v2 := bc_ BX.out 2; have v3 := bc_ BX.out 3; have v4 := bc_ BX.out 4; have v5 := bc_ BX.out 5
 clear h1 hs
 have q2b : (a0_2.toList == a1.toList) = decide (a0_2.toList = a1.toList) := by rw [Bool.eq_iff_iff, beq_iff_eq, decide_eq_true_eq]
 obtain ⟨c2, hc2⟩ : ∃ c, decide (a0_2.toList = a1.toList) = c := ⟨_, rfl⟩
 rw [hc2] at h q2b
 clear hc2
 cases b1 with
 | false =>
  have HR := am_ (show false = r from h)
  clear h hst
  go_enter Tryd.func36, Tryd.ntmps36
  go_wp2_with (first | (go_at_call 12; (with_reducible refine (C1.out _).mono ?_); rintro e w1 ⟨rfl, hb2⟩; replace BX := am_ (kb_ (show _ from (by (with_reducible repeat (first | exact BX.out | refine k2_ ?_ _ | refine k3_ ?_ | refine k1_ ?_ _)))) hb2); replace HB := am_ (bt_ (show Below w.heap.size w _ from (by repeat (with_reducible first | exact HB.out | apply p3_ | apply p1_ | apply p2_))) hb2); clear hb2; clear v0 v1 v2 v3 v4 v5; have v0 := bc_ BX.out 0; have v1 := bc_ BX.out 1; have v2 := bc_ BX.out 2; have v3 := bc_ BX.out 3; have v4 := bc_ BX.out 4; have v5 := bc_ BX.out 5))
  go_ret
  exact ⟨ret_bool HR.out, HB.out⟩
 | true =>
  rw [Bool.true_and] at h
  rcases hst rfl with e | e | e
  all_goals
   subst e
   have HR := am_ h
   clear h hst
   go_enter Tryd.func36, Tryd.ntmps36
   go_wp2_with (first | (go_at_call 12; (with_reducible refine (C1.out _).mono ?_); rintro e w1 ⟨rfl, hb2⟩; replace BX := am_ (kb_ (show _ from (by (with_reducible repeat (first | exact BX.out | refine k2_ ?_ _ | refine k3_ ?_ | refine k1_ ?_ _)))) hb2); replace HB := am_ (bt_ (show Below w.heap.size w _ from (by repeat (with_reducible first | exact HB.out | apply p3_ | apply p1_ | apply p2_))) hb2); clear hb2; clear v0 v1 v2 v3 v4 v5; have v0 := bc_ BX.out 0; have v1 := bc_ BX.out 1; have v2 := bc_ BX.out 2; have v3 := bc_ BX.out 3; have v4 := bc_ BX.out 4; have v5 := bc_ BX.out 5))
   all_goals (try go_ret)
   all_goals exact ⟨ret_bool (by rw [← HR.out]; simp), HB.out⟩

/-! ### pinfoldref11_Of: function 18 -/
mutual
def pinfoldref11_Of.l0 : Nat → List (S36) → ByteArray → Int → Int → Option (Int × Int × ByteArray × Int × ByteArray × Bool × Bool)
 | 0, _, _, _, _ => none
 | k + 1, x0, x1, x2, x8 => if x8 < (x0.length : Int) then ((pinfoldref11_TableMay_c.f x0).bind fun t324 => (pinfoldref11_Of.j1 k x0 x1 x2 x8 t324)) else (pinfoldref11_Of.j1 k x0 x1 x2 x8 false)
def pinfoldref11_Of.j1 : Nat → List (S36) → ByteArray → Int → Int → Bool → Option (Int × Int × ByteArray × Int × ByteArray × Bool × Bool)
 | 0, _, _, _, _, _ => none
 | k + 1, x0, x1, x2, x8, x16 => if x16 = true then (if 0 ≤ x8 then (if x8 < (x0.length : Int) then ((pinfoldref11_his_c.f ((rd_T36 x0 x8).f0) ((rd_T36 x0 x8).f1) ((rd_T36 x0 x8).f2) ((rd_T36 x0 x8).f3) ((rd_T36 x0 x8).f4) ((rd_T36 x0 x8).f5) x1 x2).bind fun t326 => (if t326 = true then (some ((rd_T36 x0 x8).f0, (rd_T36 x0 x8).f1, (rd_T36 x0 x8).f2, (rd_T36 x0 x8).f3, (rd_T36 x0 x8).f4, (rd_T36 x0 x8).f5, true)) else (pinfoldref11_Of.l0 k x0 x1 x2 (wrap64 (x8 + 1))))) else (none)) else (none)) else (some (0, 0, (⟨#[]⟩ : ByteArray), 0, (⟨#[]⟩ : ByteArray), false, false))
end
def pinfoldref11_Of.f (k : Nat) (l0 : List (S36)) (a1 : ByteArray) (a2 : Int) : Option (Int × Int × ByteArray × Int × ByteArray × Bool × Bool) := pinfoldref11_Of.l0 k l0 a1 a2 0
theorem pinfoldref11_Of.mono_l : ∀ k, (∀ y0 y1 y2 y3, LeO (pinfoldref11_Of.l0 k y0 y1 y2 y3) (pinfoldref11_Of.l0 (k + 1) y0 y1 y2 y3)) ∧ (∀ y0 y1 y2 y3 y4, LeO (pinfoldref11_Of.j1 k y0 y1 y2 y3 y4) (pinfoldref11_Of.j1 (k + 1) y0 y1 y2 y3 y4))
 | 0 => ⟨fun _ _ _ _ r h => by simp [pinfoldref11_Of.l0] at h, fun _ _ _ _ _ r h => by simp [pinfoldref11_Of.j1] at h⟩
 | k + 1 => by
  obtain ⟨ih0, ih1⟩ := pinfoldref11_Of.mono_l k
  refine ⟨?_, ?_⟩
  ·intro y0 y1 y2 y3
   unfold pinfoldref11_Of.l0
   repeat' first
   | (with_reducible exact ih0 _ _ _ _)
   | (with_reducible exact ih1 _ _ _ _ _)
   | (with_reducible exact LeO.refl _)
   | (with_reducible exact LeO.none _)
   | (with_reducible refine LeO.ite ?_ ?_)
   | (with_reducible refine LeO.bind ?_ (fun _ => ?_))
   | exact ih0 _ _ _ _
   | exact ih1 _ _ _ _ _
   | exact LeO.none _
   | refine LeO.ite ?_ ?_
   | refine LeO.bind ?_ (fun _ => ?_)
  ·intro y0 y1 y2 y3 y4
   unfold pinfoldref11_Of.j1
   repeat' first
   | (with_reducible exact ih0 _ _ _ _)
   | (with_reducible exact ih1 _ _ _ _ _)
   | (with_reducible exact LeO.refl _)
   | (with_reducible exact LeO.none _)
   | (with_reducible refine LeO.ite ?_ ?_)
   | (with_reducible refine LeO.bind ?_ (fun _ => ?_))
   | exact ih0 _ _ _ _
   | exact ih1 _ _ _ _ _
   | exact LeO.none _
   | refine LeO.ite ?_ ?_
   | refine LeO.bind ?_ (fun _ => ?_)
theorem pinfoldref11_Of.mono : ∀ a0 a1 a2 k, LeO (pinfoldref11_Of.f k a0 a1 a2) (pinfoldref11_Of.f (k + 1) a0 a1 a2) := by
 intro a0 a1 a2 k
 obtain ⟨ih0, ih1⟩ := pinfoldref11_Of.mono_l k
 unfold pinfoldref11_Of.f
 repeat' first
   | (with_reducible exact ih0 _ _ _ _)
   | (with_reducible exact ih1 _ _ _ _ _)
   | (with_reducible exact LeO.refl _)
   | (with_reducible exact LeO.none _)
   | (with_reducible refine LeO.ite ?_ ?_)
   | (with_reducible refine LeO.bind ?_ (fun _ => ?_))
   | exact ih0 _ _ _ _
   | exact ih1 _ _ _ _ _
   | exact LeO.none _
   | refine LeO.ite ?_ ?_
   | refine LeO.bind ?_ (fun _ => ?_)
set_option maxHeartbeats 8000000 in
set_option maxRecDepth 100000 in
theorem pinfoldref11_Of.calls (k : Nat) (A0 : Option Addr) (c0 : Nat) (l0 : List (S36)) (a1 : ByteArray) (a2 : Int) (r1 : Int) (r2 : Int) (r3 : ByteArray) (r4 : Int) (r5 : ByteArray) (r6 : Bool) (r7 : Bool) (w : World) (hr0 : Kd.C k36 w A0 l0.length l0) (hc0 : l0.length ≤ c0) (h : pinfoldref11_Of.f k l0 a1 a2 = some (r1, r2, r3, r4, r5, r6, r7)) :
  Calls Tryd.prog 18 #[.slice A0 l0.length c0, .string a1, .int .i64 a2] w fun e w' => e = .returned (.tuple #[.agg #[.int .i64 r1, .int .i64 r2, .string r3, .int .i64 r4, .string r5, .bool r6], .bool r7]) ∧ Below w.heap.size w w' := by
 have hu36 := Tryd.underlying36
 have HR0 := am_ hr0
 have HC0 := am_ hc0
 clear hr0 hc0
 have HB := am_ (Below.refl w.heap.size w)
 have H : (pinfoldref11_Of.l0 k l0 a1 a2 0) = some (r1, r2, r3, r4, r5, r6, r7) := h
 clear h
 have H' := am_ H
 clear H
 go_enter Tryd.func18, Tryd.ntmps18
 go_wp2_with (first | ((with_reducible refine gate_dst (N := 6) rfl ?_); refine box_event ?hg (N := 6) ?hd (cs := #[.int .i64 0, .int .i64 0, .string (⟨#[]⟩ : ByteArray), .int .i64 0, .string (⟨#[]⟩ : ByteArray), .bool false]) (t := 36) ?hr ?_; (case hd => rfl); (case hg => rfl); (case hr => first | (go_simp; done) | (go_simp; rfl)); intro gb323 hg w4 hbox hb; have n0_ := am_ (bt_ (by repeat (with_reducible first | exact HB.out | apply p3_ | apply p1_ | apply p2_)) hb); have n1_ := am_ (hbox); have n2_ := am_ ((by rw [hg]; exact (bz_ (by repeat (with_reducible first | exact HB.out | apply p3_ | apply p1_ | apply p2_))) : w.heap.size ≤ gb323)); have n3_ := am_ ((by rw [hg]; exact (bz_ (by repeat (with_reducible first | exact HB.out | apply p3_ | apply p1_ | apply p2_))) : w.heap.size ≤ gb323)); clear HB; have HB := n0_; have BK323 := n1_; have GW323 := n2_; have GE323 := n3_; clear n0_ n1_ n2_ n3_; clear hb hbox hg))
 go_loopg [8] k (fun kq v8 w' => ∃ (x8_1 : Int) (x324000_1 : Int) (x324001_1 : Int) (x324002_1 : ByteArray) (x324003_1 : Int) (x324004_1 : ByteArray) (x324005_1 : Bool), v8 = .int .i64 x8_1 ∧ Aside0 (pinfoldref11_Of.l0 kq l0 a1 a2 x8_1 = some (r1, r2, r3, r4, r5, r6, r7)) ∧ Aside0 (kq ≤ k) ∧ Aside0 (w'.heap[gb323]? = some (.cells #[.int .i64 x324000_1, .int .i64 x324001_1, .string x324002_1, .int .i64 x324003_1, .string x324004_1, .bool x324005_1] 36 (0, 0))) ∧ Aside0 (Below w.heap.size w w'))
 case atStart => exact ⟨(0), (0), (0), ((⟨#[]⟩ : ByteArray)), (0), ((⟨#[]⟩ : ByteArray)), (false), (by first | rfl | (simp; done) | (simp [*]; done)), H', ⟨Nat.le_refl _⟩, ⟨by (with_reducible repeat (first | refine k2_ ?_ _ | refine k3_ ?_ | refine k1_ ?_ _)); exact BK323.out⟩, ⟨by repeat (with_reducible first | exact HB.out | apply p3_ | apply p1_ | apply p2_ | refine bs_ ?_ GE323.out)⟩⟩
 case round =>
  clear H'
  obtain ⟨x8_1, x324000_1, x324001_1, x324002_1, x324003_1, x324004_1, x324005_1, rfl, HA, HK1, BK323, HB⟩ := hrel
  cases gk with
  | zero => exact absurd HA.out (by simp [pinfoldref11_Of.l0])
  | succ k1 =>
   have H := HA.out
   clear HA
   simp only [pinfoldref11_Of.l0] at H
   have HC5 := am_ H
   clear H
   go_upto_region 2 with (fail)
   go_cut [16] (fun v16 wc => ∃ (kq : Nat) (x16_4 : Bool), v16 = .bool x16_4 ∧ Aside0 (pinfoldref11_Of.j1 kq l0 a1 a2 x8_1 x16_4 = some (r1, r2, r3, r4, r5, r6, r7)) ∧ Aside0 (kq ≤ k1) ∧ Aside0 (wc.heap[gb323]? = some (.cells #[.int .i64 x324000_1, .int .i64 x324001_1, .string x324002_1, .int .i64 x324003_1, .string x324004_1, .bool x324005_1] 36 (0, 0))) ∧ Aside0 (Below w.heap.size w wc))
   case first =>
    have H := HC5.out
    clear HC5
    by_cases c6 : x8_1 < (l0.length : Int)
    ·rw [if_pos c6] at H
     have c6b0 : decide (x8_1 < (l0.length : Int)) = true := decide_eq_true c6
     clear c6
     (first | rw [c6b0] | (simp only [i64_w, i32_w]; rw [c6b0]) | skip)
     replace H := e4_ H
     obtain ⟨t324, A70, H⟩ := H
     replace H : (pinfoldref11_Of.j1 k1 l0 a1 a2 x8_1 t324) = some (r1, r2, r3, r4, r5, r6, r7) := H
     have A7 := am_ A70
     clear A70
     have H' := am_ H
     clear H
     go_wp2_with (first | (go_at_call 15; (with_reducible refine (pinfoldref11_TableMay_c.calls _ _ l0 t324 _ ?side1 ?side2 A7.out).mono ?_); (case side1 => repeat (first | exact (c4_ HR0.out HB.out) | (with_reducible refine c1_ ?_ _) | (with_reducible refine c2_ ?_ _) | (with_reducible refine c3_ ?_))); (case side2 => exact HC0.out); rintro e w8 ⟨rfl, hb⟩; have n0_ := am_ (kb_ (g := gb323) (o := .cells #[.int .i64 x324000_1, .int .i64 x324001_1, .string x324002_1, .int .i64 x324003_1, .string x324004_1, .bool x324005_1] 36 (0, 0)) (by (with_reducible repeat (first | refine k2_ ?_ _ | refine k3_ ?_ | refine k1_ ?_ _)); exact BK323.out) hb); have n1_ := am_ (bt_ (by repeat (with_reducible first | exact HB.out | apply p3_ | apply p1_ | apply p2_ | refine bs_ ?_ GE323.out)) hb); clear BK323; clear HB; have BK323 := n0_; have HB := n1_; clear n0_ n1_; (try clear hb)))
     go_meet
     case rel => exact ⟨_, (t324), (by first | rfl | (simp; done) | (simp [*]; done)), H', ⟨by have := HK1.out; first | omega | exact Nat.le_refl _⟩, ⟨by (with_reducible repeat (first | refine k2_ ?_ _ | refine k3_ ?_ | refine k1_ ?_ _)); exact BK323.out⟩, ⟨by repeat (with_reducible first | exact HB.out | apply p3_ | apply p1_ | apply p2_ | refine bs_ ?_ GE323.out)⟩⟩
    rw [if_neg c6] at H
    have c6b0 : decide (x8_1 < (l0.length : Int)) = false := decide_eq_false c6
    clear c6
    (first | rw [c6b0] | (simp only [i64_w, i32_w]; rw [c6b0]) | skip)
    have H' := am_ H
    clear H
    go_wp2
    go_meet
    case rel => exact ⟨_, (false), (by first | rfl | (simp; done) | (simp [*]; done)), H', ⟨by have := HK1.out; first | omega | exact Nat.le_refl _⟩, ⟨by (with_reducible repeat (first | refine k2_ ?_ _ | refine k3_ ?_ | refine k1_ ?_ _)); exact BK323.out⟩, ⟨by repeat (with_reducible first | exact HB.out | apply p3_ | apply p1_ | apply p2_ | refine bs_ ?_ GE323.out)⟩⟩
   case rest =>
    clear HC5
    obtain ⟨kq, x16_4, rfl, HA, HJ4, BK323, HB⟩ := hcut
    cases kq with
    | zero => exact absurd HA.out (by simp [pinfoldref11_Of.j1])
    | succ kj4 =>
     have H := HA.out
     clear HA
     simp only [pinfoldref11_Of.j1] at H
     by_cases c9 : x16_4 = true
     ·subst c9
      have H1 : (if 0 ≤ x8_1 then (if x8_1 < (l0.length : Int) then ((pinfoldref11_his_c.f ((rd_T36 l0 x8_1).f0) ((rd_T36 l0 x8_1).f1) ((rd_T36 l0 x8_1).f2) ((rd_T36 l0 x8_1).f3) ((rd_T36 l0 x8_1).f4) ((rd_T36 l0 x8_1).f5) a1 a2).bind fun t326 => (if t326 = true then (some ((rd_T36 l0 x8_1).f0, (rd_T36 l0 x8_1).f1, (rd_T36 l0 x8_1).f2, (rd_T36 l0 x8_1).f3, (rd_T36 l0 x8_1).f4, (rd_T36 l0 x8_1).f5, true)) else (pinfoldref11_Of.l0 kj4 l0 a1 a2 (wrap64 (x8_1 + 1))))) else (none)) else (none)) = some (r1, r2, r3, r4, r5, r6, r7) := by rw [if_pos rfl] at H; exact H
      clear H
      have H := H1
      clear H1
      by_cases c10 : 0 ≤ x8_1
      rotate_left
      ·rw [if_neg c10] at H
       exact absurd H (by simp)
      rw [if_pos c10] at H
      have c10b0 : decide (0 ≤ x8_1) = true := decide_eq_true c10
      clear c10
      by_cases c11 : x8_1 < (l0.length : Int)
      rotate_left
      ·rw [if_neg c11] at H
       exact absurd H (by simp)
      rw [if_pos c11] at H
      have c11b0 : decide (x8_1 < (l0.length : Int)) = true := decide_eq_true c11
      clear c11
      replace H := e4_ H
      obtain ⟨t326, A120, H⟩ := H
      replace H : (if t326 = true then (some ((rd_T36 l0 x8_1).f0, (rd_T36 l0 x8_1).f1, (rd_T36 l0 x8_1).f2, (rd_T36 l0 x8_1).f3, (rd_T36 l0 x8_1).f4, (rd_T36 l0 x8_1).f5, true)) else (pinfoldref11_Of.l0 kj4 l0 a1 a2 (wrap64 (x8_1 + 1)))) = some (r1, r2, r3, r4, r5, r6, r7) := H
      have A12 := am_ A120
      clear A120
      by_cases c13 : t326 = true
      ·subst c13
       have H1 : (some ((rd_T36 l0 x8_1).f0, (rd_T36 l0 x8_1).f1, (rd_T36 l0 x8_1).f2, (rd_T36 l0 x8_1).f3, (rd_T36 l0 x8_1).f4, (rd_T36 l0 x8_1).f5, true)) = some (r1, r2, r3, r4, r5, r6, r7) := by rw [if_pos rfl] at H; exact H
       clear H
       have H := H1
       clear H1
       simp only [Option.some.injEq, Prod.mk.injEq] at H
       obtain ⟨rfl, rfl, rfl, rfl, rfl, rfl, rfl⟩ := H
       have p325 : 0 ≤ (x8_1 : Int) := of_decide_eq_true (by first | (with_reducible assumption) | assumption)
       have q325 : x8_1 < (l0.length : Int) := of_decide_eq_true (by first | (with_reducible assumption) | assumption)
       obtain ⟨ad325, e325, hx325_0, hx325_1, hx325_2, hx325_3, hx325_4, hx325_5⟩ := at_T36 HR0.out x8_1 p325 q325
       cases e325
       replace hx325_0 := (HB.out.cell (wb_ w _ hx325_0)).trans hx325_0
       replace hx325_1 := (HB.out.cell (wb_ w _ hx325_1)).trans hx325_1
       replace hx325_2 := (HB.out.cell (wb_ w _ hx325_2)).trans hx325_2
       replace hx325_3 := (HB.out.cell (wb_ w _ hx325_3)).trans hx325_3
       replace hx325_4 := (HB.out.cell (wb_ w _ hx325_4)).trans hx325_4
       replace hx325_5 := (HB.out.cell (wb_ w _ hx325_5)).trans hx325_5
       replace p325 := eq_true p325
       replace q325 := eq_true q325
       go_wp2_with (first | ((with_reducible refine gate_callee (f := 36) rfl ?_); refine goesL_ (some 25) rfl rfl Tryd.func36 (by kernel_rfl) rfl #[.agg #[.int .i64 ((rd_T36 l0 x8_1).f0), .int .i64 ((rd_T36 l0 x8_1).f1), .string ((rd_T36 l0 x8_1).f2), .int .i64 ((rd_T36 l0 x8_1).f3), .string ((rd_T36 l0 x8_1).f4), .bool ((rd_T36 l0 x8_1).f5)], .string a1, .int .i64 a2] rfl (by (try simp only [List.map_toArray, List.map_cons, List.map_nil]); first | done | rfl | (simp only [List.length_drop, List.length_take]; rfl)) ?_; (with_reducible refine (pinfoldref11_his_c.calls ((rd_T36 l0 x8_1).f0) ((rd_T36 l0 x8_1).f1) ((rd_T36 l0 x8_1).f2) ((rd_T36 l0 x8_1).f3) ((rd_T36 l0 x8_1).f4) ((rd_T36 l0 x8_1).f5) a1 a2 true _ A12.out).mono ?_); rintro e w14 ⟨rfl, hb⟩; refine ⟨_, rfl, ?_⟩; have n0_ := am_ (kb_ (g := gb323) (o := .cells #[.int .i64 x324000_1, .int .i64 x324001_1, .string x324002_1, .int .i64 x324003_1, .string x324004_1, .bool x324005_1] 36 (0, 0)) (by (with_reducible repeat (first | refine k2_ ?_ _ | refine k3_ ?_ | refine k1_ ?_ _)); exact BK323.out) hb); have n1_ := am_ (bt_ (by repeat (with_reducible first | exact HB.out | apply p3_ | apply p1_ | apply p2_ | refine bs_ ?_ GE323.out)) hb); clear BK323; clear HB; have BK323 := n0_; have HB := n1_; clear n0_ n1_; (try clear hb); have p327 : 0 ≤ (x8_1 : Int) := of_decide_eq_true (by first | (with_reducible assumption) | assumption); have q327 : x8_1 < (l0.length : Int) := of_decide_eq_true (by first | (with_reducible assumption) | assumption); obtain ⟨ad327, e327, hx327_0, hx327_1, hx327_2, hx327_3, hx327_4, hx327_5⟩ := at_T36 HR0.out x8_1 p327 q327; obtain rfl : ad325 = ad327 := (by injection e327); replace hx327_0 := (HB.out.cell (wb_ w _ hx327_0)).trans hx327_0; replace hx327_1 := (HB.out.cell (wb_ w _ hx327_1)).trans hx327_1; replace hx327_2 := (HB.out.cell (wb_ w _ hx327_2)).trans hx327_2; replace hx327_3 := (HB.out.cell (wb_ w _ hx327_3)).trans hx327_3; replace hx327_4 := (HB.out.cell (wb_ w _ hx327_4)).trans hx327_4; replace hx327_5 := (HB.out.cell (wb_ w _ hx327_5)).trans hx327_5; replace p327 := eq_true p327; replace q327 := eq_true q327; have hcz15_0 : w14.cell? ⟨gb323, 0, none⟩ = some (.int .i64 x324000_1) := (bc_ BK323.out 0).trans rfl; have hcz15_1 : w14.cell? ⟨gb323, 1, none⟩ = some (.int .i64 x324001_1) := (bc_ BK323.out 1).trans rfl; have hcz15_2 : w14.cell? ⟨gb323, 2, none⟩ = some (.string x324002_1) := (bc_ BK323.out 2).trans rfl; have hcz15_3 : w14.cell? ⟨gb323, 3, none⟩ = some (.int .i64 x324003_1) := (bc_ BK323.out 3).trans rfl; have hcz15_4 : w14.cell? ⟨gb323, 4, none⟩ = some (.string x324004_1) := (bc_ BK323.out 4).trans rfl; have hcz15_5 : w14.cell? ⟨gb323, 5, none⟩ = some (.bool x324005_1) := (bc_ BK323.out 5).trans rfl; have hfz15_0 := bf_ BK323.out 0; have hfz15_1 := bf_ BK323.out 1; have hfz15_2 := bf_ BK323.out 2; have hfz15_3 := bf_ BK323.out 3; have hfz15_4 := bf_ BK323.out 4; have hfz15_5 := bf_ BK323.out 5))
       refine bodyPost_ret (results_ct rfl _ _ gb323 36 #[.int .i64 ((rd_T36 l0 x8_1).f0), .int .i64 ((rd_T36 l0 x8_1).f1), .string ((rd_T36 l0 x8_1).f2), .int .i64 ((rd_T36 l0 x8_1).f3), .string ((rd_T36 l0 x8_1).f4), .bool ((rd_T36 l0 x8_1).f5)] (0, 0) _ rfl (by (with_reducible repeat (first | refine k2_ ?_ _ | refine k3_ ?_ | refine k1_ ?_ _)); refine blk_put (cs := #[.int .i64 ((rd_T36 l0 x8_1).f0), .int .i64 ((rd_T36 l0 x8_1).f1), .string ((rd_T36 l0 x8_1).f2), .int .i64 ((rd_T36 l0 x8_1).f3), .string ((rd_T36 l0 x8_1).f4), .bool x324005_1]) ?_ 5 _ rfl; (with_reducible repeat (first | refine k2_ ?_ _ | refine k3_ ?_ | refine k1_ ?_ _)); refine blk_put (cs := #[.int .i64 ((rd_T36 l0 x8_1).f0), .int .i64 ((rd_T36 l0 x8_1).f1), .string ((rd_T36 l0 x8_1).f2), .int .i64 ((rd_T36 l0 x8_1).f3), .string x324004_1, .bool x324005_1]) ?_ 4 _ rfl; (with_reducible repeat (first | refine k2_ ?_ _ | refine k3_ ?_ | refine k1_ ?_ _)); refine blk_put (cs := #[.int .i64 ((rd_T36 l0 x8_1).f0), .int .i64 ((rd_T36 l0 x8_1).f1), .string ((rd_T36 l0 x8_1).f2), .int .i64 x324003_1, .string x324004_1, .bool x324005_1]) ?_ 3 _ rfl; (with_reducible repeat (first | refine k2_ ?_ _ | refine k3_ ?_ | refine k1_ ?_ _)); refine blk_put (cs := #[.int .i64 ((rd_T36 l0 x8_1).f0), .int .i64 ((rd_T36 l0 x8_1).f1), .string x324002_1, .int .i64 x324003_1, .string x324004_1, .bool x324005_1]) ?_ 2 _ rfl; (with_reducible repeat (first | refine k2_ ?_ _ | refine k3_ ?_ | refine k1_ ?_ _)); refine blk_put (cs := #[.int .i64 ((rd_T36 l0 x8_1).f0), .int .i64 x324001_1, .string x324002_1, .int .i64 x324003_1, .string x324004_1, .bool x324005_1]) ?_ 1 _ rfl; (with_reducible repeat (first | refine k2_ ?_ _ | refine k3_ ?_ | refine k1_ ?_ _)); refine blk_put (cs := #[.int .i64 x324000_1, .int .i64 x324001_1, .string x324002_1, .int .i64 x324003_1, .string x324004_1, .bool x324005_1]) ?_ 0 _ rfl; (with_reducible repeat (first | refine k2_ ?_ _ | refine k3_ ?_ | refine k1_ ?_ _)); exact BK323.out) Tryd.underlying36 rfl (by kernel_rfl)) rfl ?_
       exact ⟨by first | rfl | (simp [errW_none, errW_some] <;> rfl) | (simp [*, errW_none, errW_some] <;> rfl), by repeat (with_reducible first | exact HB.out | apply p3_ | apply p1_ | apply p2_ | refine bs_ ?_ GE323.out)⟩
      replace c13 := e3_ c13
      subst c13
      have H1 : (pinfoldref11_Of.l0 kj4 l0 a1 a2 (wrap64 (x8_1 + 1))) = some (r1, r2, r3, r4, r5, r6, r7) := by rw [if_neg (show ¬ (false = true) by decide)] at H; exact H
      clear H
      have H := H1
      clear H1
      have H' := am_ H
      clear H
      have p325 : 0 ≤ (x8_1 : Int) := of_decide_eq_true (by first | (with_reducible assumption) | assumption)
      have q325 : x8_1 < (l0.length : Int) := of_decide_eq_true (by first | (with_reducible assumption) | assumption)
      obtain ⟨ad325, e325, hx325_0, hx325_1, hx325_2, hx325_3, hx325_4, hx325_5⟩ := at_T36 HR0.out x8_1 p325 q325
      cases e325
      replace hx325_0 := (HB.out.cell (wb_ w _ hx325_0)).trans hx325_0
      replace hx325_1 := (HB.out.cell (wb_ w _ hx325_1)).trans hx325_1
      replace hx325_2 := (HB.out.cell (wb_ w _ hx325_2)).trans hx325_2
      replace hx325_3 := (HB.out.cell (wb_ w _ hx325_3)).trans hx325_3
      replace hx325_4 := (HB.out.cell (wb_ w _ hx325_4)).trans hx325_4
      replace hx325_5 := (HB.out.cell (wb_ w _ hx325_5)).trans hx325_5
      replace p325 := eq_true p325
      replace q325 := eq_true q325
      go_wp2_with (first | ((with_reducible refine gate_callee (f := 36) rfl ?_); refine goesL_ (some 25) rfl rfl Tryd.func36 (by kernel_rfl) rfl #[.agg #[.int .i64 ((rd_T36 l0 x8_1).f0), .int .i64 ((rd_T36 l0 x8_1).f1), .string ((rd_T36 l0 x8_1).f2), .int .i64 ((rd_T36 l0 x8_1).f3), .string ((rd_T36 l0 x8_1).f4), .bool ((rd_T36 l0 x8_1).f5)], .string a1, .int .i64 a2] rfl (by (try simp only [List.map_toArray, List.map_cons, List.map_nil]); first | done | rfl | (simp only [List.length_drop, List.length_take]; rfl)) ?_; (with_reducible refine (pinfoldref11_his_c.calls ((rd_T36 l0 x8_1).f0) ((rd_T36 l0 x8_1).f1) ((rd_T36 l0 x8_1).f2) ((rd_T36 l0 x8_1).f3) ((rd_T36 l0 x8_1).f4) ((rd_T36 l0 x8_1).f5) a1 a2 false _ A12.out).mono ?_); rintro e w16 ⟨rfl, hb⟩; refine ⟨_, rfl, ?_⟩; have n0_ := am_ (kb_ (g := gb323) (o := .cells #[.int .i64 x324000_1, .int .i64 x324001_1, .string x324002_1, .int .i64 x324003_1, .string x324004_1, .bool x324005_1] 36 (0, 0)) (by (with_reducible repeat (first | refine k2_ ?_ _ | refine k3_ ?_ | refine k1_ ?_ _)); exact BK323.out) hb); have n1_ := am_ (bt_ (by repeat (with_reducible first | exact HB.out | apply p3_ | apply p1_ | apply p2_ | refine bs_ ?_ GE323.out)) hb); clear BK323; clear HB; have BK323 := n0_; have HB := n1_; clear n0_ n1_; (try clear hb)))
      go_roundg kj4
      case measure => have := HK1.out; have := HJ4.out; omega
      case rel => exact ⟨(wrap64 (x8_1 + 1)), (x324000_1), (x324001_1), (x324002_1), (x324003_1), (x324004_1), (x324005_1), (by first | rfl | (simp; done) | (simp [*]; done)), H', ⟨by have := HK1.out; have := HJ4.out; omega⟩, ⟨by (with_reducible repeat (first | refine k2_ ?_ _ | refine k3_ ?_ | refine k1_ ?_ _)); exact BK323.out⟩, ⟨by repeat (with_reducible first | exact HB.out | apply p3_ | apply p1_ | apply p2_ | refine bs_ ?_ GE323.out)⟩⟩
     replace c9 := e3_ c9
     subst c9
     have H1 : (some (0, 0, (⟨#[]⟩ : ByteArray), 0, (⟨#[]⟩ : ByteArray), false, false)) = some (r1, r2, r3, r4, r5, r6, r7) := by rw [if_neg (show ¬ (false = true) by decide)] at H; exact H
     clear H
     have H := H1
     clear H1
     simp only [Option.some.injEq, Prod.mk.injEq] at H
     obtain ⟨rfl, rfl, rfl, rfl, rfl, rfl, rfl⟩ := H
     have hcz17_0 : wc.cell? ⟨gb323, 0, none⟩ = some (.int .i64 x324000_1) := (bc_ BK323.out 0).trans rfl; have hcz17_1 : wc.cell? ⟨gb323, 1, none⟩ = some (.int .i64 x324001_1) := (bc_ BK323.out 1).trans rfl; have hcz17_2 : wc.cell? ⟨gb323, 2, none⟩ = some (.string x324002_1) := (bc_ BK323.out 2).trans rfl; have hcz17_3 : wc.cell? ⟨gb323, 3, none⟩ = some (.int .i64 x324003_1) := (bc_ BK323.out 3).trans rfl; have hcz17_4 : wc.cell? ⟨gb323, 4, none⟩ = some (.string x324004_1) := (bc_ BK323.out 4).trans rfl; have hcz17_5 : wc.cell? ⟨gb323, 5, none⟩ = some (.bool x324005_1) := (bc_ BK323.out 5).trans rfl; have hfz17_0 := bf_ BK323.out 0; have hfz17_1 := bf_ BK323.out 1; have hfz17_2 := bf_ BK323.out 2; have hfz17_3 := bf_ BK323.out 3; have hfz17_4 := bf_ BK323.out 4; have hfz17_5 := bf_ BK323.out 5
     go_wp2
     refine bodyPost_ret (results_ct rfl _ _ gb323 36 #[.int .i64 0, .int .i64 0, .string (⟨#[]⟩ : ByteArray), .int .i64 0, .string (⟨#[]⟩ : ByteArray), .bool false] (0, 0) _ rfl (by (with_reducible repeat (first | refine k2_ ?_ _ | refine k3_ ?_ | refine k1_ ?_ _)); refine blk_put (cs := #[.int .i64 0, .int .i64 0, .string (⟨#[]⟩ : ByteArray), .int .i64 0, .string (⟨#[]⟩ : ByteArray), .bool x324005_1]) ?_ 5 _ rfl; (with_reducible repeat (first | refine k2_ ?_ _ | refine k3_ ?_ | refine k1_ ?_ _)); refine blk_put (cs := #[.int .i64 0, .int .i64 0, .string (⟨#[]⟩ : ByteArray), .int .i64 0, .string x324004_1, .bool x324005_1]) ?_ 4 _ rfl; (with_reducible repeat (first | refine k2_ ?_ _ | refine k3_ ?_ | refine k1_ ?_ _)); refine blk_put (cs := #[.int .i64 0, .int .i64 0, .string (⟨#[]⟩ : ByteArray), .int .i64 x324003_1, .string x324004_1, .bool x324005_1]) ?_ 3 _ rfl; (with_reducible repeat (first | refine k2_ ?_ _ | refine k3_ ?_ | refine k1_ ?_ _)); refine blk_put (cs := #[.int .i64 0, .int .i64 0, .string x324002_1, .int .i64 x324003_1, .string x324004_1, .bool x324005_1]) ?_ 2 _ rfl; (with_reducible repeat (first | refine k2_ ?_ _ | refine k3_ ?_ | refine k1_ ?_ _)); refine blk_put (cs := #[.int .i64 0, .int .i64 x324001_1, .string x324002_1, .int .i64 x324003_1, .string x324004_1, .bool x324005_1]) ?_ 1 _ rfl; (with_reducible repeat (first | refine k2_ ?_ _ | refine k3_ ?_ | refine k1_ ?_ _)); refine blk_put (cs := #[.int .i64 x324000_1, .int .i64 x324001_1, .string x324002_1, .int .i64 x324003_1, .string x324004_1, .bool x324005_1]) ?_ 0 _ rfl; (with_reducible repeat (first | refine k2_ ?_ _ | refine k3_ ?_ | refine k1_ ?_ _)); exact BK323.out) Tryd.underlying36 rfl (by kernel_rfl)) rfl ?_
     exact ⟨by first | rfl | (simp [errW_none, errW_some] <;> rfl) | (simp [*, errW_none, errW_some] <;> rfl), by repeat (with_reducible first | exact HB.out | apply p3_ | apply p1_ | apply p2_ | refine bs_ ?_ GE323.out)⟩

/-! ### pinfoldref11_Of_c: function 18 -/
theorem refof_l0 (ls : List S36) (ht : tabFitR ls) (c : ByteArray) (now : Int) : ∀ (d k i : Nat), i + d = ls.length → 2 * d + 2 ≤ k → pinfoldref11_Of.l0 k ls c now (i : Int) = some ((gotL (if tableB ls = true then (ls.drop i).find? (holdsX c now) else none)).f0, (gotL (if tableB ls = true then (ls.drop i).find? (holdsX c now) else none)).f1, (gotL (if tableB ls = true then (ls.drop i).find? (holdsX c now) else none)).f2, (gotL (if tableB ls = true then (ls.drop i).find? (holdsX c now) else none)).f3, (gotL (if tableB ls = true then (ls.drop i).find? (holdsX c now) else none)).f4, (gotL (if tableB ls = true then (ls.drop i).find? (holdsX c now) else none)).f5, (if tableB ls = true then (ls.drop i).find? (holdsX c now) else none).isSome)
 | 0, k, i, hi, hk => by
  obtain ⟨k, rfl⟩ : ∃ j, k = j + 2 := ⟨k - 2, by omega⟩
  rw [List.drop_eq_nil_of_le (by omega), pinfoldref11_Of.l0, if_neg (by omega), pinfoldref11_Of.j1, if_neg (by decide), List.find?_nil, ite_self]
  rfl
 | d + 1, k, i, hi, hk => by
  obtain ⟨k, rfl⟩ : ∃ j, k = j + 2 := ⟨k - 2, by omega⟩
  have hlt : i < ls.length := by omega
  have ih := refof_l0 ls ht c now d k (i + 1) (by omega) (by omega)
  rw [pinfoldref11_Of.l0, if_pos (by omega)]
  unfold pinfoldref11_TableMay_c.f
  rw [if_pos ht, Option.bind_some, pinfoldref11_Of.j1, List.drop_eq_getElem_cons hlt]
  cases hT : tableB ls with
  | false => rfl
  | true =>
   have hsz := ht.2 ls[i] (List.getElem_mem hlt)
   rw [hT] at ih
   rw [if_pos rfl, if_pos (by omega), if_pos (by omega), wrap_succ i ls.length hlt ht.1, ih, rdLease_get ls i hlt]
   unfold pinfoldref11_his_c.f
   rw [if_pos hsz, Option.bind_some]
   have e1 : holdsB ls[i].f0 ls[i].f1 ls[i].f2 ls[i].f3 ls[i].f4 ls[i].f5 c now = holdsX c now ls[i] := rfl
   rw [e1]
   simp only [if_true] at ih ⊢
   rw [List.find?_cons]
   cases holdsX c now ls[i] <;> rfl
def pinfoldref11_Of_c.f (l1 : List S36) (client : ByteArray) (now : Int) : Option (Int × Int × ByteArray × Int × ByteArray × Bool × Bool) := if tabFitR l1 then some ((gotL (ofL l1 client now)).f0, (gotL (ofL l1 client now)).f1, (gotL (ofL l1 client now)).f2, (gotL (ofL l1 client now)).f3, (gotL (ofL l1 client now)).f4, (gotL (ofL l1 client now)).f5, (ofL l1 client now).isSome) else none
theorem pinfoldref11_Of_c.calls (A0 : Option Addr) (c0 : Nat) (l0 : List S36) (a1 : ByteArray) (a2 : Int) (r1 : Int) (r2 : Int) (r3 : ByteArray) (r4 : Int) (r5 : ByteArray) (r6 : Bool) (r7 : Bool) (w : World) (hr0 : Kd.C k36 w A0 l0.length l0) (hc0 : l0.length ≤ c0) (h : pinfoldref11_Of_c.f l0 a1 a2 = some (r1, r2, r3, r4, r5, r6, r7)) :
  Calls Tryd.prog 18 #[.slice A0 l0.length c0, .string a1, .int .i64 a2] w fun e w' => e = .returned (.tuple #[.agg #[.int .i64 r1, .int .i64 r2, .string r3, .int .i64 r4, .string r5, .bool r6], .bool r7]) ∧ Below w.heap.size w w' := by
 unfold pinfoldref11_Of_c.f at h
 by_cases hs : tabFitR l0
 ·rw [if_pos hs] at h
  have hof := refof_l0 l0 hs a1 a2 l0.length (2 * l0.length + 2) 0 (by omega) (by omega)
  rw [List.drop_zero, show ((0 : Nat) : Int) = 0 from rfl] at hof
  exact pinfoldref11_Of.calls (2 * l0.length + 2) A0 c0 l0 a1 a2 r1 r2 r3 r4 r5 r6 r7 w hr0 hc0 (hof.trans h)
 ·rw [if_neg hs] at h
  cases h

/-! ### pinfoldlaw17_ClaimTwice: function 7 -/
def pinfoldlaw17_ClaimTwice.j0 : Nat → Int → ByteArray → List (S36) → Int → Int → Bool → Int → Int → List Int → List (S72) → Int → ByteArray → List (S74) → Bool → Int → Int → Int → ByteArray → Option (Bool)
 | 0, _, _, _, _, _, _, _, _, _, _, _, _, _, _, _, _, _, _ => none
 | k + 1, x2, x3, x11, x13, x14, x44, x329000, x329001, x329002, x329003, x329004, x329005, x329006, x330000, x330001, x330002, x330003, x330004 => if x44 = true then ((pinfoldlaw0_Num.f x14).bind fun t338 => (if t338 = 0 then (some true) else (some ((x11.length : Int) == 0)))) else ((claim_Claim.f x329000 x329001 x329002 x329003 x329004 x329005 x329006 x11 x2 x3 x330000 x330001 x330002 x330003 x330004).bind fun bt339 => ((claim_Claim.f x329000 x329001 x329002 x329003 x329004 x329005 x329006 x11 x2 x3 false 0 0 x13 (⟨#[]⟩ : ByteArray)).bind fun bt345 => ((pinfoldref11_Of_c.f x11 x3 x2).bind fun bt351 => (if bt339.2.1 = 1 then (if bt339.2.2.1 = x13 then ((pinfoldlaw0_Num.f bt339.2.2.2).bind fun t359 => (if t359 = 0 then ((pinfoldlaw0_SameLeases.f k x11 bt339.1).bind fun t360 => (if t360 = true then (if bt345.2.1 = 1 then (if bt345.2.2.1 = x13 then ((pinfoldlaw0_Num.f bt345.2.2.2).bind fun t361 => (if t361 = 0 then ((pinfoldlaw0_SameLeases.f k x11 bt345.1).bind fun t362 => (if t362 = true then (if bt351.2.2.2.2.2.2 = true then (some (bt351.1 == x13)) else (none)) else (none))) else (none))) else (none)) else (none)) else (none))) else (none))) else (none)) else (none)))))
def pinfoldlaw17_ClaimTwice.f (k : Nat) (a0_0 : Int) (a0_1 : Int) (l0_2 : List Int) (l0_3 : List (S72)) (a0_4 : Int) (a0_5 : ByteArray) (l0_6 : List (S74)) (l1 : List (S36)) (a2 : Int) (a3 : ByteArray) (a4_0 : Bool) (a4_1 : Int) (a4_2 : Int) (a4_3 : Int) (a4_4 : ByteArray) : Option (Bool) := (pinfoldlaw17_awake.f).bind fun t330 => (if t330 = true then ((claim_Claim.f a0_0 a0_1 l0_2 l0_3 a0_4 a0_5 l0_6 l1 a2 a3 a4_0 a4_1 a4_2 a4_3 a4_4).bind fun bt331 => ((pinfoldlaw0_Num.f bt331.2.2.2).bind fun t337 => (if t337 = 0 then (pinfoldlaw17_ClaimTwice.j0 k a2 a3 bt331.1 bt331.2.2.1 bt331.2.2.2 (bt331.2.1 != 1) a0_0 a0_1 l0_2 l0_3 a0_4 a0_5 l0_6 a4_0 a4_1 a4_2 a4_3 a4_4) else (pinfoldlaw17_ClaimTwice.j0 k a2 a3 bt331.1 bt331.2.2.1 bt331.2.2.2 true a0_0 a0_1 l0_2 l0_3 a0_4 a0_5 l0_6 a4_0 a4_1 a4_2 a4_3 a4_4)))) else (none))
theorem pinfoldlaw17_ClaimTwice.mono_l : ∀ k, (∀ y0 y1 y2 y3 y4 y5 y6 y7 y8 y9 y10 y11 y12 y13 y14 y15 y16 y17, LeO (pinfoldlaw17_ClaimTwice.j0 k y0 y1 y2 y3 y4 y5 y6 y7 y8 y9 y10 y11 y12 y13 y14 y15 y16 y17) (pinfoldlaw17_ClaimTwice.j0 (k + 1) y0 y1 y2 y3 y4 y5 y6 y7 y8 y9 y10 y11 y12 y13 y14 y15 y16 y17))
 | 0 => fun _ _ _ _ _ _ _ _ _ _ _ _ _ _ _ _ _ _ r h => by simp [pinfoldlaw17_ClaimTwice.j0] at h
 | k + 1 => by
  have ih0 := pinfoldlaw17_ClaimTwice.mono_l k
  ·intro y0 y1 y2 y3 y4 y5 y6 y7 y8 y9 y10 y11 y12 y13 y14 y15 y16 y17
   unfold pinfoldlaw17_ClaimTwice.j0
   repeat' first
   | (with_reducible exact ih0 _ _ _ _ _ _ _ _ _ _ _ _ _ _ _ _ _ _)
   | (with_reducible exact pinfoldlaw0_SameLeases.mono _ _ _)
   | (with_reducible exact LeO.refl _)
   | (with_reducible exact LeO.none _)
   | (with_reducible refine LeO.ite ?_ ?_)
   | (with_reducible refine LeO.bind ?_ (fun _ => ?_))
   | exact ih0 _ _ _ _ _ _ _ _ _ _ _ _ _ _ _ _ _ _
   | exact pinfoldlaw0_SameLeases.mono _ _ _
   | exact LeO.none _
   | refine LeO.ite ?_ ?_
   | refine LeO.bind ?_ (fun _ => ?_)
theorem pinfoldlaw17_ClaimTwice.mono : ∀ a0 a1 a2 a3 a4 a5 a6 a7 a8 a9 a10 a11 a12 a13 a14 k, LeO (pinfoldlaw17_ClaimTwice.f k a0 a1 a2 a3 a4 a5 a6 a7 a8 a9 a10 a11 a12 a13 a14) (pinfoldlaw17_ClaimTwice.f (k + 1) a0 a1 a2 a3 a4 a5 a6 a7 a8 a9 a10 a11 a12 a13 a14) := by
 intro a0 a1 a2 a3 a4 a5 a6 a7 a8 a9 a10 a11 a12 a13 a14 k
 have ih0 := pinfoldlaw17_ClaimTwice.mono_l k
 unfold pinfoldlaw17_ClaimTwice.f
 repeat' first
   | (with_reducible exact ih0 _ _ _ _ _ _ _ _ _ _ _ _ _ _ _ _ _ _)
   | (with_reducible exact pinfoldlaw0_SameLeases.mono _ _ _)
   | (with_reducible exact LeO.refl _)
   | (with_reducible exact LeO.none _)
   | (with_reducible refine LeO.ite ?_ ?_)
   | (with_reducible refine LeO.bind ?_ (fun _ => ?_))
   | exact ih0 _ _ _ _ _ _ _ _ _ _ _ _ _ _ _ _ _ _
   | exact pinfoldlaw0_SameLeases.mono _ _ _
   | exact LeO.none _
   | refine LeO.ite ?_ ?_
   | refine LeO.bind ?_ (fun _ => ?_)
set_option maxHeartbeats 8000000 in
set_option maxRecDepth 100000 in
theorem pinfoldlaw17_ClaimTwice.calls (k : Nat) (a0_0 : Int) (a0_1 : Int) (A0_2 : Option Addr) (c0_2 : Nat) (l0_2 : List Int) (A0_3 : Option Addr) (c0_3 : Nat) (l0_3 : List (S72)) (a0_4 : Int) (a0_5 : ByteArray) (A0_6 : Option Addr) (c0_6 : Nat) (l0_6 : List (S74)) (A1 : Option Addr) (c1 : Nat) (l1 : List (S36)) (a2 : Int) (a3 : ByteArray) (a4_0 : Bool) (a4_1 : Int) (a4_2 : Int) (a4_3 : Int) (a4_4 : ByteArray) (r : Bool) (w : World) (hr0_2 : Kd.C (Kd.int .i64) w A0_2 l0_2.length l0_2) (hc0_2 : l0_2.length ≤ c0_2) (hr0_3 : Kd.C k72 w A0_3 l0_3.length l0_3) (hc0_3 : l0_3.length ≤ c0_3) (hr0_6 : Kd.C k74 w A0_6 l0_6.length l0_6) (hc0_6 : l0_6.length ≤ c0_6) (hr1 : Kd.C k36 w A1 l1.length l1) (hc1 : l1.length ≤ c1) (h : pinfoldlaw17_ClaimTwice.f k a0_0 a0_1 l0_2 l0_3 a0_4 a0_5 l0_6 l1 a2 a3 a4_0 a4_1 a4_2 a4_3 a4_4 = some r) :
  Calls Tryd.prog 7 #[.agg #[.int .i64 a0_0, .int .i64 a0_1, .slice A0_2 l0_2.length c0_2, .slice A0_3 l0_3.length c0_3, .int .i64 a0_4, .string a0_5, .slice A0_6 l0_6.length c0_6], .slice A1 l1.length c1, .int .i64 a2, .string a3, .agg #[.bool a4_0, .int .i64 a4_1, .int .i64 a4_2, .int .i64 a4_3, .string a4_4]] w fun e w' => e = .returned (.bool r) ∧ Below w.heap.size w w' := by
 have hu26 := Tryd.underlying26
 have hu29 := Tryd.underlying29
 have hu36 := Tryd.underlying36
 have HR0_2 := am_ hr0_2
 have HC0_2 := am_ hc0_2
 clear hr0_2 hc0_2
 have HR0_3 := am_ hr0_3
 have HC0_3 := am_ hc0_3
 clear hr0_3 hc0_3
 have HR0_6 := am_ hr0_6
 have HC0_6 := am_ hc0_6
 clear hr0_6 hc0_6
 have HR1 := am_ hr1
 have HC1 := am_ hc1
 clear hr1 hc1
 have HB := am_ (Below.refl w.heap.size w)
 have H : ((pinfoldlaw17_awake.f).bind fun t330 => (if t330 = true then ((claim_Claim.f a0_0 a0_1 l0_2 l0_3 a0_4 a0_5 l0_6 l1 a2 a3 a4_0 a4_1 a4_2 a4_3 a4_4).bind fun bt331 => ((pinfoldlaw0_Num.f bt331.2.2.2).bind fun t337 => (if t337 = 0 then (pinfoldlaw17_ClaimTwice.j0 k a2 a3 bt331.1 bt331.2.2.1 bt331.2.2.2 (bt331.2.1 != 1) a0_0 a0_1 l0_2 l0_3 a0_4 a0_5 l0_6 a4_0 a4_1 a4_2 a4_3 a4_4) else (pinfoldlaw17_ClaimTwice.j0 k a2 a3 bt331.1 bt331.2.2.1 bt331.2.2.2 true a0_0 a0_1 l0_2 l0_3 a0_4 a0_5 l0_6 a4_0 a4_1 a4_2 a4_3 a4_4)))) else (none))) = some r := h
 clear h
 replace H := e4_ H
 obtain ⟨t330, A60, H⟩ := H
 replace H : (if t330 = true then ((claim_Claim.f a0_0 a0_1 l0_2 l0_3 a0_4 a0_5 l0_6 l1 a2 a3 a4_0 a4_1 a4_2 a4_3 a4_4).bind fun bt331 => ((pinfoldlaw0_Num.f bt331.2.2.2).bind fun t337 => (if t337 = 0 then (pinfoldlaw17_ClaimTwice.j0 k a2 a3 bt331.1 bt331.2.2.1 bt331.2.2.2 (bt331.2.1 != 1) a0_0 a0_1 l0_2 l0_3 a0_4 a0_5 l0_6 a4_0 a4_1 a4_2 a4_3 a4_4) else (pinfoldlaw17_ClaimTwice.j0 k a2 a3 bt331.1 bt331.2.2.1 bt331.2.2.2 true a0_0 a0_1 l0_2 l0_3 a0_4 a0_5 l0_6 a4_0 a4_1 a4_2 a4_3 a4_4)))) else (none)) = some r := H
 have A6 := am_ A60
 clear A60
 by_cases c7 : t330 = true
 ·subst c7
  have H1 : ((claim_Claim.f a0_0 a0_1 l0_2 l0_3 a0_4 a0_5 l0_6 l1 a2 a3 a4_0 a4_1 a4_2 a4_3 a4_4).bind fun bt331 => ((pinfoldlaw0_Num.f bt331.2.2.2).bind fun t337 => (if t337 = 0 then (pinfoldlaw17_ClaimTwice.j0 k a2 a3 bt331.1 bt331.2.2.1 bt331.2.2.2 (bt331.2.1 != 1) a0_0 a0_1 l0_2 l0_3 a0_4 a0_5 l0_6 a4_0 a4_1 a4_2 a4_3 a4_4) else (pinfoldlaw17_ClaimTwice.j0 k a2 a3 bt331.1 bt331.2.2.1 bt331.2.2.2 true a0_0 a0_1 l0_2 l0_3 a0_4 a0_5 l0_6 a4_0 a4_1 a4_2 a4_3 a4_4)))) = some r := by rw [if_pos rfl] at H; exact H
  clear H
  have H := H1
  clear H1
  replace H := e4_ H
  obtain ⟨⟨t331, t334, t335, t336⟩, A80, H⟩ := H
  replace H : ((pinfoldlaw0_Num.f t336).bind fun t337 => (if t337 = 0 then (pinfoldlaw17_ClaimTwice.j0 k a2 a3 t331 t335 t336 (t334 != 1) a0_0 a0_1 l0_2 l0_3 a0_4 a0_5 l0_6 a4_0 a4_1 a4_2 a4_3 a4_4) else (pinfoldlaw17_ClaimTwice.j0 k a2 a3 t331 t335 t336 true a0_0 a0_1 l0_2 l0_3 a0_4 a0_5 l0_6 a4_0 a4_1 a4_2 a4_3 a4_4))) = some r := H
  have A8 := am_ A80
  clear A80
  have HC9 := am_ H
  clear H
  go_enter Tryd.func7, Tryd.ntmps7
  go_upto_region 4 with (first | ((with_reducible refine gate_dst (N := 5) rfl ?_); (try (refine gate_guard (by rfl) ?_; dsimp only)); refine box_event ?hg (N := 5) ?hd (cs := #[.int .i64 a0_0, .int .i64 a0_1, .slice A0_2 l0_2.length c0_2, .slice A0_3 l0_3.length c0_3, .int .i64 a0_4, .string a0_5, .slice A0_6 l0_6.length c0_6]) (t := 26) ?hr ?_; (case hd => rfl); (case hg => rfl); (case hr => first | (go_simp; done) | (go_simp; rfl)); intro gb328 hg w10 hbox hb; have n0_ := am_ (bt_ (by repeat (with_reducible first | exact HB.out | apply p3_ | apply p1_ | apply p2_)) hb); have n1_ := am_ (hbox); have n2_ := am_ ((by rw [hg]; exact (bz_ (by repeat (with_reducible first | exact HB.out | apply p3_ | apply p1_ | apply p2_))) : w.heap.size ≤ gb328)); have n3_ := am_ ((by rw [hg]; exact (bz_ (by repeat (with_reducible first | exact HB.out | apply p3_ | apply p1_ | apply p2_))) : w.heap.size ≤ gb328)); clear HB; have HB := n0_; have BK328 := n1_; have GW328 := n2_; have GE328 := n3_; clear n0_ n1_ n2_ n3_; clear hb hbox hg) | ((with_reducible refine gate_dst (N := 9) rfl ?_); (try (refine gate_guard (by rfl) ?_; dsimp only)); refine box_event ?hg (N := 9) ?hd (cs := #[.bool a4_0, .int .i64 a4_1, .int .i64 a4_2, .int .i64 a4_3, .string a4_4]) (t := 29) ?hr ?_; (case hd => rfl); (case hg => rfl); (case hr => first | (go_simp; done) | (go_simp; rfl)); intro gb329 hg w11 hbox hb; have n0_ := am_ (kb_ (g := gb328) (o := .cells #[.int .i64 a0_0, .int .i64 a0_1, .slice A0_2 l0_2.length c0_2, .slice A0_3 l0_3.length c0_3, .int .i64 a0_4, .string a0_5, .slice A0_6 l0_6.length c0_6] 26 (0, 0)) (by (with_reducible repeat (first | refine k2_ ?_ _ | refine k3_ ?_ | refine k1_ ?_ _)); exact BK328.out) hb); have n1_ := am_ (bt_ (by repeat (with_reducible first | exact HB.out | apply p3_ | apply p1_ | apply p2_ | refine bs_ ?_ GE328.out)) hb); have n2_ := am_ (hbox); have n3_ := am_ ((by rw [hg]; exact (bz_ (by repeat (with_reducible first | exact HB.out | apply p3_ | apply p1_ | apply p2_ | refine bs_ ?_ GE328.out))) : w.heap.size ≤ gb329)); have n4_ := am_ ((by rw [hg]; exact (bz_ (by repeat (with_reducible first | exact HB.out | apply p3_ | apply p1_ | apply p2_ | refine bs_ ?_ GE328.out))) : w.heap.size ≤ gb329)); have n5_ := am_ ((by rw [hg]; exact Nat.ne_of_lt (blk_lt (g := gb328) (o := .cells #[.int .i64 a0_0, .int .i64 a0_1, .slice A0_2 l0_2.length c0_2, .slice A0_3 l0_3.length c0_3, .int .i64 a0_4, .string a0_5, .slice A0_6 l0_6.length c0_6] 26 (0, 0)) (by (with_reducible repeat (first | refine k2_ ?_ _ | refine k3_ ?_ | refine k1_ ?_ _)); exact BK328.out)) : gb328 ≠ gb329)); have n6_ := am_ ((by rw [hg]; exact Nat.ne_of_gt (blk_lt (g := gb328) (o := .cells #[.int .i64 a0_0, .int .i64 a0_1, .slice A0_2 l0_2.length c0_2, .slice A0_3 l0_3.length c0_3, .int .i64 a0_4, .string a0_5, .slice A0_6 l0_6.length c0_6] 26 (0, 0)) (by (with_reducible repeat (first | refine k2_ ?_ _ | refine k3_ ?_ | refine k1_ ?_ _)); exact BK328.out)) : gb329 ≠ gb328)); clear BK328; clear HB; have BK328 := n0_; have HB := n1_; have BK329 := n2_; have GW329 := n3_; have GE329 := n4_; have NB328_329 := n5_; have NB329_328 := n6_; clear n0_ n1_ n2_ n3_ n4_ n5_ n6_; clear hb hbox hg) | ((with_reducible refine gate_callee (f := 8) rfl ?_); refine goesL_ (some 25) rfl rfl Tryd.func8 (by kernel_rfl) rfl #[] rfl (by (try simp only [List.map_toArray, List.map_cons, List.map_nil]); first | done | rfl | (simp only [List.length_drop, List.length_take]; rfl)) ?_; (with_reducible refine (pinfoldlaw17_awake.calls  true _ A6.out).mono ?_); rintro e w12 ⟨rfl, hb⟩; refine ⟨_, rfl, ?_⟩; have n0_ := am_ (kb_ (g := gb328) (o := .cells #[.int .i64 a0_0, .int .i64 a0_1, .slice A0_2 l0_2.length c0_2, .slice A0_3 l0_3.length c0_3, .int .i64 a0_4, .string a0_5, .slice A0_6 l0_6.length c0_6] 26 (0, 0)) (by (with_reducible repeat (first | refine k2_ ?_ _ | refine k3_ ?_ | refine k1_ ?_ _)); exact BK328.out) hb); have n1_ := am_ (kb_ (g := gb329) (o := .cells #[.bool a4_0, .int .i64 a4_1, .int .i64 a4_2, .int .i64 a4_3, .string a4_4] 29 (0, 0)) (by (with_reducible repeat (first | refine k2_ ?_ _ | refine k3_ ?_ | refine k1_ ?_ _)); exact BK329.out) hb); have n2_ := am_ (bt_ (by repeat (with_reducible first | exact HB.out | apply p3_ | apply p1_ | apply p2_ | refine bs_ ?_ GE328.out | refine bs_ ?_ GE329.out)) hb); clear BK328; clear BK329; clear HB; have BK328 := n0_; have BK329 := n1_; have HB := n2_; clear n0_ n1_ n2_; (try clear hb); have hnb13 := NB328_329.out; have hnc13 := NB329_328.out; have hcz14_0 : w12.cell? ⟨gb328, 0, none⟩ = some (.int .i64 a0_0) := (bc_ BK328.out 0).trans rfl; have hcz14_1 : w12.cell? ⟨gb328, 1, none⟩ = some (.int .i64 a0_1) := (bc_ BK328.out 1).trans rfl; have hcz14_2 : w12.cell? ⟨gb328, 2, none⟩ = some (.slice A0_2 l0_2.length c0_2) := (bc_ BK328.out 2).trans rfl; have hcz14_3 : w12.cell? ⟨gb328, 3, none⟩ = some (.slice A0_3 l0_3.length c0_3) := (bc_ BK328.out 3).trans rfl; have hcz14_4 : w12.cell? ⟨gb328, 4, none⟩ = some (.int .i64 a0_4) := (bc_ BK328.out 4).trans rfl; have hcz14_5 : w12.cell? ⟨gb328, 5, none⟩ = some (.string a0_5) := (bc_ BK328.out 5).trans rfl; have hcz14_6 : w12.cell? ⟨gb328, 6, none⟩ = some (.slice A0_6 l0_6.length c0_6) := (bc_ BK328.out 6).trans rfl; have hfz14_0 := bf_ BK328.out 0; have hfz14_1 := bf_ BK328.out 1; have hfz14_2 := bf_ BK328.out 2; have hfz14_3 := bf_ BK328.out 3; have hfz14_4 := bf_ BK328.out 4; have hfz14_5 := bf_ BK328.out 5; have hfz14_6 := bf_ BK328.out 6; have hcz15_0 : w12.cell? ⟨gb329, 0, none⟩ = some (.bool a4_0) := (bc_ BK329.out 0).trans rfl; have hcz15_1 : w12.cell? ⟨gb329, 1, none⟩ = some (.int .i64 a4_1) := (bc_ BK329.out 1).trans rfl; have hcz15_2 : w12.cell? ⟨gb329, 2, none⟩ = some (.int .i64 a4_2) := (bc_ BK329.out 2).trans rfl; have hcz15_3 : w12.cell? ⟨gb329, 3, none⟩ = some (.int .i64 a4_3) := (bc_ BK329.out 3).trans rfl; have hcz15_4 : w12.cell? ⟨gb329, 4, none⟩ = some (.string a4_4) := (bc_ BK329.out 4).trans rfl; have hfz15_0 := bf_ BK329.out 0; have hfz15_1 := bf_ BK329.out 1; have hfz15_2 := bf_ BK329.out 2; have hfz15_3 := bf_ BK329.out 3; have hfz15_4 := bf_ BK329.out 4) | ((with_reducible refine gate_callee (f := 9) rfl ?_); refine goesL_ (some 33) rfl rfl Tryd.func9 (by kernel_rfl) rfl #[.agg #[.int .i64 a0_0, .int .i64 a0_1, .slice A0_2 l0_2.length c0_2, .slice A0_3 l0_3.length c0_3, .int .i64 a0_4, .string a0_5, .slice A0_6 l0_6.length c0_6], .slice A1 l1.length c1, .int .i64 a2, .string a3, .agg #[.bool a4_0, .int .i64 a4_1, .int .i64 a4_2, .int .i64 a4_3, .string a4_4]] rfl (by (try simp only [List.map_toArray, List.map_cons, List.map_nil]); first | done | rfl | (simp only [List.length_drop, List.length_take]; rfl)) ?_; (with_reducible refine (claim_Claim.calls a0_0 a0_1 _ _ l0_2 _ _ l0_3 a0_4 a0_5 _ _ l0_6 _ _ l1 a2 a3 a4_0 a4_1 a4_2 a4_3 a4_4 t331 t334 t335 t336 _ ?side1 ?side2 ?side3 ?side4 ?side5 ?side6 ?side7 ?side8 A8.out).mono ?_); (case side1 => repeat (first | exact (c4_ HR0_2.out HB.out) | (with_reducible refine c1_ ?_ _) | (with_reducible refine c2_ ?_ _) | (with_reducible refine c3_ ?_))); (case side2 => exact HC0_2.out); (case side3 => repeat (first | exact (c4_ HR0_3.out HB.out) | (with_reducible refine c1_ ?_ _) | (with_reducible refine c2_ ?_ _) | (with_reducible refine c3_ ?_))); (case side4 => exact HC0_3.out); (case side5 => repeat (first | exact (c4_ HR0_6.out HB.out) | (with_reducible refine c1_ ?_ _) | (with_reducible refine c2_ ?_ _) | (with_reducible refine c3_ ?_))); (case side6 => exact HC0_6.out); (case side7 => repeat (first | exact (c4_ HR1.out HB.out) | (with_reducible refine c1_ ?_ _) | (with_reducible refine c2_ ?_ _) | (with_reducible refine c3_ ?_))); (case side8 => exact HC1.out); rintro e w16 ⟨v332, rfl, ho0, hb⟩; refine ⟨_, rfl, ?_⟩; have n0_ := am_ (Kd.R_lower ho0 (bz_ (by repeat (with_reducible first | exact HB.out | apply p3_ | apply p1_ | apply p2_ | refine bs_ ?_ GE328.out | refine bs_ ?_ GE329.out)))); have n1_ := am_ (kb_ (g := gb328) (o := .cells #[.int .i64 a0_0, .int .i64 a0_1, .slice A0_2 l0_2.length c0_2, .slice A0_3 l0_3.length c0_3, .int .i64 a0_4, .string a0_5, .slice A0_6 l0_6.length c0_6] 26 (0, 0)) (by (with_reducible repeat (first | refine k2_ ?_ _ | refine k3_ ?_ | refine k1_ ?_ _)); exact BK328.out) hb); have n2_ := am_ (kb_ (g := gb329) (o := .cells #[.bool a4_0, .int .i64 a4_1, .int .i64 a4_2, .int .i64 a4_3, .string a4_4] 29 (0, 0)) (by (with_reducible repeat (first | refine k2_ ?_ _ | refine k3_ ?_ | refine k1_ ?_ _)); exact BK329.out) hb); have n3_ := am_ (bt_ (by repeat (with_reducible first | exact HB.out | apply p3_ | apply p1_ | apply p2_ | refine bs_ ?_ GE328.out | refine bs_ ?_ GE329.out)) hb); clear BK328; clear BK329; clear HB; have HO333 := n0_; have BK328 := n1_; have BK329 := n2_; have HB := n3_; clear n0_ n1_ n2_ n3_; (try clear hb); (try clear ho0)))
  (try simp only [Act.put, sa_, sb_, sc_])
  go_cut [44] (fun v44 wc => ∃ (kq : Nat) (x44_8 : Bool), v44 = .bool x44_8 ∧ Aside0 (pinfoldlaw17_ClaimTwice.j0 kq a2 a3 t331 t335 t336 x44_8 a0_0 a0_1 l0_2 l0_3 a0_4 a0_5 l0_6 a4_0 a4_1 a4_2 a4_3 a4_4 = some r) ∧ Aside0 (kq ≤ k) ∧ Aside0 (Kd.R k36 36 wc w.heap.size (fun _ => True) v332 t331) ∧ Aside0 (wc.heap[gb328]? = some (.cells #[.int .i64 a0_0, .int .i64 a0_1, (.slice A0_2 l0_2.length c0_2), (.slice A0_3 l0_3.length c0_3), .int .i64 a0_4, .string a0_5, (.slice A0_6 l0_6.length c0_6)] 26 (0, 0))) ∧ Aside0 (wc.heap[gb329]? = some (.cells #[.bool a4_0, .int .i64 a4_1, .int .i64 a4_2, .int .i64 a4_3, .string a4_4] 29 (0, 0))) ∧ Aside0 (Below w.heap.size w wc))
  case first =>
   have H := HC9.out
   clear HC9
   replace H := e4_ H
   obtain ⟨t337, A170, H⟩ := H
   replace H : (if t337 = 0 then (pinfoldlaw17_ClaimTwice.j0 k a2 a3 t331 t335 t336 (t334 != 1) a0_0 a0_1 l0_2 l0_3 a0_4 a0_5 l0_6 a4_0 a4_1 a4_2 a4_3 a4_4) else (pinfoldlaw17_ClaimTwice.j0 k a2 a3 t331 t335 t336 true a0_0 a0_1 l0_2 l0_3 a0_4 a0_5 l0_6 a4_0 a4_1 a4_2 a4_3 a4_4)) = some r := H
   have A17 := am_ A170
   clear A170
   by_cases c18 : t337 = 0
   ·rw [if_pos c18] at H
    have c18b0 : (t337 == 0) = true := beq_iff_eq.mpr c18
    have c18b1 : (t337 != 0) = false := e1_ c18
    clear c18
    (first | rw [c18b0] | (simp only [i64_w, i32_w]; rw [c18b0]) | skip)
    have H' := am_ H
    clear H
    go_wp2_with (first | ((with_reducible refine gate_callee (f := 10) rfl ?_); refine goesL_ (some 39) rfl rfl Tryd.func10 (by kernel_rfl) rfl #[.int .i64 t336] rfl (by (try simp only [List.map_toArray, List.map_cons, List.map_nil]); first | done | rfl | (simp only [List.length_drop, List.length_take]; rfl)) ?_; (with_reducible refine (pinfoldlaw0_Num.calls t336 t337 _ A17.out).mono ?_); rintro e w' ⟨rfl, ⟨nd, rfl⟩⟩; refine ⟨_, rfl, ?_⟩))
    go_meet
    case rel => exact ⟨_, ((t334 != 1)), (by first | rfl | (simp; done) | (simp [*]; done)), H', ⟨by first | omega | exact Nat.le_refl _⟩, ⟨by (with_reducible repeat (first | apply r1_ | apply r2_ | apply r3_)); exact HO333.out⟩, ⟨by (with_reducible repeat (first | refine k2_ ?_ _ | refine k3_ ?_ | refine k1_ ?_ _)); exact BK328.out⟩, ⟨by (with_reducible repeat (first | refine k2_ ?_ _ | refine k3_ ?_ | refine k1_ ?_ _)); exact BK329.out⟩, ⟨by repeat (with_reducible first | exact HB.out | apply p3_ | apply p1_ | apply p2_ | refine bs_ ?_ GE328.out | refine bs_ ?_ GE329.out)⟩⟩
   rw [if_neg c18] at H
   have c18b0 : (t337 == 0) = false := e2_ c18
   have c18b1 : (t337 != 0) = true := bne_iff_ne.mpr c18
   (first | rw [c18b0] | (simp only [i64_w, i32_w]; rw [c18b0]) | skip)
   have H' := am_ H
   clear H
   go_wp2_with (first | ((with_reducible refine gate_callee (f := 10) rfl ?_); refine goesL_ (some 39) rfl rfl Tryd.func10 (by kernel_rfl) rfl #[.int .i64 t336] rfl (by (try simp only [List.map_toArray, List.map_cons, List.map_nil]); first | done | rfl | (simp only [List.length_drop, List.length_take]; rfl)) ?_; (with_reducible refine (pinfoldlaw0_Num.calls t336 t337 _ A17.out).mono ?_); rintro e w' ⟨rfl, ⟨nd, rfl⟩⟩; refine ⟨_, rfl, ?_⟩))
   go_meet
   case rel => exact ⟨_, (true), (by first | rfl | (simp; done) | (simp [*]; done)), H', ⟨by first | omega | exact Nat.le_refl _⟩, ⟨by (with_reducible repeat (first | apply r1_ | apply r2_ | apply r3_)); exact HO333.out⟩, ⟨by (with_reducible repeat (first | refine k2_ ?_ _ | refine k3_ ?_ | refine k1_ ?_ _)); exact BK328.out⟩, ⟨by (with_reducible repeat (first | refine k2_ ?_ _ | refine k3_ ?_ | refine k1_ ?_ _)); exact BK329.out⟩, ⟨by repeat (with_reducible first | exact HB.out | apply p3_ | apply p1_ | apply p2_ | refine bs_ ?_ GE328.out | refine bs_ ?_ GE329.out)⟩⟩
  case rest =>
   clear HC9
   (try clear c1); (try clear c7); (try clear hcz14_0); (try clear hcz14_1); (try clear hcz14_2); (try clear hcz14_3); (try clear hcz14_4); (try clear hcz14_5); (try clear hcz14_6); (try clear hcz15_0); (try clear hcz15_1); (try clear hcz15_2); (try clear hcz15_3); (try clear hcz15_4); (try clear hfz14_0); (try clear hfz14_1); (try clear hfz14_2); (try clear hfz14_3); (try clear hfz14_4); (try clear hfz14_5); (try clear hfz14_6); (try clear hfz15_0); (try clear hfz15_1); (try clear hfz15_2); (try clear hfz15_3); (try clear hfz15_4)
   obtain ⟨kq, x44_8, rfl, HA, HJ8, HO_11, BK328, BK329, HB⟩ := hcut
   cases kq with
   | zero => exact absurd HA.out (by simp [pinfoldlaw17_ClaimTwice.j0])
   | succ kj8 =>
    have H := HA.out
    clear HA
    simp only [pinfoldlaw17_ClaimTwice.j0] at H
    by_cases c19 : x44_8 = true
    ·subst c19
     have H1 : ((pinfoldlaw0_Num.f t336).bind fun t338 => (if t338 = 0 then (some true) else (some ((t331.length : Int) == 0)))) = some r := by rw [if_pos rfl] at H; exact H
     clear H
     have H := H1
     clear H1
     replace H := e4_ H
     obtain ⟨t338, A200, H⟩ := H
     replace H : (if t338 = 0 then (some true) else (some ((t331.length : Int) == 0))) = some r := H
     have A20 := am_ A200
     clear A200
     by_cases c21 : t338 = 0
     ·rw [if_pos c21] at H
      have c21b0 : (t338 == 0) = true := beq_iff_eq.mpr c21
      have c21b1 : (t338 != 0) = false := e1_ c21
      clear c21
      obtain rfl := e5_ H
      go_wp2_with (first | ((with_reducible refine gate_callee (f := 10) rfl ?_); refine goesL_ (some 46) rfl rfl Tryd.func10 (by kernel_rfl) rfl #[.int .i64 t336] rfl (by (try simp only [List.map_toArray, List.map_cons, List.map_nil]); first | done | rfl | (simp only [List.length_drop, List.length_take]; rfl)) ?_; (with_reducible refine (pinfoldlaw0_Num.calls t336 t338 _ A20.out).mono ?_); rintro e w' ⟨rfl, ⟨nd, rfl⟩⟩; refine ⟨_, rfl, ?_⟩))
      go_ret
      exact ⟨by first | rfl | (simp [errW_none, errW_some] <;> rfl) | (simp [*, errW_none, errW_some] <;> rfl), by repeat (with_reducible first | exact HB.out | apply p3_ | apply p1_ | apply p2_ | refine bs_ ?_ GE328.out | refine bs_ ?_ GE329.out)⟩
     rw [if_neg c21] at H
     have c21b0 : (t338 == 0) = false := e2_ c21
     have c21b1 : (t338 != 0) = true := bne_iff_ne.mpr c21
     obtain rfl := e5_ H
     go_wp2_with (first | ((with_reducible refine gate_callee (f := 10) rfl ?_); refine goesL_ (some 46) rfl rfl Tryd.func10 (by kernel_rfl) rfl #[.int .i64 t336] rfl (by (try simp only [List.map_toArray, List.map_cons, List.map_nil]); first | done | rfl | (simp only [List.length_drop, List.length_take]; rfl)) ?_; (with_reducible refine (pinfoldlaw0_Num.calls t336 t338 _ A20.out).mono ?_); rintro e w' ⟨rfl, ⟨nd, rfl⟩⟩; refine ⟨_, rfl, ?_⟩; obtain ⟨Ao22, co22, eo22⟩ := Kd.R_slice HO_11.out; subst eo22))
     go_ret
     exact ⟨by first | rfl | (simp [errW_none, errW_some] <;> rfl) | (simp [*, errW_none, errW_some] <;> rfl), by repeat (with_reducible first | exact HB.out | apply p3_ | apply p1_ | apply p2_ | refine bs_ ?_ GE328.out | refine bs_ ?_ GE329.out)⟩
    replace c19 := e3_ c19
    subst c19
    have H1 : ((claim_Claim.f a0_0 a0_1 l0_2 l0_3 a0_4 a0_5 l0_6 t331 a2 a3 a4_0 a4_1 a4_2 a4_3 a4_4).bind fun bt339 => ((claim_Claim.f a0_0 a0_1 l0_2 l0_3 a0_4 a0_5 l0_6 t331 a2 a3 false 0 0 t335 (⟨#[]⟩ : ByteArray)).bind fun bt345 => ((pinfoldref11_Of_c.f t331 a3 a2).bind fun bt351 => (if bt339.2.1 = 1 then (if bt339.2.2.1 = t335 then ((pinfoldlaw0_Num.f bt339.2.2.2).bind fun t359 => (if t359 = 0 then ((pinfoldlaw0_SameLeases.f kj8 t331 bt339.1).bind fun t360 => (if t360 = true then (if bt345.2.1 = 1 then (if bt345.2.2.1 = t335 then ((pinfoldlaw0_Num.f bt345.2.2.2).bind fun t361 => (if t361 = 0 then ((pinfoldlaw0_SameLeases.f kj8 t331 bt345.1).bind fun t362 => (if t362 = true then (if bt351.2.2.2.2.2.2 = true then (some (bt351.1 == t335)) else (none)) else (none))) else (none))) else (none)) else (none)) else (none))) else (none))) else (none)) else (none))))) = some r := by rw [if_neg (show ¬ (false = true) by decide)] at H; exact H
    clear H
    have H := H1
    clear H1
    replace H := e4_ H
    obtain ⟨⟨t339, t342, t343, t344⟩, A230, H⟩ := H
    replace H : ((claim_Claim.f a0_0 a0_1 l0_2 l0_3 a0_4 a0_5 l0_6 t331 a2 a3 false 0 0 t335 (⟨#[]⟩ : ByteArray)).bind fun bt345 => ((pinfoldref11_Of_c.f t331 a3 a2).bind fun bt351 => (if t342 = 1 then (if t343 = t335 then ((pinfoldlaw0_Num.f t344).bind fun t359 => (if t359 = 0 then ((pinfoldlaw0_SameLeases.f kj8 t331 t339).bind fun t360 => (if t360 = true then (if bt345.2.1 = 1 then (if bt345.2.2.1 = t335 then ((pinfoldlaw0_Num.f bt345.2.2.2).bind fun t361 => (if t361 = 0 then ((pinfoldlaw0_SameLeases.f kj8 t331 bt345.1).bind fun t362 => (if t362 = true then (if bt351.2.2.2.2.2.2 = true then (some (bt351.1 == t335)) else (none)) else (none))) else (none))) else (none)) else (none)) else (none))) else (none))) else (none)) else (none)))) = some r := H
    have A23 := am_ A230
    clear A230
    replace H := e4_ H
    obtain ⟨⟨t345, t348, t349, t350⟩, A240, H⟩ := H
    replace H : ((pinfoldref11_Of_c.f t331 a3 a2).bind fun bt351 => (if t342 = 1 then (if t343 = t335 then ((pinfoldlaw0_Num.f t344).bind fun t359 => (if t359 = 0 then ((pinfoldlaw0_SameLeases.f kj8 t331 t339).bind fun t360 => (if t360 = true then (if t348 = 1 then (if t349 = t335 then ((pinfoldlaw0_Num.f t350).bind fun t361 => (if t361 = 0 then ((pinfoldlaw0_SameLeases.f kj8 t331 t345).bind fun t362 => (if t362 = true then (if bt351.2.2.2.2.2.2 = true then (some (bt351.1 == t335)) else (none)) else (none))) else (none))) else (none)) else (none)) else (none))) else (none))) else (none)) else (none))) = some r := H
    have A24 := am_ A240
    clear A240
    replace H := e4_ H
    obtain ⟨⟨t351, t352, t353, t354, t355, t356, t357⟩, A250, H⟩ := H
    replace H : (if t342 = 1 then (if t343 = t335 then ((pinfoldlaw0_Num.f t344).bind fun t359 => (if t359 = 0 then ((pinfoldlaw0_SameLeases.f kj8 t331 t339).bind fun t360 => (if t360 = true then (if t348 = 1 then (if t349 = t335 then ((pinfoldlaw0_Num.f t350).bind fun t361 => (if t361 = 0 then ((pinfoldlaw0_SameLeases.f kj8 t331 t345).bind fun t362 => (if t362 = true then (if t357 = true then (some (t351 == t335)) else (none)) else (none))) else (none))) else (none)) else (none)) else (none))) else (none))) else (none)) else (none)) = some r := H
    have A25 := am_ A250
    clear A250
    by_cases c26 : t342 = 1
    rotate_left
    ·rw [if_neg c26] at H
     exact absurd H (by simp)
    rw [if_pos c26] at H
    have c26b0 : (t342 == 1) = true := beq_iff_eq.mpr c26
    have c26b1 : (t342 != 1) = false := e1_ c26
    clear c26
    by_cases c27 : t343 = t335
    rotate_left
    ·rw [if_neg c27] at H
     exact absurd H (by simp)
    rw [if_pos c27] at H
    have c27b0 : (t343 == t335) = true := beq_iff_eq.mpr c27
    have c27b1 : (t343 != t335) = false := e1_ c27
    clear c27
    replace H := e4_ H
    obtain ⟨t359, A280, H⟩ := H
    replace H : (if t359 = 0 then ((pinfoldlaw0_SameLeases.f kj8 t331 t339).bind fun t360 => (if t360 = true then (if t348 = 1 then (if t349 = t335 then ((pinfoldlaw0_Num.f t350).bind fun t361 => (if t361 = 0 then ((pinfoldlaw0_SameLeases.f kj8 t331 t345).bind fun t362 => (if t362 = true then (if t357 = true then (some (t351 == t335)) else (none)) else (none))) else (none))) else (none)) else (none)) else (none))) else (none)) = some r := H
    have A28 := am_ A280
    clear A280
    by_cases c29 : t359 = 0
    rotate_left
    ·rw [if_neg c29] at H
     exact absurd H (by simp)
    rw [if_pos c29] at H
    have c29b0 : (t359 == 0) = true := beq_iff_eq.mpr c29
    have c29b1 : (t359 != 0) = false := e1_ c29
    clear c29
    replace H := e4_ H
    obtain ⟨t360, A300, H⟩ := H
    replace H : (if t360 = true then (if t348 = 1 then (if t349 = t335 then ((pinfoldlaw0_Num.f t350).bind fun t361 => (if t361 = 0 then ((pinfoldlaw0_SameLeases.f kj8 t331 t345).bind fun t362 => (if t362 = true then (if t357 = true then (some (t351 == t335)) else (none)) else (none))) else (none))) else (none)) else (none)) else (none)) = some r := H
    have A30 := am_ A300
    clear A300
    by_cases c31 : t360 = true
    ·subst c31
     have H1 : (if t348 = 1 then (if t349 = t335 then ((pinfoldlaw0_Num.f t350).bind fun t361 => (if t361 = 0 then ((pinfoldlaw0_SameLeases.f kj8 t331 t345).bind fun t362 => (if t362 = true then (if t357 = true then (some (t351 == t335)) else (none)) else (none))) else (none))) else (none)) else (none)) = some r := by rw [if_pos rfl] at H; exact H
     clear H
     have H := H1
     clear H1
     by_cases c32 : t348 = 1
     rotate_left
     ·rw [if_neg c32] at H
      exact absurd H (by simp)
     rw [if_pos c32] at H
     have c32b0 : (t348 == 1) = true := beq_iff_eq.mpr c32
     have c32b1 : (t348 != 1) = false := e1_ c32
     clear c32
     by_cases c33 : t349 = t335
     rotate_left
     ·rw [if_neg c33] at H
      exact absurd H (by simp)
     rw [if_pos c33] at H
     have c33b0 : (t349 == t335) = true := beq_iff_eq.mpr c33
     have c33b1 : (t349 != t335) = false := e1_ c33
     clear c33
     replace H := e4_ H
     obtain ⟨t361, A340, H⟩ := H
     replace H : (if t361 = 0 then ((pinfoldlaw0_SameLeases.f kj8 t331 t345).bind fun t362 => (if t362 = true then (if t357 = true then (some (t351 == t335)) else (none)) else (none))) else (none)) = some r := H
     have A34 := am_ A340
     clear A340
     by_cases c35 : t361 = 0
     rotate_left
     ·rw [if_neg c35] at H
      exact absurd H (by simp)
     rw [if_pos c35] at H
     have c35b0 : (t361 == 0) = true := beq_iff_eq.mpr c35
     have c35b1 : (t361 != 0) = false := e1_ c35
     clear c35
     replace H := e4_ H
     obtain ⟨t362, A360, H⟩ := H
     replace H : (if t362 = true then (if t357 = true then (some (t351 == t335)) else (none)) else (none)) = some r := H
     have A36 := am_ A360
     clear A360
     by_cases c37 : t362 = true
     ·subst c37
      have H1 : (if t357 = true then (some (t351 == t335)) else (none)) = some r := by rw [if_pos rfl] at H; exact H
      clear H
      have H := H1
      clear H1
      by_cases c38 : t357 = true
      ·subst c38
       have H1 : (some (t351 == t335)) = some r := by rw [if_pos rfl] at H; exact H
       clear H
       have H := H1
       clear H1
       obtain rfl := e5_ H
       have hnb39 := NB328_329.out
       have hnc39 := NB329_328.out
       have hcz40_0 : wc.cell? ⟨gb328, 0, none⟩ = some (.int .i64 a0_0) := (bc_ BK328.out 0).trans rfl; have hcz40_1 : wc.cell? ⟨gb328, 1, none⟩ = some (.int .i64 a0_1) := (bc_ BK328.out 1).trans rfl; have hcz40_2 : wc.cell? ⟨gb328, 2, none⟩ = some (.slice A0_2 l0_2.length c0_2) := (bc_ BK328.out 2).trans rfl; have hcz40_3 : wc.cell? ⟨gb328, 3, none⟩ = some (.slice A0_3 l0_3.length c0_3) := (bc_ BK328.out 3).trans rfl; have hcz40_4 : wc.cell? ⟨gb328, 4, none⟩ = some (.int .i64 a0_4) := (bc_ BK328.out 4).trans rfl; have hcz40_5 : wc.cell? ⟨gb328, 5, none⟩ = some (.string a0_5) := (bc_ BK328.out 5).trans rfl; have hcz40_6 : wc.cell? ⟨gb328, 6, none⟩ = some (.slice A0_6 l0_6.length c0_6) := (bc_ BK328.out 6).trans rfl; have hfz40_0 := bf_ BK328.out 0; have hfz40_1 := bf_ BK328.out 1; have hfz40_2 := bf_ BK328.out 2; have hfz40_3 := bf_ BK328.out 3; have hfz40_4 := bf_ BK328.out 4; have hfz40_5 := bf_ BK328.out 5; have hfz40_6 := bf_ BK328.out 6; have hcz41_0 : wc.cell? ⟨gb329, 0, none⟩ = some (.bool a4_0) := (bc_ BK329.out 0).trans rfl; have hcz41_1 : wc.cell? ⟨gb329, 1, none⟩ = some (.int .i64 a4_1) := (bc_ BK329.out 1).trans rfl; have hcz41_2 : wc.cell? ⟨gb329, 2, none⟩ = some (.int .i64 a4_2) := (bc_ BK329.out 2).trans rfl; have hcz41_3 : wc.cell? ⟨gb329, 3, none⟩ = some (.int .i64 a4_3) := (bc_ BK329.out 3).trans rfl; have hcz41_4 : wc.cell? ⟨gb329, 4, none⟩ = some (.string a4_4) := (bc_ BK329.out 4).trans rfl; have hfz41_0 := bf_ BK329.out 0; have hfz41_1 := bf_ BK329.out 1; have hfz41_2 := bf_ BK329.out 2; have hfz41_3 := bf_ BK329.out 3; have hfz41_4 := bf_ BK329.out 4
       obtain ⟨Ao42, co42, eo42⟩ := Kd.R_slice HO_11.out
       subst eo42
       go_wp2_with (first | ((with_reducible refine gate_callee (f := 9) rfl ?_); refine goesL_ (some 59) rfl rfl Tryd.func9 (by kernel_rfl) rfl #[.agg #[.int .i64 a0_0, .int .i64 a0_1, .slice A0_2 l0_2.length c0_2, .slice A0_3 l0_3.length c0_3, .int .i64 a0_4, .string a0_5, .slice A0_6 l0_6.length c0_6], .slice Ao42 t331.length co42, .int .i64 a2, .string a3, .agg #[.bool a4_0, .int .i64 a4_1, .int .i64 a4_2, .int .i64 a4_3, .string a4_4]] rfl (by (try simp only [List.map_toArray, List.map_cons, List.map_nil]); first | done | rfl | (simp only [List.length_drop, List.length_take]; rfl)) ?_; (with_reducible refine (claim_Claim.calls a0_0 a0_1 _ _ l0_2 _ _ l0_3 a0_4 a0_5 _ _ l0_6 _ _ t331 a2 a3 a4_0 a4_1 a4_2 a4_3 a4_4 t339 t342 t343 t344 _ ?side1 ?side2 ?side3 ?side4 ?side5 ?side6 ?side7 ?side8 A23.out).mono ?_); (case side1 => repeat (first | exact (c4_ HR0_2.out HB.out) | (with_reducible refine c1_ ?_ _) | (with_reducible refine c2_ ?_ _) | (with_reducible refine c3_ ?_))); (case side2 => exact HC0_2.out); (case side3 => repeat (first | exact (c4_ HR0_3.out HB.out) | (with_reducible refine c1_ ?_ _) | (with_reducible refine c2_ ?_ _) | (with_reducible refine c3_ ?_))); (case side4 => exact HC0_3.out); (case side5 => repeat (first | exact (c4_ HR0_6.out HB.out) | (with_reducible refine c1_ ?_ _) | (with_reducible refine c2_ ?_ _) | (with_reducible refine c3_ ?_))); (case side6 => exact HC0_6.out); (case side7 => repeat (first | exact (Kd.R_reads' HO_11.out).2.2 | (with_reducible refine c1_ ?_ _) | (with_reducible refine c2_ ?_ _) | (with_reducible refine c3_ ?_))); (case side8 => exact (Kd.R_reads' HO_11.out).2.1); rintro e w43 ⟨v340, rfl, ho0, hb⟩; refine ⟨_, rfl, ?_⟩; have n0_ := am_ (r5_ (by (with_reducible repeat (first | apply r1_ | apply r2_ | apply r3_)); exact HO_11.out) (r4_ ho0) hb); have n1_ := am_ (Kd.R_lower (Kd.R_new' ho0 (Kd.R_lt (by (with_reducible repeat (first | apply r1_ | apply r2_ | apply r3_)); exact HO_11.out))) (bz_ (by repeat (with_reducible first | exact HB.out | apply p3_ | apply p1_ | apply p2_ | refine bs_ ?_ GE328.out | refine bs_ ?_ GE329.out)))); have n2_ := am_ (kb_ (g := gb328) (o := .cells #[.int .i64 a0_0, .int .i64 a0_1, .slice A0_2 l0_2.length c0_2, .slice A0_3 l0_3.length c0_3, .int .i64 a0_4, .string a0_5, .slice A0_6 l0_6.length c0_6] 26 (0, 0)) (by (with_reducible repeat (first | refine k2_ ?_ _ | refine k3_ ?_ | refine k1_ ?_ _)); exact BK328.out) hb); have n3_ := am_ (kb_ (g := gb329) (o := .cells #[.bool a4_0, .int .i64 a4_1, .int .i64 a4_2, .int .i64 a4_3, .string a4_4] 29 (0, 0)) (by (with_reducible repeat (first | refine k2_ ?_ _ | refine k3_ ?_ | refine k1_ ?_ _)); exact BK329.out) hb); have n4_ := am_ (bt_ (by repeat (with_reducible first | exact HB.out | apply p3_ | apply p1_ | apply p2_ | refine bs_ ?_ GE328.out | refine bs_ ?_ GE329.out)) hb); clear HO_11; clear BK328; clear BK329; clear HB; have HO_11 := n0_; have HO341 := n1_; have BK328 := n2_; have BK329 := n3_; have HB := n4_; clear n0_ n1_ n2_ n3_ n4_; (try clear hb); (try clear ho0); have hcz44_0 : w43.cell? ⟨gb328, 0, none⟩ = some (.int .i64 a0_0) := (bc_ BK328.out 0).trans rfl; have hcz44_1 : w43.cell? ⟨gb328, 1, none⟩ = some (.int .i64 a0_1) := (bc_ BK328.out 1).trans rfl; have hcz44_2 : w43.cell? ⟨gb328, 2, none⟩ = some (.slice A0_2 l0_2.length c0_2) := (bc_ BK328.out 2).trans rfl; have hcz44_3 : w43.cell? ⟨gb328, 3, none⟩ = some (.slice A0_3 l0_3.length c0_3) := (bc_ BK328.out 3).trans rfl; have hcz44_4 : w43.cell? ⟨gb328, 4, none⟩ = some (.int .i64 a0_4) := (bc_ BK328.out 4).trans rfl; have hcz44_5 : w43.cell? ⟨gb328, 5, none⟩ = some (.string a0_5) := (bc_ BK328.out 5).trans rfl; have hcz44_6 : w43.cell? ⟨gb328, 6, none⟩ = some (.slice A0_6 l0_6.length c0_6) := (bc_ BK328.out 6).trans rfl; have hfz44_0 := bf_ BK328.out 0; have hfz44_1 := bf_ BK328.out 1; have hfz44_2 := bf_ BK328.out 2; have hfz44_3 := bf_ BK328.out 3; have hfz44_4 := bf_ BK328.out 4; have hfz44_5 := bf_ BK328.out 5; have hfz44_6 := bf_ BK328.out 6) | ((with_reducible refine gate_callee (f := 9) rfl ?_); refine goesL_ (some 71) rfl rfl Tryd.func9 (by kernel_rfl) rfl #[.agg #[.int .i64 a0_0, .int .i64 a0_1, .slice A0_2 l0_2.length c0_2, .slice A0_3 l0_3.length c0_3, .int .i64 a0_4, .string a0_5, .slice A0_6 l0_6.length c0_6], .slice Ao42 t331.length co42, .int .i64 a2, .string a3, .agg #[.bool false, .int .i64 0, .int .i64 0, .int .i64 t335, .string (⟨#[]⟩ : ByteArray)]] rfl (by (try simp only [List.map_toArray, List.map_cons, List.map_nil]); first | done | rfl | (simp only [List.length_drop, List.length_take]; rfl)) ?_; (with_reducible refine (claim_Claim.calls a0_0 a0_1 _ _ l0_2 _ _ l0_3 a0_4 a0_5 _ _ l0_6 _ _ t331 a2 a3 false 0 0 t335 (⟨#[]⟩ : ByteArray) t345 t348 t349 t350 _ ?side1 ?side2 ?side3 ?side4 ?side5 ?side6 ?side7 ?side8 A24.out).mono ?_); (case side1 => repeat (first | exact (c4_ HR0_2.out HB.out) | (with_reducible refine c1_ ?_ _) | (with_reducible refine c2_ ?_ _) | (with_reducible refine c3_ ?_))); (case side2 => exact HC0_2.out); (case side3 => repeat (first | exact (c4_ HR0_3.out HB.out) | (with_reducible refine c1_ ?_ _) | (with_reducible refine c2_ ?_ _) | (with_reducible refine c3_ ?_))); (case side4 => exact HC0_3.out); (case side5 => repeat (first | exact (c4_ HR0_6.out HB.out) | (with_reducible refine c1_ ?_ _) | (with_reducible refine c2_ ?_ _) | (with_reducible refine c3_ ?_))); (case side6 => exact HC0_6.out); (case side7 => repeat (first | exact (Kd.R_reads' HO_11.out).2.2 | (with_reducible refine c1_ ?_ _) | (with_reducible refine c2_ ?_ _) | (with_reducible refine c3_ ?_))); (case side8 => exact (Kd.R_reads' HO_11.out).2.1); rintro e w45 ⟨v346, rfl, ho0, hb⟩; refine ⟨_, rfl, ?_⟩; have n0_ := am_ (r5_ (by (with_reducible repeat (first | apply r1_ | apply r2_ | apply r3_)); exact HO_11.out) (r4_ ho0) hb); have n1_ := am_ (r5_ (by (with_reducible repeat (first | apply r1_ | apply r2_ | apply r3_)); exact HO341.out) (r4_ ho0) hb); have n2_ := am_ (Kd.R_lower (Kd.R_new' (Kd.R_new' ho0 (Kd.R_lt (by (with_reducible repeat (first | apply r1_ | apply r2_ | apply r3_)); exact HO_11.out))) (Kd.R_lt (by (with_reducible repeat (first | apply r1_ | apply r2_ | apply r3_)); exact HO341.out))) (bz_ (by repeat (with_reducible first | exact HB.out | apply p3_ | apply p1_ | apply p2_ | refine bs_ ?_ GE328.out | refine bs_ ?_ GE329.out)))); have n3_ := am_ (kb_ (g := gb328) (o := .cells #[.int .i64 a0_0, .int .i64 a0_1, .slice A0_2 l0_2.length c0_2, .slice A0_3 l0_3.length c0_3, .int .i64 a0_4, .string a0_5, .slice A0_6 l0_6.length c0_6] 26 (0, 0)) (by (with_reducible repeat (first | refine k2_ ?_ _ | refine k3_ ?_ | refine k1_ ?_ _)); exact BK328.out) hb); have n4_ := am_ (kb_ (g := gb329) (o := .cells #[.bool a4_0, .int .i64 a4_1, .int .i64 a4_2, .int .i64 a4_3, .string a4_4] 29 (0, 0)) (by (with_reducible repeat (first | refine k2_ ?_ _ | refine k3_ ?_ | refine k1_ ?_ _)); exact BK329.out) hb); have n5_ := am_ (bt_ (by repeat (with_reducible first | exact HB.out | apply p3_ | apply p1_ | apply p2_ | refine bs_ ?_ GE328.out | refine bs_ ?_ GE329.out)) hb); clear HO_11; clear HO341; clear BK328; clear BK329; clear HB; have HO_11 := n0_; have HO341 := n1_; have HO347 := n2_; have BK328 := n3_; have BK329 := n4_; have HB := n5_; clear n0_ n1_ n2_ n3_ n4_ n5_; (try clear hb); (try clear ho0)) | ((with_reducible refine gate_callee (f := 18) rfl ?_); refine goesL_ (some 80) rfl rfl Tryd.func18 (by kernel_rfl) rfl #[.slice Ao42 t331.length co42, .string a3, .int .i64 a2] rfl (by (try simp only [List.map_toArray, List.map_cons, List.map_nil]); first | done | rfl | (simp only [List.length_drop, List.length_take]; rfl)) ?_; (with_reducible refine (pinfoldref11_Of_c.calls _ _ t331 a3 a2 t351 t352 t353 t354 t355 t356 true _ ?side1 ?side2 A25.out).mono ?_); (case side1 => repeat (first | exact (Kd.R_reads' HO_11.out).2.2 | (with_reducible refine c1_ ?_ _) | (with_reducible refine c2_ ?_ _) | (with_reducible refine c3_ ?_))); (case side2 => exact (Kd.R_reads' HO_11.out).2.1); rintro e w46 ⟨rfl, hb⟩; refine ⟨_, rfl, ?_⟩; have n0_ := am_ (Kd.R_below (by (with_reducible repeat (first | apply r1_ | apply r2_ | apply r3_)); exact HO_11.out) hb); have n1_ := am_ (Kd.R_below (by (with_reducible repeat (first | apply r1_ | apply r2_ | apply r3_)); exact HO341.out) hb); have n2_ := am_ (Kd.R_below (by (with_reducible repeat (first | apply r1_ | apply r2_ | apply r3_)); exact HO347.out) hb); have n3_ := am_ (kb_ (g := gb328) (o := .cells #[.int .i64 a0_0, .int .i64 a0_1, .slice A0_2 l0_2.length c0_2, .slice A0_3 l0_3.length c0_3, .int .i64 a0_4, .string a0_5, .slice A0_6 l0_6.length c0_6] 26 (0, 0)) (by (with_reducible repeat (first | refine k2_ ?_ _ | refine k3_ ?_ | refine k1_ ?_ _)); exact BK328.out) hb); have n4_ := am_ (kb_ (g := gb329) (o := .cells #[.bool a4_0, .int .i64 a4_1, .int .i64 a4_2, .int .i64 a4_3, .string a4_4] 29 (0, 0)) (by (with_reducible repeat (first | refine k2_ ?_ _ | refine k3_ ?_ | refine k1_ ?_ _)); exact BK329.out) hb); have n5_ := am_ (bt_ (by repeat (with_reducible first | exact HB.out | apply p3_ | apply p1_ | apply p2_ | refine bs_ ?_ GE328.out | refine bs_ ?_ GE329.out)) hb); clear HO_11; clear HO341; clear HO347; clear BK328; clear BK329; clear HB; have HO_11 := n0_; have HO341 := n1_; have HO347 := n2_; have BK328 := n3_; have BK329 := n4_; have HB := n5_; clear n0_ n1_ n2_ n3_ n4_ n5_; (try clear hb)) | ((with_reducible refine gate_dst (N := 23) rfl ?_); (try (refine gate_guard (by rfl) ?_; dsimp only)); refine box_event ?hg (N := 23) ?hd (cs := #[.int .i64 0, .int .i64 0, .string (⟨#[]⟩ : ByteArray), .int .i64 0, .string (⟨#[]⟩ : ByteArray), .bool false]) (t := 36) ?hr ?_; (case hd => rfl); (case hg => rfl); (case hr => first | (go_simp; done) | (go_simp; rfl)); intro gb358 hg w47 hbox hb; have n0_ := am_ (Kd.R_below (Kd.R_elderB (by (with_reducible repeat (first | apply r1_ | apply r2_ | apply r3_)); exact HO_11.out) gb358 (Nat.le_of_eq hg.symm)) hb); have n1_ := am_ (Kd.R_below (Kd.R_elderB (by (with_reducible repeat (first | apply r1_ | apply r2_ | apply r3_)); exact HO341.out) gb358 (Nat.le_of_eq hg.symm)) hb); have n2_ := am_ (Kd.R_below (Kd.R_elderB (by (with_reducible repeat (first | apply r1_ | apply r2_ | apply r3_)); exact HO347.out) gb358 (Nat.le_of_eq hg.symm)) hb); have n3_ := am_ (kb_ (g := gb328) (o := .cells #[.int .i64 a0_0, .int .i64 a0_1, .slice A0_2 l0_2.length c0_2, .slice A0_3 l0_3.length c0_3, .int .i64 a0_4, .string a0_5, .slice A0_6 l0_6.length c0_6] 26 (0, 0)) (by (with_reducible repeat (first | refine k2_ ?_ _ | refine k3_ ?_ | refine k1_ ?_ _)); exact BK328.out) hb); have n4_ := am_ (kb_ (g := gb329) (o := .cells #[.bool a4_0, .int .i64 a4_1, .int .i64 a4_2, .int .i64 a4_3, .string a4_4] 29 (0, 0)) (by (with_reducible repeat (first | refine k2_ ?_ _ | refine k3_ ?_ | refine k1_ ?_ _)); exact BK329.out) hb); have n5_ := am_ (bt_ (by repeat (with_reducible first | exact HB.out | apply p3_ | apply p1_ | apply p2_ | refine bs_ ?_ GE328.out | refine bs_ ?_ GE329.out)) hb); have n6_ := am_ (hbox); have n7_ := am_ ((by rw [hg]; exact (bz_ (by repeat (with_reducible first | exact HB.out | apply p3_ | apply p1_ | apply p2_ | refine bs_ ?_ GE328.out | refine bs_ ?_ GE329.out))) : w.heap.size ≤ gb358)); have n8_ := am_ ((by rw [hg]; exact (bz_ (by repeat (with_reducible first | exact HB.out | apply p3_ | apply p1_ | apply p2_ | refine bs_ ?_ GE328.out | refine bs_ ?_ GE329.out))) : w.heap.size ≤ gb358)); have n9_ := am_ ((by rw [hg]; exact Nat.ne_of_lt (blk_lt (g := gb328) (o := .cells #[.int .i64 a0_0, .int .i64 a0_1, .slice A0_2 l0_2.length c0_2, .slice A0_3 l0_3.length c0_3, .int .i64 a0_4, .string a0_5, .slice A0_6 l0_6.length c0_6] 26 (0, 0)) (by (with_reducible repeat (first | refine k2_ ?_ _ | refine k3_ ?_ | refine k1_ ?_ _)); exact BK328.out)) : gb328 ≠ gb358)); have n10_ := am_ ((by rw [hg]; exact Nat.ne_of_gt (blk_lt (g := gb328) (o := .cells #[.int .i64 a0_0, .int .i64 a0_1, .slice A0_2 l0_2.length c0_2, .slice A0_3 l0_3.length c0_3, .int .i64 a0_4, .string a0_5, .slice A0_6 l0_6.length c0_6] 26 (0, 0)) (by (with_reducible repeat (first | refine k2_ ?_ _ | refine k3_ ?_ | refine k1_ ?_ _)); exact BK328.out)) : gb358 ≠ gb328)); have n11_ := am_ ((by rw [hg]; exact Nat.ne_of_lt (blk_lt (g := gb329) (o := .cells #[.bool a4_0, .int .i64 a4_1, .int .i64 a4_2, .int .i64 a4_3, .string a4_4] 29 (0, 0)) (by (with_reducible repeat (first | refine k2_ ?_ _ | refine k3_ ?_ | refine k1_ ?_ _)); exact BK329.out)) : gb329 ≠ gb358)); have n12_ := am_ ((by rw [hg]; exact Nat.ne_of_gt (blk_lt (g := gb329) (o := .cells #[.bool a4_0, .int .i64 a4_1, .int .i64 a4_2, .int .i64 a4_3, .string a4_4] 29 (0, 0)) (by (with_reducible repeat (first | refine k2_ ?_ _ | refine k3_ ?_ | refine k1_ ?_ _)); exact BK329.out)) : gb358 ≠ gb329)); clear HO_11; clear HO341; clear HO347; clear BK328; clear BK329; clear HB; have HO_11 := n0_; have HO341 := n1_; have HO347 := n2_; have BK328 := n3_; have BK329 := n4_; have HB := n5_; have BK358 := n6_; have GW358 := n7_; have GE358 := n8_; have NB328_358 := n9_; have NB358_328 := n10_; have NB329_358 := n11_; have NB358_329 := n12_; clear n0_ n1_ n2_ n3_ n4_ n5_ n6_ n7_ n8_ n9_ n10_ n11_ n12_; clear hb hbox hg; have hnb48 := NB358_328.out; have hnc48 := NB328_358.out; have hnb49 := NB358_329.out; have hnc49 := NB329_358.out; have hcz50_0 : w47.cell? ⟨gb358, 0, none⟩ = some (.int .i64 0) := (bc_ BK358.out 0).trans rfl; have hcz50_1 : w47.cell? ⟨gb358, 1, none⟩ = some (.int .i64 0) := (bc_ BK358.out 1).trans rfl; have hcz50_2 : w47.cell? ⟨gb358, 2, none⟩ = some (.string (⟨#[]⟩ : ByteArray)) := (bc_ BK358.out 2).trans rfl; have hcz50_3 : w47.cell? ⟨gb358, 3, none⟩ = some (.int .i64 0) := (bc_ BK358.out 3).trans rfl; have hcz50_4 : w47.cell? ⟨gb358, 4, none⟩ = some (.string (⟨#[]⟩ : ByteArray)) := (bc_ BK358.out 4).trans rfl; have hcz50_5 : w47.cell? ⟨gb358, 5, none⟩ = some (.bool false) := (bc_ BK358.out 5).trans rfl; have hfz50_0 := bf_ BK358.out 0; have hfz50_1 := bf_ BK358.out 1; have hfz50_2 := bf_ BK358.out 2; have hfz50_3 := bf_ BK358.out 3; have hfz50_4 := bf_ BK358.out 4; have hfz50_5 := bf_ BK358.out 5) | (go_at_call 10; (with_reducible refine (pinfoldlaw0_Num.calls t344 t359 _ A28.out).mono ?_); rintro e w' ⟨rfl, ⟨nd, rfl⟩⟩; obtain ⟨Ao51, co51, eo51⟩ := Kd.R_slice HO341.out; subst eo51) | (go_at_call 17; (with_reducible refine (pinfoldlaw0_SameLeases.calls kj8 _ _ t331 _ _ t339 true _ ?side1 ?side2 ?side3 ?side4 A30.out).mono ?_); (case side1 => refine (Kd.R_reads' (e := 36) (base := w.heap.size) (ok := fun k_ => (((True ∧ some k_ ≠ (.slice Ao51 t339.length co51 : Value).ownBlock) ∧ some k_ ≠ (v346 : Value).ownBlock) ∧ k_ ≠ gb358)) (n := t331.length) (c := co42) ?_).2.2; exact (by (with_reducible repeat (first | apply r1_ | apply r2_ | apply r3_)); exact (Kd.R_mono (Kd.R_far (p := ⟨gb358, 5, none⟩) (Kd.R_far (p := ⟨gb358, 4, none⟩) (Kd.R_far (p := ⟨gb358, 3, none⟩) (Kd.R_far (p := ⟨gb358, 2, none⟩) (Kd.R_far (p := ⟨gb358, 1, none⟩) (Kd.R_far (p := ⟨gb358, 0, none⟩) (Kd.R_mono HO_11.out (fun k_ hk => (⟨hk, hk.2⟩ : _ ∧ k_ ≠ gb358))) (fun _ hk => hk.2) (.int .i64 t351)) (fun _ hk => hk.2) (.int .i64 t352)) (fun _ hk => hk.2) (.string t353)) (fun _ hk => hk.2) (.int .i64 t354)) (fun _ hk => hk.2) (.string t355)) (fun _ hk => hk.2) (.bool t356)) (fun _ h_ => h_.1)))); (case side2 => exact (Kd.R_reads' HO_11.out).2.1); (case side3 => refine (Kd.R_reads' (e := 36) (base := w.heap.size) (ok := fun k_ => (((True ∧ some k_ ≠ (.slice Ao42 t331.length co42 : Value).ownBlock) ∧ some k_ ≠ (v346 : Value).ownBlock) ∧ k_ ≠ gb358)) (n := t339.length) (c := co51) ?_).2.2; exact (by (with_reducible repeat (first | apply r1_ | apply r2_ | apply r3_)); exact (Kd.R_mono (Kd.R_far (p := ⟨gb358, 5, none⟩) (Kd.R_far (p := ⟨gb358, 4, none⟩) (Kd.R_far (p := ⟨gb358, 3, none⟩) (Kd.R_far (p := ⟨gb358, 2, none⟩) (Kd.R_far (p := ⟨gb358, 1, none⟩) (Kd.R_far (p := ⟨gb358, 0, none⟩) (Kd.R_mono HO341.out (fun k_ hk => (⟨hk, hk.2⟩ : _ ∧ k_ ≠ gb358))) (fun _ hk => hk.2) (.int .i64 t351)) (fun _ hk => hk.2) (.int .i64 t352)) (fun _ hk => hk.2) (.string t353)) (fun _ hk => hk.2) (.int .i64 t354)) (fun _ hk => hk.2) (.string t355)) (fun _ hk => hk.2) (.bool t356)) (fun _ h_ => h_.1)))); (case side4 => exact (Kd.R_reads' HO341.out).2.1); rintro e w' ⟨rfl, ⟨nd, rfl⟩⟩) | (go_at_call 10; (with_reducible refine (pinfoldlaw0_Num.calls t350 t361 _ A34.out).mono ?_); rintro e w' ⟨rfl, ⟨nd, rfl⟩⟩; obtain ⟨Ao52, co52, eo52⟩ := Kd.R_slice HO347.out; subst eo52) | (go_at_call 17; (with_reducible refine (pinfoldlaw0_SameLeases.calls kj8 _ _ t331 _ _ t345 true _ ?side1 ?side2 ?side3 ?side4 A36.out).mono ?_); (case side1 => refine (Kd.R_reads' (e := 36) (base := w.heap.size) (ok := fun k_ => (((True ∧ some k_ ≠ (.slice Ao51 t339.length co51 : Value).ownBlock) ∧ some k_ ≠ (.slice Ao52 t345.length co52 : Value).ownBlock) ∧ k_ ≠ gb358)) (n := t331.length) (c := co42) ?_).2.2; exact (by (with_reducible repeat (first | apply r1_ | apply r2_ | apply r3_)); exact (Kd.R_mono (Kd.R_far (p := ⟨gb358, 5, none⟩) (Kd.R_far (p := ⟨gb358, 4, none⟩) (Kd.R_far (p := ⟨gb358, 3, none⟩) (Kd.R_far (p := ⟨gb358, 2, none⟩) (Kd.R_far (p := ⟨gb358, 1, none⟩) (Kd.R_far (p := ⟨gb358, 0, none⟩) (Kd.R_mono HO_11.out (fun k_ hk => (⟨hk, hk.2⟩ : _ ∧ k_ ≠ gb358))) (fun _ hk => hk.2) (.int .i64 t351)) (fun _ hk => hk.2) (.int .i64 t352)) (fun _ hk => hk.2) (.string t353)) (fun _ hk => hk.2) (.int .i64 t354)) (fun _ hk => hk.2) (.string t355)) (fun _ hk => hk.2) (.bool t356)) (fun _ h_ => h_.1)))); (case side2 => exact (Kd.R_reads' HO_11.out).2.1); (case side3 => refine (Kd.R_reads' (e := 36) (base := w.heap.size) (ok := fun k_ => (((True ∧ some k_ ≠ (.slice Ao42 t331.length co42 : Value).ownBlock) ∧ some k_ ≠ (.slice Ao51 t339.length co51 : Value).ownBlock) ∧ k_ ≠ gb358)) (n := t345.length) (c := co52) ?_).2.2; exact (by (with_reducible repeat (first | apply r1_ | apply r2_ | apply r3_)); exact (Kd.R_mono (Kd.R_far (p := ⟨gb358, 5, none⟩) (Kd.R_far (p := ⟨gb358, 4, none⟩) (Kd.R_far (p := ⟨gb358, 3, none⟩) (Kd.R_far (p := ⟨gb358, 2, none⟩) (Kd.R_far (p := ⟨gb358, 1, none⟩) (Kd.R_far (p := ⟨gb358, 0, none⟩) (Kd.R_mono HO347.out (fun k_ hk => (⟨hk, hk.2⟩ : _ ∧ k_ ≠ gb358))) (fun _ hk => hk.2) (.int .i64 t351)) (fun _ hk => hk.2) (.int .i64 t352)) (fun _ hk => hk.2) (.string t353)) (fun _ hk => hk.2) (.int .i64 t354)) (fun _ hk => hk.2) (.string t355)) (fun _ hk => hk.2) (.bool t356)) (fun _ h_ => h_.1)))); (case side4 => exact (Kd.R_reads' HO347.out).2.1); rintro e w' ⟨rfl, ⟨nd, rfl⟩⟩))
       go_ret
       exact ⟨by first | rfl | (simp [errW_none, errW_some] <;> rfl) | (simp [*, errW_none, errW_some] <;> rfl), by repeat (with_reducible first | exact HB.out | apply p3_ | apply p1_ | apply p2_ | refine bs_ ?_ GE328.out | refine bs_ ?_ GE329.out | refine bs_ ?_ GE358.out)⟩
      replace c38 := e3_ c38
      subst c38
      have H1 : (none) = some r := by rw [if_neg (show ¬ (false = true) by decide)] at H; exact H
      clear H
      have H := H1
      clear H1
      exact absurd H (by simp)
     replace c37 := e3_ c37
     subst c37
     have H1 : (none) = some r := by rw [if_neg (show ¬ (false = true) by decide)] at H; exact H
     clear H
     have H := H1
     clear H1
     exact absurd H (by simp)
    replace c31 := e3_ c31
    subst c31
    have H1 : (none) = some r := by rw [if_neg (show ¬ (false = true) by decide)] at H; exact H
    clear H
    have H := H1
    clear H1
    exact absurd H (by simp)
 replace c7 := e3_ c7
 subst c7
 have H1 : (none) = some r := by rw [if_neg (show ¬ (false = true) by decide)] at H; exact H
 clear H
 have H := H1
 clear H1
 exact absurd H (by simp)

/-- THE ONE PURE STATEMENT of pinfoldlaw17_ClaimTwice. -/
def pinfoldlaw17_ClaimTwice.Pure : Prop := ∀ (a0_0 : Int) (a0_1 : Int) (l0_2 : List Int) (l0_3 : List (S72)) (a0_4 : Int) (a0_5 : ByteArray) (l0_6 : List (S74)) (l1 : List (S36)) (a2 : Int) (a3 : ByteArray) (a4_0 : Bool) (a4_1 : Int) (a4_2 : Int) (a4_3 : Int) (a4_4 : ByteArray), (Lit.int .i64 a0_0).wf = true → (Lit.int .i64 a0_1).wf = true → (l0_2.length * Tryd.prog.bytesOf 3 ≤ 140737488351232 ∧ ∀ y0_ ∈ l0_2, (Lit.int .i64 y0_).wf = true) → (l0_3.length * Tryd.prog.bytesOf 72 ≤ 140737488351232 ∧ ∀ y0_ ∈ l0_3, (y0_.f0.size ≤ 140737488351232 ∧ (Lit.int .i64 y0_.f1).wf = true)) → (Lit.int .i64 a0_4).wf = true → a0_5.size ≤ 140737488351232 → (l0_6.length * Tryd.prog.bytesOf 74 ≤ 140737488351232 ∧ ∀ y0_ ∈ l0_6, (y0_.f0.size ≤ 140737488351232 ∧ ((Lit.int .i64 y0_.f1).wf = true ∧ ((Lit.int .i64 y0_.f2).wf = true ∧ ((Lit.int .i64 y0_.f3).wf = true ∧ (y0_.f4.size ≤ 140737488351232 ∧ (y0_.f5.size ≤ 140737488351232 ∧ (Lit.int .i64 y0_.f6).wf = true))))))) → (l1.length * Tryd.prog.bytesOf 36 ≤ 140737488351232 ∧ ∀ y0_ ∈ l1, ((Lit.int .i64 y0_.f0).wf = true ∧ ((Lit.int .i64 y0_.f1).wf = true ∧ (y0_.f2.size ≤ 140737488351232 ∧ ((Lit.int .i64 y0_.f3).wf = true ∧ (y0_.f4.size ≤ 140737488351232 ∧ True)))))) → (Lit.int .i64 a2).wf = true → a3.size ≤ 140737488351232 → (Lit.int .i64 a4_1).wf = true → (Lit.int .i64 a4_2).wf = true → (Lit.int .i64 a4_3).wf = true → a4_4.size ≤ 140737488351232 → ∃ k, pinfoldlaw17_ClaimTwice.f k a0_0 a0_1 l0_2 l0_3 a0_4 a0_5 l0_6 l1 a2 a3 a4_0 a4_1 a4_2 a4_3 a4_4 = some true
theorem pinfoldlaw17_ClaimTwice.walk (P : pinfoldlaw17_ClaimTwice.Pure) (a0_0 : Int) (a0_1 : Int) (A0_2 : Option Addr) (c0_2 : Nat) (l0_2 : List Int) (A0_3 : Option Addr) (c0_3 : Nat) (l0_3 : List (S72)) (a0_4 : Int) (a0_5 : ByteArray) (A0_6 : Option Addr) (c0_6 : Nat) (l0_6 : List (S74)) (A1 : Option Addr) (c1 : Nat) (l1 : List (S36)) (a2 : Int) (a3 : ByteArray) (a4_0 : Bool) (a4_1 : Int) (a4_2 : Int) (a4_3 : Int) (a4_4 : ByteArray) (w : World) (hr0_2 : Kd.C (Kd.int .i64) w A0_2 l0_2.length l0_2) (hc0_2 : l0_2.length ≤ c0_2) (hr0_3 : Kd.C k72 w A0_3 l0_3.length l0_3) (hc0_3 : l0_3.length ≤ c0_3) (hr0_6 : Kd.C k74 w A0_6 l0_6.length l0_6) (hc0_6 : l0_6.length ≤ c0_6) (hr1 : Kd.C k36 w A1 l1.length l1) (hc1 : l1.length ≤ c1) (w0_0 : (Lit.int .i64 a0_0).wf = true) (w0_1 : (Lit.int .i64 a0_1).wf = true) (w0_2 : (l0_2.length * Tryd.prog.bytesOf 3 ≤ 140737488351232 ∧ ∀ y0_ ∈ l0_2, (Lit.int .i64 y0_).wf = true)) (w0_3 : (l0_3.length * Tryd.prog.bytesOf 72 ≤ 140737488351232 ∧ ∀ y0_ ∈ l0_3, (y0_.f0.size ≤ 140737488351232 ∧ (Lit.int .i64 y0_.f1).wf = true))) (w0_4 : (Lit.int .i64 a0_4).wf = true) (w0_5 : a0_5.size ≤ 140737488351232) (w0_6 : (l0_6.length * Tryd.prog.bytesOf 74 ≤ 140737488351232 ∧ ∀ y0_ ∈ l0_6, (y0_.f0.size ≤ 140737488351232 ∧ ((Lit.int .i64 y0_.f1).wf = true ∧ ((Lit.int .i64 y0_.f2).wf = true ∧ ((Lit.int .i64 y0_.f3).wf = true ∧ (y0_.f4.size ≤ 140737488351232 ∧ (y0_.f5.size ≤ 140737488351232 ∧ (Lit.int .i64 y0_.f6).wf = true)))))))) (w1 : (l1.length * Tryd.prog.bytesOf 36 ≤ 140737488351232 ∧ ∀ y0_ ∈ l1, ((Lit.int .i64 y0_.f0).wf = true ∧ ((Lit.int .i64 y0_.f1).wf = true ∧ (y0_.f2.size ≤ 140737488351232 ∧ ((Lit.int .i64 y0_.f3).wf = true ∧ (y0_.f4.size ≤ 140737488351232 ∧ True))))))) (w2 : (Lit.int .i64 a2).wf = true) (w3 : a3.size ≤ 140737488351232) (w4_1 : (Lit.int .i64 a4_1).wf = true) (w4_2 : (Lit.int .i64 a4_2).wf = true) (w4_3 : (Lit.int .i64 a4_3).wf = true) (w4_4 : a4_4.size ≤ 140737488351232) :
  Calls Tryd.prog 7 #[.agg #[.int .i64 a0_0, .int .i64 a0_1, .slice A0_2 l0_2.length c0_2, .slice A0_3 l0_3.length c0_3, .int .i64 a0_4, .string a0_5, .slice A0_6 l0_6.length c0_6], .slice A1 l1.length c1, .int .i64 a2, .string a3, .agg #[.bool a4_0, .int .i64 a4_1, .int .i64 a4_2, .int .i64 a4_3, .string a4_4]] w fun e w' => e = .returned (.bool true) ∧ Below w.heap.size w w' := by
 obtain ⟨k, h⟩ := P a0_0 a0_1 l0_2 l0_3 a0_4 a0_5 l0_6 l1 a2 a3 a4_0 a4_1 a4_2 a4_3 a4_4 w0_0 w0_1 w0_2 w0_3 w0_4 w0_5 w0_6 w1 w2 w3 w4_1 w4_2 w4_3 w4_4
 refine (pinfoldlaw17_ClaimTwice.calls k a0_0 a0_1 _ _ l0_2 _ _ l0_3 a0_4 a0_5 _ _ l0_6 _ _ l1 a2 a3 a4_0 a4_1 a4_2 a4_3 a4_4 true w hr0_2 hc0_2 hr0_3 hc0_3 hr0_6 hc0_6 hr1 hc1 h).mono ?_
 rintro e w' ⟨rfl, hd⟩
 exact ⟨rfl, hd⟩

end Go.Proofs.YtibalpbkmgegnaaDoor.PJ
