-- Made by wip/pr.py out of the translation (a turned copy of the kit's print; contracts by hand where said).
import Derived.Test.YtibmakpghbinbaaPSx0
import Derived.Test.YtibmakpghbinbaaPSx1
import Derived.Test.YtibmakpghbinbaaPSx2
import Derived.Test.YtibmakpghbinbaaPSx3
namespace Go.Proofs.Ytibmakpghbinbaa.PS
open Go.RowKit Go.Proofs.YtibmakpghbinbaaW.PrintWords Go.Proofs.YtibmakpghbinbaaW.PrintLast Go.Proofs.YtibmakpghbinbaaW.PrintMore
-- shrunk
attribute [local go_sem] max2_int min2_int max_two min_two max_three min_three max_four min_four   -- for this text's walks alone
set_option linter.unusedVariables false
set_option linter.unusedSimpArgs false

attribute [local go_sem high] eqA37
/-! ### table_May: function 25 -/
-- BY HAND
-- 59
def hostAheadT (l : List S37) (i : Nat) : Option Int := if i = 0 then none else some (rd_T37 l ((i - 1 : Nat) : Int)).f0
def table_May.S (gl : Nat) (x0 x1 : Int) (x2 : ByteArray) (x3 : Int) (x4 : ByteArray) (x5 : Bool) (pa : Addr) (y0 : Int) (w' : World) : Prop := w'.cell? ⟨gl, 0, none⟩ = some (.int .i64 x0) ∧ w'.cell? ⟨gl, 1, none⟩ = some (.int .i64 x1) ∧ w'.cell? ⟨gl, 2, none⟩ = some (.string x2) ∧ w'.cell? ⟨gl, 3, none⟩ = some (.int .i64 x3) ∧ w'.cell? ⟨gl, 4, none⟩ = some (.string x4) ∧ w'.cell? ⟨gl, 5, none⟩ = some (.bool x5) ∧ w'.cell? pa = some (.int .i64 y0)
theorem table_May.S_below {w w2 : World} {gl : Nat} {x0 x1 : Int} {x2 : ByteArray} {x3 : Int} {x4 : ByteArray} {x5 : Bool} {pa : Addr} {y0 : Int} (h : table_May.S gl x0 x1 x2 x3 x4 x5 pa y0 w) (hb : Below w.heap.size w w2) : table_May.S gl x0 x1 x2 x3 x4 x5 pa y0 w2 := by
 obtain ⟨s0, s1, s2, s3, s4, s5, s6⟩ := h
 exact ⟨(hb.cell (wb_ _ _ s0)).trans s0, (hb.cell (wb_ _ _ s1)).trans s1, (hb.cell (wb_ _ _ s2)).trans s2, (hb.cell (wb_ _ _ s3)).trans s3, (hb.cell (wb_ _ _ s4)).trans s4, (hb.cell (wb_ _ _ s5)).trans s5, (hb.cell (wb_ _ _ s6)).trans s6⟩
def table_May_c.f (l0 : List S37) : Option Bool := if tabFit l0 then some (tableB l0) else none
set_option maxHeartbeats 8000000 in
set_option maxRecDepth 100000 in
theorem table_May_c.calls (A0 : Option Addr) (c0 : Nat) (l0 : List S37) (r : Bool) (w : World) (hr0 : Kd.C k37 w A0 l0.length l0) (hc0 : l0.length ≤ c0) (h : table_May_c.f l0 = some r) :
  Calls Try.prog 25 #[.slice A0 l0.length c0] w fun e w' => e = .returned (.bool r) ∧ Below w.heap.size w w' := by
 unfold table_May_c.f at h
 by_cases hs : tabFit l0
 rotate_left
 ·rw [if_neg hs] at h
  cases h
 rw [if_pos hs] at h
 have HT := am_ (show (goTab (hostAheadT l0 (0 : Int).toNat) (l0.drop (0 : Int).toNat) && decide (l0.length ≤ 8)) = r from e5_ h)
 have hl := hs.1
 have HX := am_ hs.2
 have HR := am_ hr0
 have HB := am_ (Below.refl w.heap.size w)
 clear h hs hr0 hc0
 go_enter Try.func25, Try.ntmps25
 go_wp2
 go_loopg [7] l0.length (fun d v w' => ∃ i : Int, 0 ≤ i ∧ i.toNat + d = l0.length ∧ v = .int .i64 i ∧ Aside0 (Below w.heap.size w w') ∧ Aside0 ((goTab (hostAheadT l0 i.toNat) (l0.drop i.toNat) && decide (l0.length ≤ 8)) = r))
 case atStart => exact ⟨0, by omega, by simp, rfl, HB, HT⟩
 case round =>
  clear HB HT
  obtain ⟨i, hi0, hd, rfl, HB, HT⟩ := hrel
  by_cases hlt : i < (l0.length : Int)
  ·obtain ⟨ad, e1, hw0, hw1, hw2, hw3, hw4, hw5⟩ := at_T37 HR.out i hi0 hlt
   cases e1
   have hx0 := (HB.out.cell (wb_ w _ hw0)).trans hw0; have hx1 := (HB.out.cell (wb_ w _ hw1)).trans hw1; have hx2 := (HB.out.cell (wb_ w _ hw2)).trans hw2; have hx3 := (HB.out.cell (wb_ w _ hw3)).trans hw3; have hx4 := (HB.out.cell (wb_ w _ hw4)).trans hw4; have hx5 := (HB.out.cell (wb_ w _ hw5)).trans hw5
   have hd1 := dropLease l0 i hi0 hlt
   have hsz := HX.out _ hd1.2
   have hst := HT.out
   rw [hd1.1] at hst
   have hnx : hostAheadT l0 (i.toNat + 1) = some (rd_T37 l0 i).f0 := by
    unfold hostAheadT
    rw [if_neg (by omega), Nat.add_sub_cancel, Int.toNat_of_nonneg hi0]
   have hi2 : (i + 1).toNat = i.toNat + 1 := by omega
   have hpv : ¬ i = 0 → ∃ j y, wrap64 (i - 1) = j ∧ 0 ≤ j ∧ j < (l0.length : Int) ∧ hostAheadT l0 i.toNat = some y ∧ w.cell? (ad.add (j.toNat * 6)) = some (.int .i64 y) := by
    intro h0
    have h1 : wrap64 (i - 1) = i - 1 := by unfold wrap64; omega
    obtain ⟨ad2, e2, hy0, _⟩ := at_T37 HR.out (i - 1) (by omega) (by omega)
    cases e2
    refine ⟨i - 1, _, h1, by omega, by omega, ?_, hy0⟩
    unfold hostAheadT
    rw [if_neg (by omega), show ((i.toNat - 1 : Nat) : Int) = i - 1 by omega]
   generalize rd_T37 l0 i = x at hw0 hw1 hw2 hw3 hw4 hw5 hx0 hx1 hx2 hx3 hx4 hx5 hsz hst hnx
   clear hd1 HT
   obtain ⟨x0, x1, x2, x3, x4, x5⟩ := x
   simp only at hw0 hw1 hw2 hw3 hw4 hw5 hx0 hx1 hx2 hx3 hx4 hx5 hsz hst hnx
   obtain ⟨b1, h1⟩ : ∃ b, leaseB x0 x1 x2 x3 x4 x5 = b := ⟨_, rfl⟩
   have hst2 : ((b1 && (above (hostAheadT l0 i.toNat) x0 && goTab (some x0) (l0.drop (i.toNat + 1)))) && decide (l0.length ≤ 8)) = r := by rw [← h1]; exact hst
   rw [← hnx, ← hi2] at hst2
   clear hst hnx
   have CM := am_ (fun W => lease_May.calls x0 x1 x2 x3 x4 x5 b1 W (by unfold lease_May.f; rw [if_pos hsz, h1]))
   have H1 := am_ (show 0 ≤ i + 1 by omega)
   have H2 := am_ (show (i + 1).toNat + (l0.length - (i.toNat + 1)) = l0.length by omega)
   have H3 := am_ (show l0.length - (i.toNat + 1) < gk by omega)
   have H4 := am_ (show IntKind.i64.wrap (i + 1) = i + 1 from (i64_w _).trans (by unfold wrap64; omega))
   have H6 := am_ (fun (h : i = 0) => show i.toNat = 0 by rw [h]; rfl)
   have H5 := am_ (fun (h : ¬ i = 0) => show 0 < i by omega)
   replace hi0 := am_ hi0
   replace hd := am_ hd
   replace hl := am_ hl
   have clt := decide_eq_true hlt
   have cle := decide_eq_true hi0.out
   have plt := eq_true hlt
   have ple := eq_true hi0.out
   clear h1 hlt
   cases b1 with
   | false =>
    have HF := am_ (show false = r by rw [← hst2]; rfl)
    clear hst2 hpv hi2
    go_wp2_with fail
    have HB1 := am_ (below_drew (p3_ HB.out (.cells #[.int .i64 x0, .int .i64 x1, .string x2, .int .i64 x3, .string x4, .bool x5] 37)))
    have BX1 := am_ (k3_ (blk_new wr (.cells #[.int .i64 x0, .int .i64 x1, .string x2, .int .i64 x3, .string x4, .bool x5] 37)))
    refine seqS (S := table_May.S wr.heap.size x0 x1 x2 x3 x4 x5 ⟨wr.heap.size, 0, none⟩ x0) 18 (by kernel_rfl) rfl rfl (by unfold table_May.S; exact ⟨(bc_ BX1.out 0).trans rfl, (bc_ BX1.out 1).trans rfl, (bc_ BX1.out 2).trans rfl, (bc_ BX1.out 3).trans rfl, (bc_ BX1.out 4).trans rfl, (bc_ BX1.out 5).trans rfl, (bc_ BX1.out 0).trans rfl⟩) ?_
    intro hHeld
    clear hx0 hx1 hx2 hx3 hx4 hx5 hw0 hw1 hw2 hw3 hw4 hw5 HB BX1
    iterate 1 first | (refine seqP (v := ?_) (a' := ?_) rfl rfl (by kernel_rfl) (fun _ _ _ h => h) (Or.inl ⟨by kernel_rfl, ?_⟩) ?_ ?_; rotate_left; (intro w'; go_simp; with_reducible rfl); rotate_left; (simp only [Act.put, sa_, sb_, sc_, i64_w, i32_w]; rfl)) | (refine seqL (v := ?_) (a' := ?_) rfl rfl (by kernel_rfl) (fun _ _ _ h => h) (Or.inl ⟨by kernel_rfl, ?_⟩) hHeld ?_ ?_; rotate_left; (rintro w' ⟨s0, s1, s2, s3, s4, s5, s6⟩; go_simp; with_reducible rfl); rotate_left; (simp only [Act.put, sa_, sb_, sc_, i64_w, i32_w]; rfl))
    refine seqG (fn := Try.f59) rfl rfl (by kernel_rfl) rfl Try.func59 (by kernel_rfl) (by kernel_rfl) #[.agg #[.int .i64 x0, .int .i64 x1, .string x2, .int .i64 x3, .string x4, .bool x5]] (by kernel_rfl) (by (try simp only [List.map_toArray, List.map_cons, List.map_nil]); first | done | rfl) ?_
    with_reducible refine (CM.out _).mono ?_
    rintro e wg ⟨rfl, hb2⟩
    have HB2 := am_ (bt_ HB1.out hb2)
    refine ⟨_, rfl, table_May.S_below hHeld hb2, fun hHeld => ⟨?_, ?_, ?_⟩⟩
    rotate_left
    ·simp only [Act.put, sa_, sb_, sc_, i64_w, i32_w]
     rfl
    clear hb2 HB1 CM
    iterate 2 first | (refine seqP (v := ?_) (a' := ?_) rfl rfl (by kernel_rfl) (fun _ _ _ h => h) (Or.inl ⟨by kernel_rfl, ?_⟩) ?_ ?_; rotate_left; (intro w'; go_simp; with_reducible rfl); rotate_left; (simp only [Act.put, sa_, sb_, sc_, i64_w, i32_w]; rfl)) | (refine seqL (v := ?_) (a' := ?_) rfl rfl (by kernel_rfl) (fun _ _ _ h => h) (Or.inl ⟨by kernel_rfl, ?_⟩) hHeld ?_ ?_; rotate_left; (rintro w' ⟨s0, s1, s2, s3, s4, s5, s6⟩; go_simp; with_reducible rfl); rotate_left; (simp only [Act.put, sa_, sb_, sc_, i64_w, i32_w]; rfl))
    iterate 13 (refine seqP (v := undef) (a' := ?_) rfl rfl (by kernel_rfl) (fun _ _ _ h => h) (Or.inr ⟨by kernel_rfl, rfl⟩) ?_ ?_; rotate_left; (simp only [Act.put, sa_, sb_, sc_, i64_w, i32_w]; rfl))
    iterate 1 first | (refine seqP (v := ?_) (a' := ?_) rfl rfl (by kernel_rfl) (fun _ _ _ h => h) (Or.inl ⟨by kernel_rfl, ?_⟩) ?_ ?_; rotate_left; (intro w'; go_simp; with_reducible rfl); rotate_left; (simp only [Act.put, sa_, sb_, sc_, i64_w, i32_w]; rfl)) | (refine seqL (v := ?_) (a' := ?_) rfl rfl (by kernel_rfl) (fun _ _ _ h => h) (Or.inl ⟨by kernel_rfl, ?_⟩) hHeld ?_ ?_; rotate_left; (rintro w' ⟨s0, s1, s2, s3, s4, s5, s6⟩; go_simp; with_reducible rfl); rotate_left; (simp only [Act.put, sa_, sb_, sc_, i64_w, i32_w]; rfl))
    refine seqE (by kernel_rfl) ?_
    go_wp2
    go_ret
    exact ⟨ret_bool (HF.out), HB2.out⟩
   | true =>
   rw [Bool.true_and] at hst2
   by_cases hp : i = 0
   ·have cp : decide (0 < i) = false := decide_eq_false (by omega)
    have HN := am_ (show (goTab (hostAheadT l0 (i + 1).toNat) (l0.drop (i + 1).toNat) && decide (l0.length ≤ 8)) = r by rw [← hst2, show hostAheadT l0 i.toNat = none by unfold hostAheadT; rw [if_pos (H6.out hp)], show above none x0 = true from rfl, Bool.true_and])
    replace hp := am_ hp
    clear hst2 hpv hi2
    go_wp2_with fail
    have HB1 := am_ (below_drew (p3_ HB.out (.cells #[.int .i64 x0, .int .i64 x1, .string x2, .int .i64 x3, .string x4, .bool x5] 37)))
    have BX1 := am_ (k3_ (blk_new wr (.cells #[.int .i64 x0, .int .i64 x1, .string x2, .int .i64 x3, .string x4, .bool x5] 37)))
    refine seqS (S := table_May.S wr.heap.size x0 x1 x2 x3 x4 x5 ⟨wr.heap.size, 0, none⟩ x0) 18 (by kernel_rfl) rfl rfl (by unfold table_May.S; exact ⟨(bc_ BX1.out 0).trans rfl, (bc_ BX1.out 1).trans rfl, (bc_ BX1.out 2).trans rfl, (bc_ BX1.out 3).trans rfl, (bc_ BX1.out 4).trans rfl, (bc_ BX1.out 5).trans rfl, (bc_ BX1.out 0).trans rfl⟩) ?_
    intro hHeld
    clear hx0 hx1 hx2 hx3 hx4 hx5 hw0 hw1 hw2 hw3 hw4 hw5 HB BX1
    iterate 1 first | (refine seqP (v := ?_) (a' := ?_) rfl rfl (by kernel_rfl) (fun _ _ _ h => h) (Or.inl ⟨by kernel_rfl, ?_⟩) ?_ ?_; rotate_left; (intro w'; go_simp; with_reducible rfl); rotate_left; (simp only [Act.put, sa_, sb_, sc_, i64_w, i32_w]; rfl)) | (refine seqL (v := ?_) (a' := ?_) rfl rfl (by kernel_rfl) (fun _ _ _ h => h) (Or.inl ⟨by kernel_rfl, ?_⟩) hHeld ?_ ?_; rotate_left; (rintro w' ⟨s0, s1, s2, s3, s4, s5, s6⟩; go_simp; with_reducible rfl); rotate_left; (simp only [Act.put, sa_, sb_, sc_, i64_w, i32_w]; rfl))
    refine seqG (fn := Try.f59) rfl rfl (by kernel_rfl) rfl Try.func59 (by kernel_rfl) (by kernel_rfl) #[.agg #[.int .i64 x0, .int .i64 x1, .string x2, .int .i64 x3, .string x4, .bool x5]] (by kernel_rfl) (by (try simp only [List.map_toArray, List.map_cons, List.map_nil]); first | done | rfl) ?_
    with_reducible refine (CM.out _).mono ?_
    rintro e wg ⟨rfl, hb2⟩
    have HB2 := am_ (bt_ HB1.out hb2)
    refine ⟨_, rfl, table_May.S_below hHeld hb2, fun hHeld => ⟨?_, ?_, ?_⟩⟩
    rotate_left
    ·simp only [Act.put, sa_, sb_, sc_, i64_w, i32_w]
     rfl
    clear hb2 HB1 CM
    iterate 2 first | (refine seqP (v := ?_) (a' := ?_) rfl rfl (by kernel_rfl) (fun _ _ _ h => h) (Or.inl ⟨by kernel_rfl, ?_⟩) ?_ ?_; rotate_left; (intro w'; go_simp; with_reducible rfl); rotate_left; (simp only [Act.put, sa_, sb_, sc_, i64_w, i32_w]; rfl)) | (refine seqL (v := ?_) (a' := ?_) rfl rfl (by kernel_rfl) (fun _ _ _ h => h) (Or.inl ⟨by kernel_rfl, ?_⟩) hHeld ?_ ?_; rotate_left; (rintro w' ⟨s0, s1, s2, s3, s4, s5, s6⟩; go_simp; with_reducible rfl); rotate_left; (simp only [Act.put, sa_, sb_, sc_, i64_w, i32_w]; rfl))
    iterate 3 first | (refine seqP (v := ?_) (a' := ?_) rfl rfl (by kernel_rfl) (fun _ _ _ h => h) (Or.inl ⟨by kernel_rfl, ?_⟩) ?_ ?_; rotate_left; (intro w'; go_simp; with_reducible rfl); rotate_left; (simp only [Act.put, sa_, sb_, sc_, i64_w, i32_w]; rfl)) | (refine seqL (v := ?_) (a' := ?_) rfl rfl (by kernel_rfl) (fun _ _ _ h => h) (Or.inl ⟨by kernel_rfl, ?_⟩) hHeld ?_ ?_; rotate_left; (rintro w' ⟨s0, s1, s2, s3, s4, s5, s6⟩; go_simp; with_reducible rfl); rotate_left; (simp only [Act.put, sa_, sb_, sc_, i64_w, i32_w]; rfl))
    iterate 9 (refine seqP (v := undef) (a' := ?_) rfl rfl (by kernel_rfl) (fun _ _ _ h => h) (Or.inr ⟨by kernel_rfl, rfl⟩) ?_ ?_; rotate_left; (simp only [Act.put, sa_, sb_, sc_, i64_w, i32_w]; rfl))
    iterate 2 first | (refine seqP (v := ?_) (a' := ?_) rfl rfl (by kernel_rfl) (fun _ _ _ h => h) (Or.inl ⟨by kernel_rfl, ?_⟩) ?_ ?_; rotate_left; (intro w'; go_simp; with_reducible rfl); rotate_left; (simp only [Act.put, sa_, sb_, sc_, i64_w, i32_w]; rfl)) | (refine seqL (v := ?_) (a' := ?_) rfl rfl (by kernel_rfl) (fun _ _ _ h => h) (Or.inl ⟨by kernel_rfl, ?_⟩) hHeld ?_ ?_; rotate_left; (rintro w' ⟨s0, s1, s2, s3, s4, s5, s6⟩; go_simp; with_reducible rfl); rotate_left; (simp only [Act.put, sa_, sb_, sc_, i64_w, i32_w]; rfl))
    refine seqE (by kernel_rfl) ?_
    go_wp2
    go_roundg (l0.length - (i.toNat + 1))
    case measure => exact H3.out
    case rel => exact ⟨i + 1, H1.out, H2.out, by first | rfl | (rw [show wrap64 (i + 1) = i + 1 from (i64_w _).symm.trans H4.out]), HB2, HN⟩
   ·obtain ⟨j, y, hj, hj0, hj1, hay, hwy⟩ := hpv hp
    have cp : decide (0 < i) = true := decide_eq_true (H5.out hp)
    have hjw : IntKind.i64.wrap (i - 1) = j := (i64_w _).trans hj
    have pj0 := eq_true hj0
    have pj1 := eq_true hj1
    have cj0 := decide_eq_true hj0
    have cj1 := decide_eq_true hj1
    rw [hay] at hst2
    replace hp := am_ hp
    replace hj0 := am_ hj0
    replace hj1 := am_ hj1
    by_cases hc : x0 ≤ y
    ·have cc : decide (x0 ≤ y) = true := decide_eq_true hc
     have HF := am_ (show false = r by rw [← hst2, show above (some y) x0 = false from decide_eq_false (by omega)]; simp)
     clear hst2 hpv hi2 hc hay
     go_wp2_with fail
     have HB1 := am_ (below_drew (p3_ HB.out (.cells #[.int .i64 x0, .int .i64 x1, .string x2, .int .i64 x3, .string x4, .bool x5] 37)))
     have BX1 := am_ (k3_ (blk_new wr (.cells #[.int .i64 x0, .int .i64 x1, .string x2, .int .i64 x3, .string x4, .bool x5] 37)))
     refine seqS (S := table_May.S wr.heap.size x0 x1 x2 x3 x4 x5 (ad.add (j.toNat * 6)) y) 18 (by kernel_rfl) rfl rfl (by unfold table_May.S; exact ⟨(bc_ BX1.out 0).trans rfl, (bc_ BX1.out 1).trans rfl, (bc_ BX1.out 2).trans rfl, (bc_ BX1.out 3).trans rfl, (bc_ BX1.out 4).trans rfl, (bc_ BX1.out 5).trans rfl, (HB1.out.cell (wb_ w _ hwy)).trans hwy⟩) ?_
     intro hHeld
     clear hx0 hx1 hx2 hx3 hx4 hx5 hw0 hw1 hw2 hw3 hw4 hw5 HB BX1
     iterate 1 first | (refine seqP (v := ?_) (a' := ?_) rfl rfl (by kernel_rfl) (fun _ _ _ h => h) (Or.inl ⟨by kernel_rfl, ?_⟩) ?_ ?_; rotate_left; (intro w'; go_simp; with_reducible rfl); rotate_left; (simp only [Act.put, sa_, sb_, sc_, i64_w, i32_w]; rfl)) | (refine seqL (v := ?_) (a' := ?_) rfl rfl (by kernel_rfl) (fun _ _ _ h => h) (Or.inl ⟨by kernel_rfl, ?_⟩) hHeld ?_ ?_; rotate_left; (rintro w' ⟨s0, s1, s2, s3, s4, s5, s6⟩; go_simp; with_reducible rfl); rotate_left; (simp only [Act.put, sa_, sb_, sc_, i64_w, i32_w]; rfl))
     refine seqG (fn := Try.f59) rfl rfl (by kernel_rfl) rfl Try.func59 (by kernel_rfl) (by kernel_rfl) #[.agg #[.int .i64 x0, .int .i64 x1, .string x2, .int .i64 x3, .string x4, .bool x5]] (by kernel_rfl) (by (try simp only [List.map_toArray, List.map_cons, List.map_nil]); first | done | rfl) ?_
     with_reducible refine (CM.out _).mono ?_
     rintro e wg ⟨rfl, hb2⟩
     have HB2 := am_ (bt_ HB1.out hb2)
     refine ⟨_, rfl, table_May.S_below hHeld hb2, fun hHeld => ⟨?_, ?_, ?_⟩⟩
     rotate_left
     ·simp only [Act.put, sa_, sb_, sc_, i64_w, i32_w]
      rfl
     clear hb2 HB1 CM
     iterate 2 first | (refine seqP (v := ?_) (a' := ?_) rfl rfl (by kernel_rfl) (fun _ _ _ h => h) (Or.inl ⟨by kernel_rfl, ?_⟩) ?_ ?_; rotate_left; (intro w'; go_simp; with_reducible rfl); rotate_left; (simp only [Act.put, sa_, sb_, sc_, i64_w, i32_w]; rfl)) | (refine seqL (v := ?_) (a' := ?_) rfl rfl (by kernel_rfl) (fun _ _ _ h => h) (Or.inl ⟨by kernel_rfl, ?_⟩) hHeld ?_ ?_; rotate_left; (rintro w' ⟨s0, s1, s2, s3, s4, s5, s6⟩; go_simp; with_reducible rfl); rotate_left; (simp only [Act.put, sa_, sb_, sc_, i64_w, i32_w]; rfl))
     iterate 14 first | (refine seqP (v := ?_) (a' := ?_) rfl rfl (by kernel_rfl) (fun _ _ _ h => h) (Or.inl ⟨by kernel_rfl, ?_⟩) ?_ ?_; rotate_left; (intro w'; go_simp; with_reducible rfl); rotate_left; (simp only [Act.put, sa_, sb_, sc_, i64_w, i32_w]; rfl)) | (refine seqL (v := ?_) (a' := ?_) rfl rfl (by kernel_rfl) (fun _ _ _ h => h) (Or.inl ⟨by kernel_rfl, ?_⟩) hHeld ?_ ?_; rotate_left; (rintro w' ⟨s0, s1, s2, s3, s4, s5, s6⟩; go_simp; with_reducible rfl); rotate_left; (simp only [Act.put, sa_, sb_, sc_, i64_w, i32_w]; rfl))
     refine seqE (by kernel_rfl) ?_
     go_wp2
     go_ret
     exact ⟨ret_bool (HF.out), HB2.out⟩
    ·have cc : decide (x0 ≤ y) = false := decide_eq_false hc
     have HN := am_ (show (goTab (hostAheadT l0 (i + 1).toNat) (l0.drop (i + 1).toNat) && decide (l0.length ≤ 8)) = r by rw [← hst2, show above (some y) x0 = true from decide_eq_true (by omega), Bool.true_and])
     clear hst2 hpv hi2 hc hay
     go_wp2_with fail
     have HB1 := am_ (below_drew (p3_ HB.out (.cells #[.int .i64 x0, .int .i64 x1, .string x2, .int .i64 x3, .string x4, .bool x5] 37)))
     have BX1 := am_ (k3_ (blk_new wr (.cells #[.int .i64 x0, .int .i64 x1, .string x2, .int .i64 x3, .string x4, .bool x5] 37)))
     refine seqS (S := table_May.S wr.heap.size x0 x1 x2 x3 x4 x5 (ad.add (j.toNat * 6)) y) 18 (by kernel_rfl) rfl rfl (by unfold table_May.S; exact ⟨(bc_ BX1.out 0).trans rfl, (bc_ BX1.out 1).trans rfl, (bc_ BX1.out 2).trans rfl, (bc_ BX1.out 3).trans rfl, (bc_ BX1.out 4).trans rfl, (bc_ BX1.out 5).trans rfl, (HB1.out.cell (wb_ w _ hwy)).trans hwy⟩) ?_
     intro hHeld
     clear hx0 hx1 hx2 hx3 hx4 hx5 hw0 hw1 hw2 hw3 hw4 hw5 HB BX1
     iterate 1 first | (refine seqP (v := ?_) (a' := ?_) rfl rfl (by kernel_rfl) (fun _ _ _ h => h) (Or.inl ⟨by kernel_rfl, ?_⟩) ?_ ?_; rotate_left; (intro w'; go_simp; with_reducible rfl); rotate_left; (simp only [Act.put, sa_, sb_, sc_, i64_w, i32_w]; rfl)) | (refine seqL (v := ?_) (a' := ?_) rfl rfl (by kernel_rfl) (fun _ _ _ h => h) (Or.inl ⟨by kernel_rfl, ?_⟩) hHeld ?_ ?_; rotate_left; (rintro w' ⟨s0, s1, s2, s3, s4, s5, s6⟩; go_simp; with_reducible rfl); rotate_left; (simp only [Act.put, sa_, sb_, sc_, i64_w, i32_w]; rfl))
     refine seqG (fn := Try.f59) rfl rfl (by kernel_rfl) rfl Try.func59 (by kernel_rfl) (by kernel_rfl) #[.agg #[.int .i64 x0, .int .i64 x1, .string x2, .int .i64 x3, .string x4, .bool x5]] (by kernel_rfl) (by (try simp only [List.map_toArray, List.map_cons, List.map_nil]); first | done | rfl) ?_
     with_reducible refine (CM.out _).mono ?_
     rintro e wg ⟨rfl, hb2⟩
     have HB2 := am_ (bt_ HB1.out hb2)
     refine ⟨_, rfl, table_May.S_below hHeld hb2, fun hHeld => ⟨?_, ?_, ?_⟩⟩
     rotate_left
     ·simp only [Act.put, sa_, sb_, sc_, i64_w, i32_w]
      rfl
     clear hb2 HB1 CM
     iterate 2 first | (refine seqP (v := ?_) (a' := ?_) rfl rfl (by kernel_rfl) (fun _ _ _ h => h) (Or.inl ⟨by kernel_rfl, ?_⟩) ?_ ?_; rotate_left; (intro w'; go_simp; with_reducible rfl); rotate_left; (simp only [Act.put, sa_, sb_, sc_, i64_w, i32_w]; rfl)) | (refine seqL (v := ?_) (a' := ?_) rfl rfl (by kernel_rfl) (fun _ _ _ h => h) (Or.inl ⟨by kernel_rfl, ?_⟩) hHeld ?_ ?_; rotate_left; (rintro w' ⟨s0, s1, s2, s3, s4, s5, s6⟩; go_simp; with_reducible rfl); rotate_left; (simp only [Act.put, sa_, sb_, sc_, i64_w, i32_w]; rfl))
     iterate 14 first | (refine seqP (v := ?_) (a' := ?_) rfl rfl (by kernel_rfl) (fun _ _ _ h => h) (Or.inl ⟨by kernel_rfl, ?_⟩) ?_ ?_; rotate_left; (intro w'; go_simp; with_reducible rfl); rotate_left; (simp only [Act.put, sa_, sb_, sc_, i64_w, i32_w]; rfl)) | (refine seqL (v := ?_) (a' := ?_) rfl rfl (by kernel_rfl) (fun _ _ _ h => h) (Or.inl ⟨by kernel_rfl, ?_⟩) hHeld ?_ ?_; rotate_left; (rintro w' ⟨s0, s1, s2, s3, s4, s5, s6⟩; go_simp; with_reducible rfl); rotate_left; (simp only [Act.put, sa_, sb_, sc_, i64_w, i32_w]; rfl))
     refine seqE (by kernel_rfl) ?_
     go_wp2
     go_roundg (l0.length - (i.toNat + 1))
     case measure => exact H3.out
     case rel => exact ⟨i + 1, H1.out, H2.out, by first | rfl | (rw [show wrap64 (i + 1) = i + 1 from (i64_w _).symm.trans H4.out]), HB2, HN⟩
  ·have HF := am_ (show decide (l0.length ≤ 8) = r by have h1 := HT.out; rw [List.drop_eq_nil_of_le (by omega)] at h1; rw [← h1, show goTab (hostAheadT l0 i.toNat) [] = true from rfl, Bool.true_and])
   by_cases h8 : l0.length ≤ 8
   ·have c8 : decide ((l0.length : Int) ≤ 8) = true := decide_eq_true (by omega)
    have HG := am_ (show true = r by rw [← HF.out]; exact (decide_eq_true h8).symm)
    clear HT HF
    go_wp2
    go_ret
    exact ⟨ret_bool HG.out, HB.out⟩
   ·have c8 : decide ((l0.length : Int) ≤ 8) = false := decide_eq_false (by omega)
    have HG := am_ (show false = r by rw [← HF.out]; exact (decide_eq_false h8).symm)
    clear HT HF
    go_wp2
    go_ret
    exact ⟨ret_bool HG.out, HB.out⟩

/-! ### lease_Live: function 43 -/
-- BY HAND
def lease_Live.f (a0_0 : Int) (a0_1 : Int) (a0_2 : ByteArray) (a0_3 : Int) (a0_4 : ByteArray) (a0_5 : Bool) (a1 : Int) : Option Bool := if a0_4.size ≤ 140737488351232 then some (liveB a0_0 a0_1 a0_2 a0_3 a0_4 a0_5 a1) else none
set_option maxHeartbeats 8000000 in
set_option maxRecDepth 100000 in
theorem lease_Live.calls (a0_0 : Int) (a0_1 : Int) (a0_2 : ByteArray) (a0_3 : Int) (a0_4 : ByteArray) (a0_5 : Bool) (a1 : Int) (r : Bool) (w : World) (h : lease_Live.f a0_0 a0_1 a0_2 a0_3 a0_4 a0_5 a1 = some r) :
  Calls Try.prog 43 #[.agg #[.int .i64 a0_0, .int .i64 a0_1, .string a0_2, .int .i64 a0_3, .string a0_4, .bool a0_5], .int .i64 a1] w fun e w' => e = .returned (.bool r) ∧ Below w.heap.size w w' := by
 unfold lease_Live.f at h
 by_cases hs : a0_4.size ≤ 140737488351232
 rotate_left
 ·rw [if_neg hs] at h
  cases h
 rw [if_pos hs] at h
 have HR := e5_ h
 unfold liveB at HR
 obtain ⟨b1, h1⟩ : ∃ b, leaseB a0_0 a0_1 a0_2 a0_3 a0_4 a0_5 = b := ⟨_, rfl⟩
 rw [h1] at HR
 have C1 := am_ (fun W => lease_May.calls a0_0 a0_1 a0_2 a0_3 a0_4 a0_5 b1 W (by unfold lease_May.f; rw [if_pos hs, h1]))
 have BK := am_ (blk_new w (.cells #[.int .i64 a0_0, .int .i64 a0_1, .string a0_2, .int .i64 a0_3, .string a0_4, .bool a0_5] 37))
 have HB := am_ (Below.refl w.heap.size w)
 replace HR := am_ HR
 clear h hs h1
 go_enter Try.func43, Try.ntmps43
 go_wp2_with (first
  | (go_at_call 59; (with_reducible refine (C1.out _).mono ?_); rintro e w1 ⟨rfl, hb2⟩; replace BK := am_ (kb_ (show _ from (by (with_reducible repeat (first | exact BK.out | refine k2_ ?_ _ | refine k3_ ?_ | refine k1_ ?_ _)))) hb2); replace HB := am_ (bt_ (show Below w.heap.size w _ by repeat (with_reducible first | exact HB.out | apply p3_ | apply p1_ | apply p2_)) hb2); clear hb2; have u0 := bc_ BK.out 0; have u1 := bc_ BK.out 1; have u2 := bc_ BK.out 2; have u3 := bc_ BK.out 3; have u4 := bc_ BK.out 4; have u5 := bc_ BK.out 5))
 all_goals (try go_ret)
 all_goals refine ⟨ret_bool ?_, ?_⟩
 all_goals first
  | ((repeat (with_reducible first | exact HB.out | apply p3_ | apply p1_ | apply p2_)); done)
  | (rw [← HR.out]; clear HR HB C1 BK; (try clear v0 v1 v2 v3 v4 v5); (try clear u0 u1 u2 u3 u4 u5); rw [Bool.eq_iff_iff]; (simp_all; done))
  | (rw [← HR.out]; clear HR HB C1 BK; simp_all <;> omega)

/-! ### lease_Freed: function 44 -/
def lease_Freed.f (a0_0 : Int) (a0_1 : Int) (a0_2 : ByteArray) (a0_3 : Int) (a0_4 : ByteArray) (a0_5 : Bool) : Option (Int × Int × ByteArray × Int × ByteArray × Bool) := some (a0_0, 0, a0_2, a0_3, (⟨#[]⟩ : ByteArray), false)
set_option maxHeartbeats 8000000 in
set_option maxRecDepth 100000 in
theorem lease_Freed.calls (a0_0 : Int) (a0_1 : Int) (a0_2 : ByteArray) (a0_3 : Int) (a0_4 : ByteArray) (a0_5 : Bool) (r1 : Int) (r2 : Int) (r3 : ByteArray) (r4 : Int) (r5 : ByteArray) (r6 : Bool) (w : World) (h : lease_Freed.f a0_0 a0_1 a0_2 a0_3 a0_4 a0_5 = some (r1, r2, r3, r4, r5, r6)) :
  Calls Try.prog 44 #[.agg #[.int .i64 a0_0, .int .i64 a0_1, .string a0_2, .int .i64 a0_3, .string a0_4, .bool a0_5]] w fun e w' => e = .returned (.agg #[.int .i64 r1, .int .i64 r2, .string r3, .int .i64 r4, .string r5, .bool r6]) ∧ Below w.heap.size w w' := by
 have hu37 := Try.underlying37
 have HB := am_ (Below.refl w.heap.size w)
 have H : (some (a0_0, 0, a0_2, a0_3, (⟨#[]⟩ : ByteArray), false)) = some (r1, r2, r3, r4, r5, r6) := h
 clear h
 simp only [Option.some.injEq, Prod.mk.injEq] at H
 obtain ⟨rfl, rfl, rfl, rfl, rfl, rfl⟩ := H
 go_enter Try.func44, Try.ntmps44
 go_wp2_with (first | ((with_reducible refine gate_dst (N := 1) rfl ?_); refine box_event ?hg (N := 1) ?hd (cs := #[.int .i64 a0_0, .int .i64 a0_1, .string a0_2, .int .i64 a0_3, .string a0_4, .bool a0_5]) (t := 37) ?hr ?_; (case hd => rfl); (case hg => rfl); (case hr => first | (go_simp; done) | (go_simp; rfl)); intro gb106 hg w2 hbox hb; have n0_ := am_ (bt_ (by repeat (with_reducible first | exact HB.out | apply p3_ | apply p1_ | apply p2_)) hb); have n1_ := am_ (hbox); have n2_ := am_ ((by rw [hg]; exact (bz_ (by repeat (with_reducible first | exact HB.out | apply p3_ | apply p1_ | apply p2_))) : w.heap.size ≤ gb106)); have n3_ := am_ ((by rw [hg]; exact (bz_ (by repeat (with_reducible first | exact HB.out | apply p3_ | apply p1_ | apply p2_))) : w.heap.size ≤ gb106)); clear HB; have HB := n0_; have BK106 := n1_; have GW106 := n2_; have GE106 := n3_; clear n0_ n1_ n2_ n3_; clear hb hbox hg) | ((with_reducible refine gate_dst (N := 2) rfl ?_); refine box_event ?hg (N := 2) ?hd (cs := #[.int .i64 0, .int .i64 0, .string (⟨#[]⟩ : ByteArray), .int .i64 0, .string (⟨#[]⟩ : ByteArray), .bool false]) (t := 37) ?hr ?_; (case hd => rfl); (case hg => rfl); (case hr => first | (go_simp; done) | (go_simp; rfl)); intro gb107 hg w3 hbox hb; have n0_ := am_ (kb_ (g := gb106) (o := .cells #[.int .i64 a0_0, .int .i64 a0_1, .string a0_2, .int .i64 a0_3, .string a0_4, .bool a0_5] 37 (0, 0)) (by (with_reducible repeat (first | refine k2_ ?_ _ | refine k3_ ?_ | refine k1_ ?_ _)); exact BK106.out) hb); have n1_ := am_ (bt_ (by repeat (with_reducible first | exact HB.out | apply p3_ | apply p1_ | apply p2_ | refine bs_ ?_ GE106.out)) hb); have n2_ := am_ (hbox); have n3_ := am_ ((by rw [hg]; exact (bz_ (by repeat (with_reducible first | exact HB.out | apply p3_ | apply p1_ | apply p2_ | refine bs_ ?_ GE106.out))) : w.heap.size ≤ gb107)); have n4_ := am_ ((by rw [hg]; exact (bz_ (by repeat (with_reducible first | exact HB.out | apply p3_ | apply p1_ | apply p2_ | refine bs_ ?_ GE106.out))) : w.heap.size ≤ gb107)); have n5_ := am_ ((by rw [hg]; exact Nat.ne_of_lt (blk_lt (g := gb106) (o := .cells #[.int .i64 a0_0, .int .i64 a0_1, .string a0_2, .int .i64 a0_3, .string a0_4, .bool a0_5] 37 (0, 0)) (by (with_reducible repeat (first | refine k2_ ?_ _ | refine k3_ ?_ | refine k1_ ?_ _)); exact BK106.out)) : gb106 ≠ gb107)); have n6_ := am_ ((by rw [hg]; exact Nat.ne_of_gt (blk_lt (g := gb106) (o := .cells #[.int .i64 a0_0, .int .i64 a0_1, .string a0_2, .int .i64 a0_3, .string a0_4, .bool a0_5] 37 (0, 0)) (by (with_reducible repeat (first | refine k2_ ?_ _ | refine k3_ ?_ | refine k1_ ?_ _)); exact BK106.out)) : gb107 ≠ gb106)); clear BK106; clear HB; have BK106 := n0_; have HB := n1_; have BK107 := n2_; have GW107 := n3_; have GE107 := n4_; have NB106_107 := n5_; have NB107_106 := n6_; clear n0_ n1_ n2_ n3_ n4_ n5_ n6_; clear hb hbox hg; have hnb4 := NB106_107.out; have hnc4 := NB107_106.out; have hcz5_0 : w3.cell? ⟨gb106, 0, none⟩ = some (.int .i64 a0_0) := (bc_ BK106.out 0).trans rfl; have hcz5_1 : w3.cell? ⟨gb106, 1, none⟩ = some (.int .i64 a0_1) := (bc_ BK106.out 1).trans rfl; have hcz5_2 : w3.cell? ⟨gb106, 2, none⟩ = some (.string a0_2) := (bc_ BK106.out 2).trans rfl; have hcz5_3 : w3.cell? ⟨gb106, 3, none⟩ = some (.int .i64 a0_3) := (bc_ BK106.out 3).trans rfl; have hcz5_4 : w3.cell? ⟨gb106, 4, none⟩ = some (.string a0_4) := (bc_ BK106.out 4).trans rfl; have hcz5_5 : w3.cell? ⟨gb106, 5, none⟩ = some (.bool a0_5) := (bc_ BK106.out 5).trans rfl; have hfz5_0 := bf_ BK106.out 0; have hfz5_1 := bf_ BK106.out 1; have hfz5_2 := bf_ BK106.out 2; have hfz5_3 := bf_ BK106.out 3; have hfz5_4 := bf_ BK106.out 4; have hfz5_5 := bf_ BK106.out 5; have hcz6_0 : w3.cell? ⟨gb107, 0, none⟩ = some (.int .i64 0) := (bc_ BK107.out 0).trans rfl; have hcz6_1 : w3.cell? ⟨gb107, 1, none⟩ = some (.int .i64 0) := (bc_ BK107.out 1).trans rfl; have hcz6_2 : w3.cell? ⟨gb107, 2, none⟩ = some (.string (⟨#[]⟩ : ByteArray)) := (bc_ BK107.out 2).trans rfl; have hcz6_3 : w3.cell? ⟨gb107, 3, none⟩ = some (.int .i64 0) := (bc_ BK107.out 3).trans rfl; have hcz6_4 : w3.cell? ⟨gb107, 4, none⟩ = some (.string (⟨#[]⟩ : ByteArray)) := (bc_ BK107.out 4).trans rfl; have hcz6_5 : w3.cell? ⟨gb107, 5, none⟩ = some (.bool false) := (bc_ BK107.out 5).trans rfl; have hfz6_0 := bf_ BK107.out 0; have hfz6_1 := bf_ BK107.out 1; have hfz6_2 := bf_ BK107.out 2; have hfz6_3 := bf_ BK107.out 3; have hfz6_4 := bf_ BK107.out 4; have hfz6_5 := bf_ BK107.out 5))
 refine bodyPost_ret (results_cell_row rfl _ _ gb107 37 #[.int .i64 a0_0, .int .i64 0, .string a0_2, .int .i64 a0_3, .string (⟨#[]⟩ : ByteArray), .bool false] (0, 0) _ rfl (by (with_reducible repeat (first | refine k2_ ?_ _ | refine k3_ ?_ | refine k1_ ?_ _)); refine blk_put (cs := #[.int .i64 a0_0, .int .i64 0, .string a0_2, .int .i64 a0_3, .string (⟨#[]⟩ : ByteArray), .bool false]) ?_ 5 _ rfl; (with_reducible repeat (first | refine k2_ ?_ _ | refine k3_ ?_ | refine k1_ ?_ _)); refine blk_put (cs := #[.int .i64 a0_0, .int .i64 0, .string a0_2, .int .i64 a0_3, .string (⟨#[]⟩ : ByteArray), .bool false]) ?_ 4 _ rfl; (with_reducible repeat (first | refine k2_ ?_ _ | refine k3_ ?_ | refine k1_ ?_ _)); refine blk_put (cs := #[.int .i64 a0_0, .int .i64 0, .string a0_2, .int .i64 0, .string (⟨#[]⟩ : ByteArray), .bool false]) ?_ 3 _ rfl; (with_reducible repeat (first | refine k2_ ?_ _ | refine k3_ ?_ | refine k1_ ?_ _)); refine blk_put (cs := #[.int .i64 a0_0, .int .i64 0, .string (⟨#[]⟩ : ByteArray), .int .i64 0, .string (⟨#[]⟩ : ByteArray), .bool false]) ?_ 2 _ rfl; (with_reducible repeat (first | refine k2_ ?_ _ | refine k3_ ?_ | refine k1_ ?_ _)); refine blk_put (cs := #[.int .i64 a0_0, .int .i64 0, .string (⟨#[]⟩ : ByteArray), .int .i64 0, .string (⟨#[]⟩ : ByteArray), .bool false]) ?_ 1 _ rfl; (with_reducible repeat (first | refine k2_ ?_ _ | refine k3_ ?_ | refine k1_ ?_ _)); refine blk_put (cs := #[.int .i64 0, .int .i64 0, .string (⟨#[]⟩ : ByteArray), .int .i64 0, .string (⟨#[]⟩ : ByteArray), .bool false]) ?_ 0 _ rfl; (with_reducible repeat (first | refine k2_ ?_ _ | refine k3_ ?_ | refine k1_ ?_ _)); exact BK107.out) Try.underlying37 rfl (by kernel_rfl)) rfl ?_
 exact ⟨by first | rfl | (simp [errW_none, errW_some] <;> rfl) | (simp [*, errW_none, errW_some] <;> rfl), by repeat (with_reducible first | exact HB.out | apply p3_ | apply p1_ | apply p2_ | refine bs_ ?_ GE106.out | refine bs_ ?_ GE107.out)⟩

/-! ### sweep_Sweep: function 14 -/
mutual
def sweep_Sweep.j0 : Nat → List (S37) → Int → Bool → Option ((List (S37)) × Int)
 | 0, _, _, _ => none
 | k + 1, x0, x1, x16 => if x16 = true then (some (([] : List (S37)), 1900)) else (sweep_Sweep.l0 k x1 ([] : List (S37)) x0 (x0.length : Int) 0)
def sweep_Sweep.l0 : Nat → Int → List (S37) → List (S37) → Int → Int → Option ((List (S37)) × Int)
 | 0, _, _, _, _, _ => none
 | k + 1, x1, x6, x17, x18, x19 => if x19 < x18 then (if 0 ≤ x19 then (if x19 < (x17.length : Int) then ((lease_Live.f ((rd_T37 x17 x19).f0) ((rd_T37 x17 x19).f1) ((rd_T37 x17 x19).f2) ((rd_T37 x17 x19).f3) ((rd_T37 x17 x19).f4) ((rd_T37 x17 x19).f5) x1).bind fun t112 => (if t112 = true then (if x6.length < 2199023255552 then (sweep_Sweep.l0 k x1 (x6 ++ [(⟨(rd_T37 x17 x19).f0, (rd_T37 x17 x19).f1, (rd_T37 x17 x19).f2, (rd_T37 x17 x19).f3, (rd_T37 x17 x19).f4, (rd_T37 x17 x19).f5⟩ : S37)]) x17 x18 (wrap64 (x19 + 1))) else (none)) else ((lease_Freed.f ((rd_T37 x17 x19).f0) ((rd_T37 x17 x19).f1) ((rd_T37 x17 x19).f2) ((rd_T37 x17 x19).f3) ((rd_T37 x17 x19).f4) ((rd_T37 x17 x19).f5)).bind fun bt116 => (if x6.length < 2199023255552 then (sweep_Sweep.l0 k x1 (x6 ++ [(⟨bt116.1, bt116.2.1, bt116.2.2.1, bt116.2.2.2.1, bt116.2.2.2.2.1, bt116.2.2.2.2.2⟩ : S37)]) x17 x18 (wrap64 (x19 + 1))) else (none))))) else (none)) else (none)) else (some (x6, 0))
end
def sweep_Sweep.f (k : Nat) (l0 : List (S37)) (a1 : Int) : Option ((List (S37)) × Int) := (table_May_c.f l0).bind fun t108 => (if t108 = true then ((lease_Time_c.f a1).bind fun t109 => (sweep_Sweep.j0 k l0 a1 (!t109))) else (sweep_Sweep.j0 k l0 a1 true))
theorem sweep_Sweep.mono_l : ∀ k, (∀ y0 y1 y2, LeO (sweep_Sweep.j0 k y0 y1 y2) (sweep_Sweep.j0 (k + 1) y0 y1 y2)) ∧ (∀ y0 y1 y2 y3 y4, LeO (sweep_Sweep.l0 k y0 y1 y2 y3 y4) (sweep_Sweep.l0 (k + 1) y0 y1 y2 y3 y4))
 | 0 => ⟨fun _ _ _ r h => by simp [sweep_Sweep.j0] at h, fun _ _ _ _ _ r h => by simp [sweep_Sweep.l0] at h⟩
 | k + 1 => by
  obtain ⟨ih0, ih1⟩ := sweep_Sweep.mono_l k
  refine ⟨?_, ?_⟩
  ·intro y0 y1 y2
   unfold sweep_Sweep.j0
   repeat' first
   | (with_reducible exact ih0 _ _ _)
   | (with_reducible exact ih1 _ _ _ _ _)
   | (with_reducible exact LeO.refl _)
   | (with_reducible exact LeO.none _)
   | (with_reducible refine LeO.ite ?_ ?_)
   | (with_reducible refine LeO.bind ?_ (fun _ => ?_))
   | exact ih0 _ _ _
   | exact ih1 _ _ _ _ _
   | exact LeO.none _
   | refine LeO.ite ?_ ?_
   | refine LeO.bind ?_ (fun _ => ?_)
  ·intro y0 y1 y2 y3 y4
   unfold sweep_Sweep.l0
   repeat' first
   | (with_reducible exact ih0 _ _ _)
   | (with_reducible exact ih1 _ _ _ _ _)
   | (with_reducible exact LeO.refl _)
   | (with_reducible exact LeO.none _)
   | (with_reducible refine LeO.ite ?_ ?_)
   | (with_reducible refine LeO.bind ?_ (fun _ => ?_))
   | exact ih0 _ _ _
   | exact ih1 _ _ _ _ _
   | exact LeO.none _
   | refine LeO.ite ?_ ?_
   | refine LeO.bind ?_ (fun _ => ?_)
theorem sweep_Sweep.mono : ∀ a0 a1 k, LeO (sweep_Sweep.f k a0 a1) (sweep_Sweep.f (k + 1) a0 a1) := by
 intro a0 a1 k
 obtain ⟨ih0, ih1⟩ := sweep_Sweep.mono_l k
 unfold sweep_Sweep.f
 repeat' first
   | (with_reducible exact ih0 _ _ _)
   | (with_reducible exact ih1 _ _ _ _ _)
   | (with_reducible exact LeO.refl _)
   | (with_reducible exact LeO.none _)
   | (with_reducible refine LeO.ite ?_ ?_)
   | (with_reducible refine LeO.bind ?_ (fun _ => ?_))
   | exact ih0 _ _ _
   | exact ih1 _ _ _ _ _
   | exact LeO.none _
   | refine LeO.ite ?_ ?_
   | refine LeO.bind ?_ (fun _ => ?_)
set_option maxHeartbeats 8000000 in
set_option maxRecDepth 100000 in
theorem sweep_Sweep.calls (k : Nat) (A0 : Option Addr) (c0 : Nat) (l0 : List (S37)) (a1 : Int) (r1 : List (S37)) (r2 : Int) (w : World) (hr0 : Kd.C k37 w A0 l0.length l0) (hc0 : l0.length ≤ c0) (h : sweep_Sweep.f k l0 a1 = some (r1, r2)) :
  Calls Try.prog 14 #[.slice A0 l0.length c0, .int .i64 a1] w fun e w' => ∃ v0_ : Value, e = .returned (.tuple #[v0_, .int .i64 r2]) ∧ Kd.R k37 37 w' w.heap.size (fun _ => True) v0_ r1 ∧ Below w.heap.size w w' := by
 have hu37 := Try.underlying37
 have HR0 := am_ hr0
 have HC0 := am_ hc0
 clear hr0 hc0
 have HB := am_ (Below.refl w.heap.size w)
 have H : ((table_May_c.f l0).bind fun t108 => (if t108 = true then ((lease_Time_c.f a1).bind fun t109 => (sweep_Sweep.j0 k l0 a1 (!t109))) else (sweep_Sweep.j0 k l0 a1 true))) = some (r1, r2) := h
 clear h
 have HC3 := am_ H
 clear H
 go_enter Try.func14, Try.ntmps14
 go_upto_region 1 with (fail)
 go_cut [16] (fun v16 wc => ∃ (kq : Nat) (x16_2 : Bool), v16 = .bool x16_2 ∧ Aside0 (sweep_Sweep.j0 kq l0 a1 x16_2 = some (r1, r2)) ∧ Aside0 (kq ≤ k) ∧ Aside0 (Below w.heap.size w wc))
 case first =>
  have H := HC3.out
  clear HC3
  replace H := e4_ H
  obtain ⟨t108, A40, H⟩ := H
  replace H : (if t108 = true then ((lease_Time_c.f a1).bind fun t109 => (sweep_Sweep.j0 k l0 a1 (!t109))) else (sweep_Sweep.j0 k l0 a1 true)) = some (r1, r2) := H
  have A4 := am_ A40
  clear A40
  by_cases c5 : t108 = true
  ·subst c5
   have H1 : ((lease_Time_c.f a1).bind fun t109 => (sweep_Sweep.j0 k l0 a1 (!t109))) = some (r1, r2) := by rw [if_pos rfl] at H; exact H
   clear H
   have H := H1
   clear H1
   replace H := e4_ H
   obtain ⟨t109, A60, H⟩ := H
   replace H : (sweep_Sweep.j0 k l0 a1 (!t109)) = some (r1, r2) := H
   have A6 := am_ A60
   clear A60
   have H' := am_ H
   clear H
   go_wp2_with (first | ((with_reducible refine gate_callee (f := 25) rfl ?_); refine goesL_ (some 10) rfl rfl Try.func25 (by kernel_rfl) rfl #[.slice A0 l0.length c0] rfl (by (try simp only [List.map_toArray, List.map_cons, List.map_nil]); first | done | rfl | (simp only [List.length_drop, List.length_take]; rfl)) ?_; (with_reducible refine (table_May_c.calls _ _ l0 true _ ?side1 ?side2 A4.out).mono ?_); (case side1 => repeat (first | exact (c4_ HR0.out HB.out) | (with_reducible refine c1_ ?_ _) | (with_reducible refine c2_ ?_ _) | (with_reducible refine c3_ ?_))); (case side2 => exact HC0.out); rintro e w7 ⟨rfl, hb⟩; refine ⟨_, rfl, ?_⟩; have n0_ := am_ (bt_ (by repeat (with_reducible first | exact HB.out | apply p3_ | apply p1_ | apply p2_)) hb); clear HB; have HB := n0_; clear n0_; (try clear hb)) | (go_at_call 42; (with_reducible refine (lease_Time_c.calls a1 t109 _ A6.out).mono ?_); rintro e w' ⟨rfl, ⟨nd, rfl⟩⟩))
   go_meet
   case rel => exact ⟨_, (!t109), (by first | rfl | (simp; done) | (simp [*]; done)), H', ⟨by first | omega | exact Nat.le_refl _⟩, ⟨by repeat (with_reducible first | exact HB.out | apply p3_ | apply p1_ | apply p2_)⟩⟩
  replace c5 := e3_ c5
  subst c5
  have H1 : (sweep_Sweep.j0 k l0 a1 true) = some (r1, r2) := by rw [if_neg (show ¬ (false = true) by decide)] at H; exact H
  clear H
  have H := H1
  clear H1
  have H' := am_ H
  clear H
  go_wp2_with (first | ((with_reducible refine gate_callee (f := 25) rfl ?_); refine goesL_ (some 10) rfl rfl Try.func25 (by kernel_rfl) rfl #[.slice A0 l0.length c0] rfl (by (try simp only [List.map_toArray, List.map_cons, List.map_nil]); first | done | rfl | (simp only [List.length_drop, List.length_take]; rfl)) ?_; (with_reducible refine (table_May_c.calls _ _ l0 false _ ?side1 ?side2 A4.out).mono ?_); (case side1 => repeat (first | exact (c4_ HR0.out HB.out) | (with_reducible refine c1_ ?_ _) | (with_reducible refine c2_ ?_ _) | (with_reducible refine c3_ ?_))); (case side2 => exact HC0.out); rintro e w8 ⟨rfl, hb⟩; refine ⟨_, rfl, ?_⟩; have n0_ := am_ (bt_ (by repeat (with_reducible first | exact HB.out | apply p3_ | apply p1_ | apply p2_)) hb); clear HB; have HB := n0_; clear n0_; (try clear hb)))
  go_meet
  case rel => exact ⟨_, (true), (by first | rfl | (simp; done) | (simp [*]; done)), H', ⟨by first | omega | exact Nat.le_refl _⟩, ⟨by repeat (with_reducible first | exact HB.out | apply p3_ | apply p1_ | apply p2_)⟩⟩
 case rest =>
  clear HC3
  obtain ⟨kq, x16_2, rfl, HA, HJ2, HB⟩ := hcut
  cases kq with
  | zero => exact absurd HA.out (by simp [sweep_Sweep.j0])
  | succ kj2 =>
   have H := HA.out
   clear HA
   simp only [sweep_Sweep.j0] at H
   by_cases c9 : x16_2 = true
   ·subst c9
    have H1 : (some (([] : List (S37)), 1900)) = some (r1, r2) := by rw [if_pos rfl] at H; exact H
    clear H
    have H := H1
    clear H1
    simp only [Option.some.injEq, Prod.mk.injEq] at H
    obtain ⟨rfl, rfl⟩ := H
    go_wp2
    go_ret2
    exact ⟨_, by first | rfl | (simp [errW_none, errW_some] <;> rfl) | (simp [*, errW_none, errW_some] <;> rfl), by first | exact Kd.R_nil _ _ _ _ _ | exact Kd.N_nil _ _ _ _ _ | exact Kd.V_nil _ _ _ _ _ | exact Kd.Q_nil _ _ _ _ _ | exact Kd.S_nil _ _ _ _ _, by repeat (with_reducible first | exact HB.out | apply p3_ | apply p1_ | apply p2_)⟩
   replace c9 := e3_ c9
   subst c9
   have H1 : (sweep_Sweep.l0 kj2 a1 ([] : List (S37)) l0 (l0.length : Int) 0) = some (r1, r2) := by rw [if_neg (show ¬ (false = true) by decide)] at H; exact H
   clear H
   have H := H1
   clear H1
   have H' := am_ H
   clear H
   go_wp2
   go_loopg [6, 19] kj2 (fun kq v6 v19 w' => ∃ (x6_2 : List (S37)) (x19_2 : Int), v19 = .int .i64 x19_2 ∧ Aside0 (sweep_Sweep.l0 kq a1 x6_2 l0 (l0.length : Int) x19_2 = some (r1, r2)) ∧ Aside0 (kq ≤ kj2) ∧ Aside0 (Kd.R k37 37 w' w.heap.size (fun _ => True) v6 x6_2) ∧ Aside0 (Below w.heap.size w w'))
   case atStart => exact ⟨(([] : List (S37))), (0), (by first | rfl | (simp; done) | (simp [*]; done)), H', ⟨Nat.le_refl _⟩, ⟨by first | exact Kd.R_nil _ _ _ _ _ | exact Kd.N_nil _ _ _ _ _ | exact Kd.V_nil _ _ _ _ _ | exact Kd.Q_nil _ _ _ _ _ | exact Kd.S_nil _ _ _ _ _⟩, ⟨by repeat (with_reducible first | exact HB.out | apply p3_ | apply p1_ | apply p2_)⟩⟩
   case round =>
    clear H'
    try clear c9
    obtain ⟨x6_2, x19_2, rfl, HA, HK2, HO_6, HB⟩ := hrel
    cases gk with
    | zero => exact absurd HA.out (by simp [sweep_Sweep.l0])
    | succ k2 =>
     have H := HA.out
     clear HA
     simp only [sweep_Sweep.l0] at H
     by_cases c10 : x19_2 < (l0.length : Int)
     ·rw [if_pos c10] at H
      have c10b0 : decide (x19_2 < (l0.length : Int)) = true := decide_eq_true c10
      clear c10
      by_cases c11 : 0 ≤ x19_2
      rotate_left
      ·rw [if_neg c11] at H
       exact absurd H (by simp)
      rw [if_pos c11] at H
      have c11b0 : decide (0 ≤ x19_2) = true := decide_eq_true c11
      clear c11
      by_cases c12 : x19_2 < (l0.length : Int)
      rotate_left
      ·rw [if_neg c12] at H
       exact absurd H (by simp)
      rw [if_pos c12] at H
      have c12b0 : decide (x19_2 < (l0.length : Int)) = true := decide_eq_true c12
      clear c12
      replace H := e4_ H
      obtain ⟨t112, A130, H⟩ := H
      replace H : (if t112 = true then (if x6_2.length < 2199023255552 then (sweep_Sweep.l0 k2 a1 (x6_2 ++ [(⟨(rd_T37 l0 x19_2).f0, (rd_T37 l0 x19_2).f1, (rd_T37 l0 x19_2).f2, (rd_T37 l0 x19_2).f3, (rd_T37 l0 x19_2).f4, (rd_T37 l0 x19_2).f5⟩ : S37)]) l0 (l0.length : Int) (wrap64 (x19_2 + 1))) else (none)) else ((lease_Freed.f ((rd_T37 l0 x19_2).f0) ((rd_T37 l0 x19_2).f1) ((rd_T37 l0 x19_2).f2) ((rd_T37 l0 x19_2).f3) ((rd_T37 l0 x19_2).f4) ((rd_T37 l0 x19_2).f5)).bind fun bt116 => (if x6_2.length < 2199023255552 then (sweep_Sweep.l0 k2 a1 (x6_2 ++ [(⟨bt116.1, bt116.2.1, bt116.2.2.1, bt116.2.2.2.1, bt116.2.2.2.2.1, bt116.2.2.2.2.2⟩ : S37)]) l0 (l0.length : Int) (wrap64 (x19_2 + 1))) else (none)))) = some (r1, r2) := H
      have A13 := am_ A130
      clear A130
      by_cases c14 : t112 = true
      ·subst c14
       have H1 : (if x6_2.length < 2199023255552 then (sweep_Sweep.l0 k2 a1 (x6_2 ++ [(⟨(rd_T37 l0 x19_2).f0, (rd_T37 l0 x19_2).f1, (rd_T37 l0 x19_2).f2, (rd_T37 l0 x19_2).f3, (rd_T37 l0 x19_2).f4, (rd_T37 l0 x19_2).f5⟩ : S37)]) l0 (l0.length : Int) (wrap64 (x19_2 + 1))) else (none)) = some (r1, r2) := by rw [if_pos rfl] at H; exact H
       clear H
       have H := H1
       clear H1
       by_cases c15 : x6_2.length < 2199023255552
       rotate_left
       ·rw [if_neg c15] at H
        exact absurd H (by simp)
       rw [if_pos c15] at H
       have LMc15 := am_ c15
       clear c15
       obtain ⟨y113, hy113⟩ : ∃ y_ : List (S37), y_ = (x6_2 ++ [(⟨(rd_T37 l0 x19_2).f0, (rd_T37 l0 x19_2).f1, (rd_T37 l0 x19_2).f2, (rd_T37 l0 x19_2).f3, (rd_T37 l0 x19_2).f4, (rd_T37 l0 x19_2).f5⟩ : S37)]) := ⟨_, rfl⟩
       replace H : (sweep_Sweep.l0 k2 a1 y113 l0 (l0.length : Int) (wrap64 (x19_2 + 1))) = some (r1, r2) := by first | (rw [hy113]; with_reducible exact H) | (have H2_ := (Option.bind_some _ _).symm.trans H; rw [hy113]; with_reducible exact H2_) | (have H2_ := (Option.bind_some _ _).symm.trans H; with_reducible exact H2_) | with_reducible exact H | (rw [hy113]; exact H) | exact H
       have Ny113 := am_ hy113
       clear hy113
       have H' := am_ H
       clear H
       have p110 : 0 ≤ (x19_2 : Int) := of_decide_eq_true (by first | (with_reducible assumption) | assumption)
       have q110 : x19_2 < (l0.length : Int) := of_decide_eq_true (by first | (with_reducible assumption) | assumption)
       obtain ⟨ad110, e110, hx110_0, hx110_1, hx110_2, hx110_3, hx110_4, hx110_5⟩ := at_T37 HR0.out x19_2 p110 q110
       cases e110
       replace hx110_0 := (HB.out.cell (wb_ w _ hx110_0)).trans hx110_0
       replace hx110_1 := (HB.out.cell (wb_ w _ hx110_1)).trans hx110_1
       replace hx110_2 := (HB.out.cell (wb_ w _ hx110_2)).trans hx110_2
       replace hx110_3 := (HB.out.cell (wb_ w _ hx110_3)).trans hx110_3
       replace hx110_4 := (HB.out.cell (wb_ w _ hx110_4)).trans hx110_4
       replace hx110_5 := (HB.out.cell (wb_ w _ hx110_5)).trans hx110_5
       replace p110 := eq_true p110
       replace q110 := eq_true q110
       go_wp2_with (first | ((with_reducible refine gate_dst (N := 8) rfl ?_); refine box_event ?hg (N := 8) ?hd (cs := #[.int .i64 0, .int .i64 0, .string (⟨#[]⟩ : ByteArray), .int .i64 0, .string (⟨#[]⟩ : ByteArray), .bool false]) (t := 37) ?hr ?_; (case hd => rfl); (case hg => rfl); (case hr => first | (go_simp; done) | (go_simp; rfl)); intro gb111 hg w16 hbox hb; have n0_ := am_ (Kd.R_below (Kd.R_elderB (by (with_reducible repeat (first | apply r1_ | apply r2_ | apply r3_)); exact HO_6.out) gb111 (Nat.le_of_eq hg.symm)) hb); have n1_ := am_ (bt_ (by repeat (with_reducible first | exact HB.out | apply p3_ | apply p1_ | apply p2_)) hb); have n2_ := am_ (hbox); have n3_ := am_ ((by rw [hg]; exact (bz_ (by repeat (with_reducible first | exact HB.out | apply p3_ | apply p1_ | apply p2_))) : w.heap.size ≤ gb111)); have n4_ := am_ ((by rw [hg]; exact (bz_ (by repeat (with_reducible first | exact HB.out | apply p3_ | apply p1_ | apply p2_))) : w.heap.size ≤ gb111)); clear HO_6; clear HB; have HO_6 := n0_; have HB := n1_; have BK111 := n2_; have GW111 := n3_; have GE111 := n4_; clear n0_ n1_ n2_ n3_ n4_; clear hb hbox hg; have hcz17_0 : w16.cell? ⟨gb111, 0, none⟩ = some (.int .i64 0) := (bc_ BK111.out 0).trans rfl; have hcz17_1 : w16.cell? ⟨gb111, 1, none⟩ = some (.int .i64 0) := (bc_ BK111.out 1).trans rfl; have hcz17_2 : w16.cell? ⟨gb111, 2, none⟩ = some (.string (⟨#[]⟩ : ByteArray)) := (bc_ BK111.out 2).trans rfl; have hcz17_3 : w16.cell? ⟨gb111, 3, none⟩ = some (.int .i64 0) := (bc_ BK111.out 3).trans rfl; have hcz17_4 : w16.cell? ⟨gb111, 4, none⟩ = some (.string (⟨#[]⟩ : ByteArray)) := (bc_ BK111.out 4).trans rfl; have hcz17_5 : w16.cell? ⟨gb111, 5, none⟩ = some (.bool false) := (bc_ BK111.out 5).trans rfl; have hfz17_0 := bf_ BK111.out 0; have hfz17_1 := bf_ BK111.out 1; have hfz17_2 := bf_ BK111.out 2; have hfz17_3 := bf_ BK111.out 3; have hfz17_4 := bf_ BK111.out 4; have hfz17_5 := bf_ BK111.out 5) | ((with_reducible refine gate_callee (f := 43) rfl ?_); refine goesL_ (some 25) rfl rfl Try.func43 (by kernel_rfl) rfl #[.agg #[.int .i64 ((rd_T37 l0 x19_2).f0), .int .i64 ((rd_T37 l0 x19_2).f1), .string ((rd_T37 l0 x19_2).f2), .int .i64 ((rd_T37 l0 x19_2).f3), .string ((rd_T37 l0 x19_2).f4), .bool ((rd_T37 l0 x19_2).f5)], .int .i64 a1] rfl (by (try simp only [List.map_toArray, List.map_cons, List.map_nil]); first | done | rfl | (simp only [List.length_drop, List.length_take]; rfl)) ?_; (with_reducible refine (lease_Live.calls ((rd_T37 l0 x19_2).f0) ((rd_T37 l0 x19_2).f1) ((rd_T37 l0 x19_2).f2) ((rd_T37 l0 x19_2).f3) ((rd_T37 l0 x19_2).f4) ((rd_T37 l0 x19_2).f5) a1 true _ A13.out).mono ?_); rintro e w18 ⟨rfl, hb⟩; refine ⟨_, rfl, ?_⟩; have n0_ := am_ (Kd.R_below (by (with_reducible repeat (first | apply r1_ | apply r2_ | apply r3_)); exact (Kd.R_mono (Kd.R_far (p := ⟨gb111, 5, none⟩) (Kd.R_far (p := ⟨gb111, 4, none⟩) (Kd.R_far (p := ⟨gb111, 3, none⟩) (Kd.R_far (p := ⟨gb111, 2, none⟩) (Kd.R_far (p := ⟨gb111, 1, none⟩) (Kd.R_far (p := ⟨gb111, 0, none⟩) (Kd.R_mono HO_6.out (fun k_ hk => (⟨hk, hk.2⟩ : _ ∧ k_ ≠ gb111))) (fun _ hk => hk.2) (.int .i64 ((rd_T37 l0 x19_2).f0))) (fun _ hk => hk.2) (.int .i64 ((rd_T37 l0 x19_2).f1))) (fun _ hk => hk.2) (.string ((rd_T37 l0 x19_2).f2))) (fun _ hk => hk.2) (.int .i64 ((rd_T37 l0 x19_2).f3))) (fun _ hk => hk.2) (.string ((rd_T37 l0 x19_2).f4))) (fun _ hk => hk.2) (.bool ((rd_T37 l0 x19_2).f5))) (fun _ h_ => h_.1))) hb); have n1_ := am_ (kb_ (g := gb111) (o := .cells #[.int .i64 ((rd_T37 l0 x19_2).f0), .int .i64 ((rd_T37 l0 x19_2).f1), .string ((rd_T37 l0 x19_2).f2), .int .i64 ((rd_T37 l0 x19_2).f3), .string ((rd_T37 l0 x19_2).f4), .bool ((rd_T37 l0 x19_2).f5)] 37 (0, 0)) (by (with_reducible repeat (first | refine k2_ ?_ _ | refine k3_ ?_ | refine k1_ ?_ _)); refine blk_put (cs := #[.int .i64 ((rd_T37 l0 x19_2).f0), .int .i64 ((rd_T37 l0 x19_2).f1), .string ((rd_T37 l0 x19_2).f2), .int .i64 ((rd_T37 l0 x19_2).f3), .string ((rd_T37 l0 x19_2).f4), .bool false]) ?_ 5 _ rfl; (with_reducible repeat (first | refine k2_ ?_ _ | refine k3_ ?_ | refine k1_ ?_ _)); refine blk_put (cs := #[.int .i64 ((rd_T37 l0 x19_2).f0), .int .i64 ((rd_T37 l0 x19_2).f1), .string ((rd_T37 l0 x19_2).f2), .int .i64 ((rd_T37 l0 x19_2).f3), .string (⟨#[]⟩ : ByteArray), .bool false]) ?_ 4 _ rfl; (with_reducible repeat (first | refine k2_ ?_ _ | refine k3_ ?_ | refine k1_ ?_ _)); refine blk_put (cs := #[.int .i64 ((rd_T37 l0 x19_2).f0), .int .i64 ((rd_T37 l0 x19_2).f1), .string ((rd_T37 l0 x19_2).f2), .int .i64 0, .string (⟨#[]⟩ : ByteArray), .bool false]) ?_ 3 _ rfl; (with_reducible repeat (first | refine k2_ ?_ _ | refine k3_ ?_ | refine k1_ ?_ _)); refine blk_put (cs := #[.int .i64 ((rd_T37 l0 x19_2).f0), .int .i64 ((rd_T37 l0 x19_2).f1), .string (⟨#[]⟩ : ByteArray), .int .i64 0, .string (⟨#[]⟩ : ByteArray), .bool false]) ?_ 2 _ rfl; (with_reducible repeat (first | refine k2_ ?_ _ | refine k3_ ?_ | refine k1_ ?_ _)); refine blk_put (cs := #[.int .i64 ((rd_T37 l0 x19_2).f0), .int .i64 0, .string (⟨#[]⟩ : ByteArray), .int .i64 0, .string (⟨#[]⟩ : ByteArray), .bool false]) ?_ 1 _ rfl; (with_reducible repeat (first | refine k2_ ?_ _ | refine k3_ ?_ | refine k1_ ?_ _)); refine blk_put (cs := #[.int .i64 0, .int .i64 0, .string (⟨#[]⟩ : ByteArray), .int .i64 0, .string (⟨#[]⟩ : ByteArray), .bool false]) ?_ 0 _ rfl; (with_reducible repeat (first | refine k2_ ?_ _ | refine k3_ ?_ | refine k1_ ?_ _)); exact BK111.out) hb); have n2_ := am_ (bt_ (by repeat (with_reducible first | exact HB.out | apply p3_ | apply p1_ | apply p2_ | refine bs_ ?_ GE111.out)) hb); clear HO_6; clear BK111; clear HB; have HO_6 := n0_; have BK111 := n1_; have HB := n2_; clear n0_ n1_ n2_; (try clear hb); have hcz19_0 : w18.cell? ⟨gb111, 0, none⟩ = some (.int .i64 ((rd_T37 l0 x19_2).f0)) := (bc_ BK111.out 0).trans rfl; have hcz19_1 : w18.cell? ⟨gb111, 1, none⟩ = some (.int .i64 ((rd_T37 l0 x19_2).f1)) := (bc_ BK111.out 1).trans rfl; have hcz19_2 : w18.cell? ⟨gb111, 2, none⟩ = some (.string ((rd_T37 l0 x19_2).f2)) := (bc_ BK111.out 2).trans rfl; have hcz19_3 : w18.cell? ⟨gb111, 3, none⟩ = some (.int .i64 ((rd_T37 l0 x19_2).f3)) := (bc_ BK111.out 3).trans rfl; have hcz19_4 : w18.cell? ⟨gb111, 4, none⟩ = some (.string ((rd_T37 l0 x19_2).f4)) := (bc_ BK111.out 4).trans rfl; have hcz19_5 : w18.cell? ⟨gb111, 5, none⟩ = some (.bool ((rd_T37 l0 x19_2).f5)) := (bc_ BK111.out 5).trans rfl; have hfz19_0 := bf_ BK111.out 0; have hfz19_1 := bf_ BK111.out 1; have hfz19_2 := bf_ BK111.out 2; have hfz19_3 := bf_ BK111.out 3; have hfz19_4 := bf_ BK111.out 4; have hfz19_5 := bf_ BK111.out 5) | ((with_reducible refine gate_builtin (b := .append) (xs := #[.tmp 29, .tmp 31]) rfl ?_); at_builtin; refine Kd.R_append k37 (w0 := w) w.heap.size rfl (.tmp 29) (.tmp 31) 27 37 (.agg #[(.int .i64 0), (.int .i64 0), (.string ⟨#[]⟩), (.int .i64 0), (.string ⟨#[]⟩), (.bool false)]) 64 rfl Try.underlying27 info37 rfl (by decide) (by omega) u6 x6_2 (⟨(rd_T37 l0 x19_2).f0, (rd_T37 l0 x19_2).f1, (rd_T37 l0 x19_2).f2, (rd_T37 l0 x19_2).f3, (rd_T37 l0 x19_2).f4, (rd_T37 l0 x19_2).f5⟩ : S37) [.int .i64 ((rd_T37 l0 x19_2).f0), .int .i64 ((rd_T37 l0 x19_2).f1), .string ((rd_T37 l0 x19_2).f2), .int .i64 ((rd_T37 l0 x19_2).f3), .string ((rd_T37 l0 x19_2).f4), .bool ((rd_T37 l0 x19_2).f5)] (fun k_ => k_ ≠ gb111) (fun _ => False) rfl rfl ?aP (fun _ hk => hk.elim) ?aF ?aO ?aB ?aS ?aL ?_; (case aP => exact k37_mkM _ _ _ (⟨(rd_T37 l0 x19_2).f0, (rd_T37 l0 x19_2).f1, (rd_T37 l0 x19_2).f2, (rd_T37 l0 x19_2).f3, (rd_T37 l0 x19_2).f4, (rd_T37 l0 x19_2).f5⟩ : S37)); (case aB => exact (by repeat (with_reducible first | exact HB.out | apply p3_ | apply p1_ | apply p2_ | refine bs_ ?_ GE111.out))); (case aF => exact (fun k_ hk => Kd.freshB (g := gb111) (o := .cells #[.int .i64 ((rd_T37 l0 x19_2).f0), .int .i64 ((rd_T37 l0 x19_2).f1), .string ((rd_T37 l0 x19_2).f2), .int .i64 ((rd_T37 l0 x19_2).f3), .string ((rd_T37 l0 x19_2).f4), .bool ((rd_T37 l0 x19_2).f5)] 37 (0, 0)) (by (with_reducible repeat (first | refine k2_ ?_ _ | refine k3_ ?_ | refine k1_ ?_ _)); exact BK111.out) k_ hk)); (case aO => exact (by (with_reducible repeat (first | apply r1_ | apply r2_ | apply r3_)); exact Kd.R_mono HO_6.out (fun _ hk => hk.2))); (case aS => exact (bz_ (by repeat (with_reducible first | exact HB.out | apply p3_ | apply p1_ | apply p2_ | refine bs_ ?_ GE111.out)))); (case aL => have := LMc15.out; omega); intro v114 w20 ho hb hg hat; rw [← Ny113.out] at ho; have n0_ := am_ (blk_grown (g := gb111) (o := .cells #[.int .i64 ((rd_T37 l0 x19_2).f0), .int .i64 ((rd_T37 l0 x19_2).f1), .string ((rd_T37 l0 x19_2).f2), .int .i64 ((rd_T37 l0 x19_2).f3), .string ((rd_T37 l0 x19_2).f4), .bool ((rd_T37 l0 x19_2).f5)] 37 (0, 0)) (by (with_reducible repeat (first | refine k2_ ?_ _ | refine k3_ ?_ | refine k1_ ?_ _)); exact BK111.out) hg (Kd.R_away HO_6.out (fun _ hk => hk.2))); have n1_ := am_ (hb); have n2_ := am_ (ho); clear BK111; clear HB; clear HO_6; have BK111 := n0_; have HB := n1_; have HO115 := n2_; clear n0_ n1_ n2_; clear ho hb hg hat))
       go_roundg k2
       case measure => have := HJ2.out; have := HK2.out; omega
       case rel => exact ⟨(y113), (wrap64 (x19_2 + 1)), (by first | rfl | (simp; done) | (simp [*]; done)), H', ⟨by have := HJ2.out; have := HK2.out; omega⟩, ⟨by (with_reducible repeat (first | apply r1_ | apply r2_ | apply r3_)); exact Kd.R_mono HO115.out (fun _ hk => trivial)⟩, ⟨by repeat (with_reducible first | exact HB.out | apply p3_ | apply p1_ | apply p2_ | refine bs_ ?_ GE111.out)⟩⟩
      replace c14 := e3_ c14
      subst c14
      have H1 : ((lease_Freed.f ((rd_T37 l0 x19_2).f0) ((rd_T37 l0 x19_2).f1) ((rd_T37 l0 x19_2).f2) ((rd_T37 l0 x19_2).f3) ((rd_T37 l0 x19_2).f4) ((rd_T37 l0 x19_2).f5)).bind fun bt116 => (if x6_2.length < 2199023255552 then (sweep_Sweep.l0 k2 a1 (x6_2 ++ [(⟨bt116.1, bt116.2.1, bt116.2.2.1, bt116.2.2.2.1, bt116.2.2.2.2.1, bt116.2.2.2.2.2⟩ : S37)]) l0 (l0.length : Int) (wrap64 (x19_2 + 1))) else (none))) = some (r1, r2) := by rw [if_neg (show ¬ (false = true) by decide)] at H; exact H
      clear H
      have H := H1
      clear H1
      replace H := e4_ H
      obtain ⟨⟨t116, t117, t118, t119, t120, t121⟩, A210, H⟩ := H
      replace H : (if x6_2.length < 2199023255552 then (sweep_Sweep.l0 k2 a1 (x6_2 ++ [(⟨t116, t117, t118, t119, t120, t121⟩ : S37)]) l0 (l0.length : Int) (wrap64 (x19_2 + 1))) else (none)) = some (r1, r2) := H
      have A21 := am_ A210
      clear A210
      by_cases c22 : x6_2.length < 2199023255552
      rotate_left
      ·rw [if_neg c22] at H
       exact absurd H (by simp)
      rw [if_pos c22] at H
      have LMc22 := am_ c22
      clear c22
      obtain ⟨y122, hy122⟩ : ∃ y_ : List (S37), y_ = (x6_2 ++ [(⟨t116, t117, t118, t119, t120, t121⟩ : S37)]) := ⟨_, rfl⟩
      replace H : (sweep_Sweep.l0 k2 a1 y122 l0 (l0.length : Int) (wrap64 (x19_2 + 1))) = some (r1, r2) := by first | (rw [hy122]; with_reducible exact H) | (have H2_ := (Option.bind_some _ _).symm.trans H; rw [hy122]; with_reducible exact H2_) | (have H2_ := (Option.bind_some _ _).symm.trans H; with_reducible exact H2_) | with_reducible exact H | (rw [hy122]; exact H) | exact H
      have Ny122 := am_ hy122
      clear hy122
      have H' := am_ H
      clear H
      have p110 : 0 ≤ (x19_2 : Int) := of_decide_eq_true (by first | (with_reducible assumption) | assumption)
      have q110 : x19_2 < (l0.length : Int) := of_decide_eq_true (by first | (with_reducible assumption) | assumption)
      obtain ⟨ad110, e110, hx110_0, hx110_1, hx110_2, hx110_3, hx110_4, hx110_5⟩ := at_T37 HR0.out x19_2 p110 q110
      cases e110
      replace hx110_0 := (HB.out.cell (wb_ w _ hx110_0)).trans hx110_0
      replace hx110_1 := (HB.out.cell (wb_ w _ hx110_1)).trans hx110_1
      replace hx110_2 := (HB.out.cell (wb_ w _ hx110_2)).trans hx110_2
      replace hx110_3 := (HB.out.cell (wb_ w _ hx110_3)).trans hx110_3
      replace hx110_4 := (HB.out.cell (wb_ w _ hx110_4)).trans hx110_4
      replace hx110_5 := (HB.out.cell (wb_ w _ hx110_5)).trans hx110_5
      replace p110 := eq_true p110
      replace q110 := eq_true q110
      go_wp2_with (first | ((with_reducible refine gate_dst (N := 8) rfl ?_); refine box_event ?hg (N := 8) ?hd (cs := #[.int .i64 0, .int .i64 0, .string (⟨#[]⟩ : ByteArray), .int .i64 0, .string (⟨#[]⟩ : ByteArray), .bool false]) (t := 37) ?hr ?_; (case hd => rfl); (case hg => rfl); (case hr => first | (go_simp; done) | (go_simp; rfl)); intro gb111 hg w23 hbox hb; have n0_ := am_ (Kd.R_below (Kd.R_elderB (by (with_reducible repeat (first | apply r1_ | apply r2_ | apply r3_)); exact HO_6.out) gb111 (Nat.le_of_eq hg.symm)) hb); have n1_ := am_ (bt_ (by repeat (with_reducible first | exact HB.out | apply p3_ | apply p1_ | apply p2_)) hb); have n2_ := am_ (hbox); have n3_ := am_ ((by rw [hg]; exact (bz_ (by repeat (with_reducible first | exact HB.out | apply p3_ | apply p1_ | apply p2_))) : w.heap.size ≤ gb111)); have n4_ := am_ ((by rw [hg]; exact (bz_ (by repeat (with_reducible first | exact HB.out | apply p3_ | apply p1_ | apply p2_))) : w.heap.size ≤ gb111)); clear HO_6; clear HB; have HO_6 := n0_; have HB := n1_; have BK111 := n2_; have GW111 := n3_; have GE111 := n4_; clear n0_ n1_ n2_ n3_ n4_; clear hb hbox hg; have hcz24_0 : w23.cell? ⟨gb111, 0, none⟩ = some (.int .i64 0) := (bc_ BK111.out 0).trans rfl; have hcz24_1 : w23.cell? ⟨gb111, 1, none⟩ = some (.int .i64 0) := (bc_ BK111.out 1).trans rfl; have hcz24_2 : w23.cell? ⟨gb111, 2, none⟩ = some (.string (⟨#[]⟩ : ByteArray)) := (bc_ BK111.out 2).trans rfl; have hcz24_3 : w23.cell? ⟨gb111, 3, none⟩ = some (.int .i64 0) := (bc_ BK111.out 3).trans rfl; have hcz24_4 : w23.cell? ⟨gb111, 4, none⟩ = some (.string (⟨#[]⟩ : ByteArray)) := (bc_ BK111.out 4).trans rfl; have hcz24_5 : w23.cell? ⟨gb111, 5, none⟩ = some (.bool false) := (bc_ BK111.out 5).trans rfl; have hfz24_0 := bf_ BK111.out 0; have hfz24_1 := bf_ BK111.out 1; have hfz24_2 := bf_ BK111.out 2; have hfz24_3 := bf_ BK111.out 3; have hfz24_4 := bf_ BK111.out 4; have hfz24_5 := bf_ BK111.out 5) | ((with_reducible refine gate_callee (f := 43) rfl ?_); refine goesL_ (some 25) rfl rfl Try.func43 (by kernel_rfl) rfl #[.agg #[.int .i64 ((rd_T37 l0 x19_2).f0), .int .i64 ((rd_T37 l0 x19_2).f1), .string ((rd_T37 l0 x19_2).f2), .int .i64 ((rd_T37 l0 x19_2).f3), .string ((rd_T37 l0 x19_2).f4), .bool ((rd_T37 l0 x19_2).f5)], .int .i64 a1] rfl (by (try simp only [List.map_toArray, List.map_cons, List.map_nil]); first | done | rfl | (simp only [List.length_drop, List.length_take]; rfl)) ?_; (with_reducible refine (lease_Live.calls ((rd_T37 l0 x19_2).f0) ((rd_T37 l0 x19_2).f1) ((rd_T37 l0 x19_2).f2) ((rd_T37 l0 x19_2).f3) ((rd_T37 l0 x19_2).f4) ((rd_T37 l0 x19_2).f5) a1 false _ A13.out).mono ?_); rintro e w25 ⟨rfl, hb⟩; refine ⟨_, rfl, ?_⟩; have n0_ := am_ (Kd.R_below (by (with_reducible repeat (first | apply r1_ | apply r2_ | apply r3_)); exact (Kd.R_mono (Kd.R_far (p := ⟨gb111, 5, none⟩) (Kd.R_far (p := ⟨gb111, 4, none⟩) (Kd.R_far (p := ⟨gb111, 3, none⟩) (Kd.R_far (p := ⟨gb111, 2, none⟩) (Kd.R_far (p := ⟨gb111, 1, none⟩) (Kd.R_far (p := ⟨gb111, 0, none⟩) (Kd.R_mono HO_6.out (fun k_ hk => (⟨hk, hk.2⟩ : _ ∧ k_ ≠ gb111))) (fun _ hk => hk.2) (.int .i64 ((rd_T37 l0 x19_2).f0))) (fun _ hk => hk.2) (.int .i64 ((rd_T37 l0 x19_2).f1))) (fun _ hk => hk.2) (.string ((rd_T37 l0 x19_2).f2))) (fun _ hk => hk.2) (.int .i64 ((rd_T37 l0 x19_2).f3))) (fun _ hk => hk.2) (.string ((rd_T37 l0 x19_2).f4))) (fun _ hk => hk.2) (.bool ((rd_T37 l0 x19_2).f5))) (fun _ h_ => h_.1))) hb); have n1_ := am_ (kb_ (g := gb111) (o := .cells #[.int .i64 ((rd_T37 l0 x19_2).f0), .int .i64 ((rd_T37 l0 x19_2).f1), .string ((rd_T37 l0 x19_2).f2), .int .i64 ((rd_T37 l0 x19_2).f3), .string ((rd_T37 l0 x19_2).f4), .bool ((rd_T37 l0 x19_2).f5)] 37 (0, 0)) (by (with_reducible repeat (first | refine k2_ ?_ _ | refine k3_ ?_ | refine k1_ ?_ _)); refine blk_put (cs := #[.int .i64 ((rd_T37 l0 x19_2).f0), .int .i64 ((rd_T37 l0 x19_2).f1), .string ((rd_T37 l0 x19_2).f2), .int .i64 ((rd_T37 l0 x19_2).f3), .string ((rd_T37 l0 x19_2).f4), .bool false]) ?_ 5 _ rfl; (with_reducible repeat (first | refine k2_ ?_ _ | refine k3_ ?_ | refine k1_ ?_ _)); refine blk_put (cs := #[.int .i64 ((rd_T37 l0 x19_2).f0), .int .i64 ((rd_T37 l0 x19_2).f1), .string ((rd_T37 l0 x19_2).f2), .int .i64 ((rd_T37 l0 x19_2).f3), .string (⟨#[]⟩ : ByteArray), .bool false]) ?_ 4 _ rfl; (with_reducible repeat (first | refine k2_ ?_ _ | refine k3_ ?_ | refine k1_ ?_ _)); refine blk_put (cs := #[.int .i64 ((rd_T37 l0 x19_2).f0), .int .i64 ((rd_T37 l0 x19_2).f1), .string ((rd_T37 l0 x19_2).f2), .int .i64 0, .string (⟨#[]⟩ : ByteArray), .bool false]) ?_ 3 _ rfl; (with_reducible repeat (first | refine k2_ ?_ _ | refine k3_ ?_ | refine k1_ ?_ _)); refine blk_put (cs := #[.int .i64 ((rd_T37 l0 x19_2).f0), .int .i64 ((rd_T37 l0 x19_2).f1), .string (⟨#[]⟩ : ByteArray), .int .i64 0, .string (⟨#[]⟩ : ByteArray), .bool false]) ?_ 2 _ rfl; (with_reducible repeat (first | refine k2_ ?_ _ | refine k3_ ?_ | refine k1_ ?_ _)); refine blk_put (cs := #[.int .i64 ((rd_T37 l0 x19_2).f0), .int .i64 0, .string (⟨#[]⟩ : ByteArray), .int .i64 0, .string (⟨#[]⟩ : ByteArray), .bool false]) ?_ 1 _ rfl; (with_reducible repeat (first | refine k2_ ?_ _ | refine k3_ ?_ | refine k1_ ?_ _)); refine blk_put (cs := #[.int .i64 0, .int .i64 0, .string (⟨#[]⟩ : ByteArray), .int .i64 0, .string (⟨#[]⟩ : ByteArray), .bool false]) ?_ 0 _ rfl; (with_reducible repeat (first | refine k2_ ?_ _ | refine k3_ ?_ | refine k1_ ?_ _)); exact BK111.out) hb); have n2_ := am_ (bt_ (by repeat (with_reducible first | exact HB.out | apply p3_ | apply p1_ | apply p2_ | refine bs_ ?_ GE111.out)) hb); clear HO_6; clear BK111; clear HB; have HO_6 := n0_; have BK111 := n1_; have HB := n2_; clear n0_ n1_ n2_; (try clear hb); have hcz26_0 : w25.cell? ⟨gb111, 0, none⟩ = some (.int .i64 ((rd_T37 l0 x19_2).f0)) := (bc_ BK111.out 0).trans rfl; have hcz26_1 : w25.cell? ⟨gb111, 1, none⟩ = some (.int .i64 ((rd_T37 l0 x19_2).f1)) := (bc_ BK111.out 1).trans rfl; have hcz26_2 : w25.cell? ⟨gb111, 2, none⟩ = some (.string ((rd_T37 l0 x19_2).f2)) := (bc_ BK111.out 2).trans rfl; have hcz26_3 : w25.cell? ⟨gb111, 3, none⟩ = some (.int .i64 ((rd_T37 l0 x19_2).f3)) := (bc_ BK111.out 3).trans rfl; have hcz26_4 : w25.cell? ⟨gb111, 4, none⟩ = some (.string ((rd_T37 l0 x19_2).f4)) := (bc_ BK111.out 4).trans rfl; have hcz26_5 : w25.cell? ⟨gb111, 5, none⟩ = some (.bool ((rd_T37 l0 x19_2).f5)) := (bc_ BK111.out 5).trans rfl; have hfz26_0 := bf_ BK111.out 0; have hfz26_1 := bf_ BK111.out 1; have hfz26_2 := bf_ BK111.out 2; have hfz26_3 := bf_ BK111.out 3; have hfz26_4 := bf_ BK111.out 4; have hfz26_5 := bf_ BK111.out 5) | ((with_reducible refine gate_callee (f := 44) rfl ?_); refine goesL_ (some 28) rfl rfl Try.func44 (by kernel_rfl) rfl #[.agg #[.int .i64 ((rd_T37 l0 x19_2).f0), .int .i64 ((rd_T37 l0 x19_2).f1), .string ((rd_T37 l0 x19_2).f2), .int .i64 ((rd_T37 l0 x19_2).f3), .string ((rd_T37 l0 x19_2).f4), .bool ((rd_T37 l0 x19_2).f5)]] rfl (by (try simp only [List.map_toArray, List.map_cons, List.map_nil]); first | done | rfl | (simp only [List.length_drop, List.length_take]; rfl)) ?_; (with_reducible refine (lease_Freed.calls ((rd_T37 l0 x19_2).f0) ((rd_T37 l0 x19_2).f1) ((rd_T37 l0 x19_2).f2) ((rd_T37 l0 x19_2).f3) ((rd_T37 l0 x19_2).f4) ((rd_T37 l0 x19_2).f5) t116 t117 t118 t119 t120 t121 _ A21.out).mono ?_); rintro e w27 ⟨rfl, hb⟩; refine ⟨_, rfl, ?_⟩; have n0_ := am_ (Kd.R_below (by (with_reducible repeat (first | apply r1_ | apply r2_ | apply r3_)); exact HO_6.out) hb); have n1_ := am_ (kb_ (g := gb111) (o := .cells #[.int .i64 ((rd_T37 l0 x19_2).f0), .int .i64 ((rd_T37 l0 x19_2).f1), .string ((rd_T37 l0 x19_2).f2), .int .i64 ((rd_T37 l0 x19_2).f3), .string ((rd_T37 l0 x19_2).f4), .bool ((rd_T37 l0 x19_2).f5)] 37 (0, 0)) (by (with_reducible repeat (first | refine k2_ ?_ _ | refine k3_ ?_ | refine k1_ ?_ _)); exact BK111.out) hb); have n2_ := am_ (bt_ (by repeat (with_reducible first | exact HB.out | apply p3_ | apply p1_ | apply p2_ | refine bs_ ?_ GE111.out)) hb); clear HO_6; clear BK111; clear HB; have HO_6 := n0_; have BK111 := n1_; have HB := n2_; clear n0_ n1_ n2_; (try clear hb); have hcz28_0 : w27.cell? ⟨gb111, 0, none⟩ = some (.int .i64 ((rd_T37 l0 x19_2).f0)) := (bc_ BK111.out 0).trans rfl; have hcz28_1 : w27.cell? ⟨gb111, 1, none⟩ = some (.int .i64 ((rd_T37 l0 x19_2).f1)) := (bc_ BK111.out 1).trans rfl; have hcz28_2 : w27.cell? ⟨gb111, 2, none⟩ = some (.string ((rd_T37 l0 x19_2).f2)) := (bc_ BK111.out 2).trans rfl; have hcz28_3 : w27.cell? ⟨gb111, 3, none⟩ = some (.int .i64 ((rd_T37 l0 x19_2).f3)) := (bc_ BK111.out 3).trans rfl; have hcz28_4 : w27.cell? ⟨gb111, 4, none⟩ = some (.string ((rd_T37 l0 x19_2).f4)) := (bc_ BK111.out 4).trans rfl; have hcz28_5 : w27.cell? ⟨gb111, 5, none⟩ = some (.bool ((rd_T37 l0 x19_2).f5)) := (bc_ BK111.out 5).trans rfl; have hfz28_0 := bf_ BK111.out 0; have hfz28_1 := bf_ BK111.out 1; have hfz28_2 := bf_ BK111.out 2; have hfz28_3 := bf_ BK111.out 3; have hfz28_4 := bf_ BK111.out 4; have hfz28_5 := bf_ BK111.out 5) | ((with_reducible refine gate_builtin (b := .append) (xs := #[.tmp 29, .tmp 31]) rfl ?_); at_builtin; refine Kd.R_append k37 (w0 := w) w.heap.size rfl (.tmp 29) (.tmp 31) 27 37 (.agg #[(.int .i64 0), (.int .i64 0), (.string ⟨#[]⟩), (.int .i64 0), (.string ⟨#[]⟩), (.bool false)]) 64 rfl Try.underlying27 info37 rfl (by decide) (by omega) u6 x6_2 (⟨t116, t117, t118, t119, t120, t121⟩ : S37) [.int .i64 t116, .int .i64 t117, .string t118, .int .i64 t119, .string t120, .bool t121] (fun k_ => k_ ≠ gb111) (fun _ => False) rfl (by first | (go_simp; done) | (go_simp; rfl)) ?aP (fun _ hk => hk.elim) ?aF ?aO ?aB ?aS ?aL ?_; (case aP => exact k37_mkM _ _ _ (⟨t116, t117, t118, t119, t120, t121⟩ : S37)); (case aB => exact (by repeat (with_reducible first | exact HB.out | apply p3_ | apply p1_ | apply p2_ | refine bs_ ?_ GE111.out))); (case aF => exact (fun k_ hk => Kd.freshB (g := gb111) (o := .cells #[.int .i64 t116, .int .i64 t117, .string t118, .int .i64 t119, .string t120, .bool t121] 37 (0, 0)) (by (with_reducible repeat (first | refine k2_ ?_ _ | refine k3_ ?_ | refine k1_ ?_ _)); refine blk_put (cs := #[.int .i64 t116, .int .i64 t117, .string t118, .int .i64 t119, .string t120, .bool ((rd_T37 l0 x19_2).f5)]) ?_ 5 _ rfl; (with_reducible repeat (first | refine k2_ ?_ _ | refine k3_ ?_ | refine k1_ ?_ _)); refine blk_put (cs := #[.int .i64 t116, .int .i64 t117, .string t118, .int .i64 t119, .string ((rd_T37 l0 x19_2).f4), .bool ((rd_T37 l0 x19_2).f5)]) ?_ 4 _ rfl; (with_reducible repeat (first | refine k2_ ?_ _ | refine k3_ ?_ | refine k1_ ?_ _)); refine blk_put (cs := #[.int .i64 t116, .int .i64 t117, .string t118, .int .i64 ((rd_T37 l0 x19_2).f3), .string ((rd_T37 l0 x19_2).f4), .bool ((rd_T37 l0 x19_2).f5)]) ?_ 3 _ rfl; (with_reducible repeat (first | refine k2_ ?_ _ | refine k3_ ?_ | refine k1_ ?_ _)); refine blk_put (cs := #[.int .i64 t116, .int .i64 t117, .string ((rd_T37 l0 x19_2).f2), .int .i64 ((rd_T37 l0 x19_2).f3), .string ((rd_T37 l0 x19_2).f4), .bool ((rd_T37 l0 x19_2).f5)]) ?_ 2 _ rfl; (with_reducible repeat (first | refine k2_ ?_ _ | refine k3_ ?_ | refine k1_ ?_ _)); refine blk_put (cs := #[.int .i64 t116, .int .i64 ((rd_T37 l0 x19_2).f1), .string ((rd_T37 l0 x19_2).f2), .int .i64 ((rd_T37 l0 x19_2).f3), .string ((rd_T37 l0 x19_2).f4), .bool ((rd_T37 l0 x19_2).f5)]) ?_ 1 _ rfl; (with_reducible repeat (first | refine k2_ ?_ _ | refine k3_ ?_ | refine k1_ ?_ _)); refine blk_put (cs := #[.int .i64 ((rd_T37 l0 x19_2).f0), .int .i64 ((rd_T37 l0 x19_2).f1), .string ((rd_T37 l0 x19_2).f2), .int .i64 ((rd_T37 l0 x19_2).f3), .string ((rd_T37 l0 x19_2).f4), .bool ((rd_T37 l0 x19_2).f5)]) ?_ 0 _ rfl; (with_reducible repeat (first | refine k2_ ?_ _ | refine k3_ ?_ | refine k1_ ?_ _)); exact BK111.out) k_ hk)); (case aO => exact (by (with_reducible repeat (first | apply r1_ | apply r2_ | apply r3_)); exact Kd.R_mono (Kd.R_far (p := ⟨gb111, 5, none⟩) (Kd.R_far (p := ⟨gb111, 4, none⟩) (Kd.R_far (p := ⟨gb111, 3, none⟩) (Kd.R_far (p := ⟨gb111, 2, none⟩) (Kd.R_far (p := ⟨gb111, 1, none⟩) (Kd.R_far (p := ⟨gb111, 0, none⟩) (Kd.R_mono HO_6.out (fun k_ hk => (⟨hk, hk.2⟩ : _ ∧ k_ ≠ gb111))) (fun _ hk => hk.2) (.int .i64 t116)) (fun _ hk => hk.2) (.int .i64 t117)) (fun _ hk => hk.2) (.string t118)) (fun _ hk => hk.2) (.int .i64 t119)) (fun _ hk => hk.2) (.string t120)) (fun _ hk => hk.2) (.bool t121)) (fun _ hk => hk.1.2))); (case aS => exact (bz_ (by repeat (with_reducible first | exact HB.out | apply p3_ | apply p1_ | apply p2_ | refine bs_ ?_ GE111.out)))); (case aL => have := LMc22.out; omega); intro v123 w29 ho hb hg hat; rw [← Ny122.out] at ho; have n0_ := am_ (blk_grown (g := gb111) (o := .cells #[.int .i64 t116, .int .i64 t117, .string t118, .int .i64 t119, .string t120, .bool t121] 37 (0, 0)) (by (with_reducible repeat (first | refine k2_ ?_ _ | refine k3_ ?_ | refine k1_ ?_ _)); refine blk_put (cs := #[.int .i64 t116, .int .i64 t117, .string t118, .int .i64 t119, .string t120, .bool ((rd_T37 l0 x19_2).f5)]) ?_ 5 _ rfl; (with_reducible repeat (first | refine k2_ ?_ _ | refine k3_ ?_ | refine k1_ ?_ _)); refine blk_put (cs := #[.int .i64 t116, .int .i64 t117, .string t118, .int .i64 t119, .string ((rd_T37 l0 x19_2).f4), .bool ((rd_T37 l0 x19_2).f5)]) ?_ 4 _ rfl; (with_reducible repeat (first | refine k2_ ?_ _ | refine k3_ ?_ | refine k1_ ?_ _)); refine blk_put (cs := #[.int .i64 t116, .int .i64 t117, .string t118, .int .i64 ((rd_T37 l0 x19_2).f3), .string ((rd_T37 l0 x19_2).f4), .bool ((rd_T37 l0 x19_2).f5)]) ?_ 3 _ rfl; (with_reducible repeat (first | refine k2_ ?_ _ | refine k3_ ?_ | refine k1_ ?_ _)); refine blk_put (cs := #[.int .i64 t116, .int .i64 t117, .string ((rd_T37 l0 x19_2).f2), .int .i64 ((rd_T37 l0 x19_2).f3), .string ((rd_T37 l0 x19_2).f4), .bool ((rd_T37 l0 x19_2).f5)]) ?_ 2 _ rfl; (with_reducible repeat (first | refine k2_ ?_ _ | refine k3_ ?_ | refine k1_ ?_ _)); refine blk_put (cs := #[.int .i64 t116, .int .i64 ((rd_T37 l0 x19_2).f1), .string ((rd_T37 l0 x19_2).f2), .int .i64 ((rd_T37 l0 x19_2).f3), .string ((rd_T37 l0 x19_2).f4), .bool ((rd_T37 l0 x19_2).f5)]) ?_ 1 _ rfl; (with_reducible repeat (first | refine k2_ ?_ _ | refine k3_ ?_ | refine k1_ ?_ _)); refine blk_put (cs := #[.int .i64 ((rd_T37 l0 x19_2).f0), .int .i64 ((rd_T37 l0 x19_2).f1), .string ((rd_T37 l0 x19_2).f2), .int .i64 ((rd_T37 l0 x19_2).f3), .string ((rd_T37 l0 x19_2).f4), .bool ((rd_T37 l0 x19_2).f5)]) ?_ 0 _ rfl; (with_reducible repeat (first | refine k2_ ?_ _ | refine k3_ ?_ | refine k1_ ?_ _)); exact BK111.out) hg (Kd.R_away HO_6.out (fun _ hk => hk.2))); have n1_ := am_ (hb); have n2_ := am_ (ho); clear BK111; clear HB; clear HO_6; have BK111 := n0_; have HB := n1_; have HO124 := n2_; clear n0_ n1_ n2_; clear ho hb hg hat))
      go_roundg k2
      case measure => have := HJ2.out; have := HK2.out; omega
      case rel => exact ⟨(y122), (wrap64 (x19_2 + 1)), (by first | rfl | (simp; done) | (simp [*]; done)), H', ⟨by have := HJ2.out; have := HK2.out; omega⟩, ⟨by (with_reducible repeat (first | apply r1_ | apply r2_ | apply r3_)); exact Kd.R_mono HO124.out (fun _ hk => trivial)⟩, ⟨by repeat (with_reducible first | exact HB.out | apply p3_ | apply p1_ | apply p2_ | refine bs_ ?_ GE111.out)⟩⟩
     rw [if_neg c10] at H
     have c10b0 : decide (x19_2 < (l0.length : Int)) = false := decide_eq_false c10
     clear c10
     simp only [Option.some.injEq, Prod.mk.injEq] at H
     obtain ⟨rfl, rfl⟩ := H
     go_wp2
     go_ret2
     exact ⟨_, by first | rfl | (simp [errW_none, errW_some] <;> rfl) | (simp [*, errW_none, errW_some] <;> rfl), by (with_reducible repeat (first | apply r1_ | apply r2_ | apply r3_)); exact HO_6.out, by repeat (with_reducible first | exact HB.out | apply p3_ | apply p1_ | apply p2_)⟩

/-! ### pinfoldlaw0_Num: function 16 -/
def pinfoldlaw0_Num.f (a0 : Int) : Option (Int) := some a0
set_option maxHeartbeats 8000000 in
set_option maxRecDepth 100000 in
theorem pinfoldlaw0_Num.calls (a0 : Int) (r : Int) (w : World) (h : pinfoldlaw0_Num.f a0 = some r) :
  Calls Try.prog 16 #[.int .i64 a0] w fun e w' => e = .returned (.int .i64 r) ∧ Drawn0 w w' := by
 have H : (some a0) = some r := h
 clear h
 obtain rfl := e5_ H
 go_enter Try.func16, Try.ntmps16
 go_wp2
 go_ret
 exact ⟨by first | rfl | (simp; done) | (simp [*]; done), by repeat (first | exact Drawn0.refl _ | apply Drawn0.step)⟩

/-! ### pinfoldlaw0_SameLeases: function 24 -/
def pinfoldlaw0_SameLeases.l0 : Nat → List (S37) → List (S37) → Int → Option (Bool)
 | 0, _, _, _ => none
 | k + 1, x0, x1, x5 => if x5 < (x0.length : Int) then (if 0 ≤ x5 then (if x5 < (x1.length : Int) then (if (!(((rd_T37 x0 x5).f0) == ((rd_T37 x1 x5).f0)) || (!(((rd_T37 x0 x5).f1) == ((rd_T37 x1 x5).f1)) || (!((((rd_T37 x0 x5).f2).toList) == (((rd_T37 x1 x5).f2).toList)) || (!(((rd_T37 x0 x5).f3) == ((rd_T37 x1 x5).f3)) || (!((((rd_T37 x0 x5).f4).toList) == (((rd_T37 x1 x5).f4).toList)) || (!(((rd_T37 x0 x5).f5) == ((rd_T37 x1 x5).f5)))))))) = true then (some false) else (pinfoldlaw0_SameLeases.l0 k x0 x1 (wrap64 (x5 + 1)))) else (none)) else (none)) else (some true)
def pinfoldlaw0_SameLeases.f (k : Nat) (l0 : List (S37)) (l1 : List (S37)) : Option (Bool) := if (l0.length : Int) = (l1.length : Int) then (pinfoldlaw0_SameLeases.l0 k l0 l1 0) else (some false)
theorem pinfoldlaw0_SameLeases.mono_l : ∀ k, (∀ y0 y1 y2, LeO (pinfoldlaw0_SameLeases.l0 k y0 y1 y2) (pinfoldlaw0_SameLeases.l0 (k + 1) y0 y1 y2))
 | 0 => fun _ _ _ r h => by simp [pinfoldlaw0_SameLeases.l0] at h
 | k + 1 => by
  have ih0 := pinfoldlaw0_SameLeases.mono_l k
  ·intro y0 y1 y2
   unfold pinfoldlaw0_SameLeases.l0
   repeat' first
   | (with_reducible exact ih0 _ _ _)
   | (with_reducible exact LeO.refl _)
   | (with_reducible exact LeO.none _)
   | (with_reducible refine LeO.ite ?_ ?_)
   | (with_reducible refine LeO.bind ?_ (fun _ => ?_))
   | exact ih0 _ _ _
   | exact LeO.none _
   | refine LeO.ite ?_ ?_
   | refine LeO.bind ?_ (fun _ => ?_)
theorem pinfoldlaw0_SameLeases.mono : ∀ a0 a1 k, LeO (pinfoldlaw0_SameLeases.f k a0 a1) (pinfoldlaw0_SameLeases.f (k + 1) a0 a1) := by
 intro a0 a1 k
 have ih0 := pinfoldlaw0_SameLeases.mono_l k
 unfold pinfoldlaw0_SameLeases.f
 repeat' first
   | (with_reducible exact ih0 _ _ _)
   | (with_reducible exact LeO.refl _)
   | (with_reducible exact LeO.none _)
   | (with_reducible refine LeO.ite ?_ ?_)
   | (with_reducible refine LeO.bind ?_ (fun _ => ?_))
   | exact ih0 _ _ _
   | exact LeO.none _
   | refine LeO.ite ?_ ?_
   | refine LeO.bind ?_ (fun _ => ?_)
set_option maxHeartbeats 8000000 in
set_option maxRecDepth 100000 in
theorem pinfoldlaw0_SameLeases.calls (k : Nat) (A0 : Option Addr) (c0 : Nat) (l0 : List (S37)) (A1 : Option Addr) (c1 : Nat) (l1 : List (S37)) (r : Bool) (w : World) (hr0 : Kd.C k37 w A0 l0.length l0) (hc0 : l0.length ≤ c0) (hr1 : Kd.C k37 w A1 l1.length l1) (hc1 : l1.length ≤ c1) (h : pinfoldlaw0_SameLeases.f k l0 l1 = some r) :
  Calls Try.prog 24 #[.slice A0 l0.length c0, .slice A1 l1.length c1] w fun e w' => e = .returned (.bool r) ∧ Drawn0 w w' := by
 have hu37 := Try.underlying37
 have HR0 := am_ hr0
 have HC0 := am_ hc0
 clear hr0 hc0
 have HR1 := am_ hr1
 have HC1 := am_ hc1
 clear hr1 hc1
 have H : (if (l0.length : Int) = (l1.length : Int) then (pinfoldlaw0_SameLeases.l0 k l0 l1 0) else (some false)) = some r := h
 clear h
 by_cases c3 : (l0.length : Int) = (l1.length : Int)
 ·rw [if_pos c3] at H
  have c3b0 : ((l0.length : Int) == (l1.length : Int)) = true := beq_iff_eq.mpr c3
  have c3b1 : ((l0.length : Int) != (l1.length : Int)) = false := e1_ c3
  have c3b2 : (l0.length == l1.length) = true := by first | simpa using c3 | (simp at c3 ⊢; omega)
  clear c3
  have H' := am_ H
  clear H
  go_enter Try.func24, Try.ntmps24
  go_wp2
  repeat (go_quiet (fail); try go_wp2)
  go_loopg [5] k (fun kq v5 w' => ∃ (x5_1 : Int), v5 = .int .i64 x5_1 ∧ Aside0 (pinfoldlaw0_SameLeases.l0 kq l0 l1 x5_1 = some r) ∧ Aside0 (kq ≤ k) ∧ Drawn0 w w')
  case atStart => exact ⟨(0), (by first | rfl | (simp; done) | (simp [*]; done)), H', ⟨Nat.le_refl _⟩, by repeat (first | exact Drawn0.refl _ | apply Drawn0.step)⟩
  case round =>
   clear H'
   (try clear c1); (try clear c3); (try clear c3b0); (try clear c3b1); (try clear c3b2)
   obtain ⟨x5_1, rfl, HA, HK1, ⟨m1, rfl⟩⟩ := hrel
   cases gk with
   | zero => exact absurd HA.out (by simp [pinfoldlaw0_SameLeases.l0])
   | succ k1 =>
    have H := HA.out
    clear HA
    simp only [pinfoldlaw0_SameLeases.l0] at H
    by_cases c4 : x5_1 < (l0.length : Int)
    ·rw [if_pos c4] at H
     have c4b0 : decide (x5_1 < (l0.length : Int)) = true := decide_eq_true c4
     clear c4
     by_cases c5 : 0 ≤ x5_1
     rotate_left
     ·rw [if_neg c5] at H
      exact absurd H (by simp)
     rw [if_pos c5] at H
     have c5b0 : decide (0 ≤ x5_1) = true := decide_eq_true c5
     clear c5
     by_cases c6 : x5_1 < (l1.length : Int)
     rotate_left
     ·rw [if_neg c6] at H
      exact absurd H (by simp)
     rw [if_pos c6] at H
     have c6b0 : decide (x5_1 < (l1.length : Int)) = true := decide_eq_true c6
     clear c6
     by_cases c7 : (!(((rd_T37 l0 x5_1).f0) == ((rd_T37 l1 x5_1).f0)) || (!(((rd_T37 l0 x5_1).f1) == ((rd_T37 l1 x5_1).f1)) || (!((((rd_T37 l0 x5_1).f2).toList) == (((rd_T37 l1 x5_1).f2).toList)) || (!(((rd_T37 l0 x5_1).f3) == ((rd_T37 l1 x5_1).f3)) || (!((((rd_T37 l0 x5_1).f4).toList) == (((rd_T37 l1 x5_1).f4).toList)) || (!(((rd_T37 l0 x5_1).f5) == ((rd_T37 l1 x5_1).f5)))))))) = true
     ·rw [if_pos c7] at H
      have c7b0 : (!(((rd_T37 l0 x5_1).f0) == ((rd_T37 l1 x5_1).f0)) || (!(((rd_T37 l0 x5_1).f1) == ((rd_T37 l1 x5_1).f1)) || (!((((rd_T37 l0 x5_1).f2).toList) == (((rd_T37 l1 x5_1).f2).toList)) || (!(((rd_T37 l0 x5_1).f3) == ((rd_T37 l1 x5_1).f3)) || (!((((rd_T37 l0 x5_1).f4).toList) == (((rd_T37 l1 x5_1).f4).toList)) || (!(((rd_T37 l0 x5_1).f5) == ((rd_T37 l1 x5_1).f5)))))))) = true := c7
      clear c7
      obtain rfl := e5_ H
      have p125 : 0 ≤ (x5_1 : Int) := of_decide_eq_true (by first | (with_reducible assumption) | assumption)
      have q125 : x5_1 < (l0.length : Int) := of_decide_eq_true (by first | (with_reducible assumption) | assumption)
      obtain ⟨ad125, e125, hx125_0, hx125_1, hx125_2, hx125_3, hx125_4, hx125_5⟩ := at_T37 HR0.out x5_1 p125 q125
      cases e125
      replace p125 := eq_true p125
      replace q125 := eq_true q125
      have p126 : 0 ≤ (x5_1 : Int) := of_decide_eq_true (by first | (with_reducible assumption) | assumption)
      have q126 : x5_1 < (l1.length : Int) := of_decide_eq_true (by first | (with_reducible assumption) | assumption)
      obtain ⟨ad126, e126, hx126_0, hx126_1, hx126_2, hx126_3, hx126_4, hx126_5⟩ := at_T37 HR1.out x5_1 p126 q126
      cases e126
      replace p126 := eq_true p126
      replace q126 := eq_true q126
      go_wp2
      repeat (go_quiet (fail); try go_wp2)
      go_ret
      exact ⟨by first | rfl | (simp; done) | (simp [*]; done), by repeat (first | exact Drawn0.refl _ | apply Drawn0.step)⟩
     rw [if_neg c7] at H
     have c7b0 : (!(((rd_T37 l0 x5_1).f0) == ((rd_T37 l1 x5_1).f0)) || (!(((rd_T37 l0 x5_1).f1) == ((rd_T37 l1 x5_1).f1)) || (!((((rd_T37 l0 x5_1).f2).toList) == (((rd_T37 l1 x5_1).f2).toList)) || (!(((rd_T37 l0 x5_1).f3) == ((rd_T37 l1 x5_1).f3)) || (!((((rd_T37 l0 x5_1).f4).toList) == (((rd_T37 l1 x5_1).f4).toList)) || (!(((rd_T37 l0 x5_1).f5) == ((rd_T37 l1 x5_1).f5)))))))) = false := by simpa using c7
     clear c7
     have H' := am_ H
     clear H
     have p125 : 0 ≤ (x5_1 : Int) := of_decide_eq_true (by first | (with_reducible assumption) | assumption)
     have q125 : x5_1 < (l0.length : Int) := of_decide_eq_true (by first | (with_reducible assumption) | assumption)
     obtain ⟨ad125, e125, hx125_0, hx125_1, hx125_2, hx125_3, hx125_4, hx125_5⟩ := at_T37 HR0.out x5_1 p125 q125
     cases e125
     replace p125 := eq_true p125
     replace q125 := eq_true q125
     have p126 : 0 ≤ (x5_1 : Int) := of_decide_eq_true (by first | (with_reducible assumption) | assumption)
     have q126 : x5_1 < (l1.length : Int) := of_decide_eq_true (by first | (with_reducible assumption) | assumption)
     obtain ⟨ad126, e126, hx126_0, hx126_1, hx126_2, hx126_3, hx126_4, hx126_5⟩ := at_T37 HR1.out x5_1 p126 q126
     cases e126
     replace p126 := eq_true p126
     replace q126 := eq_true q126
     go_wp2
     repeat (go_quiet (fail); try go_wp2)
     go_roundg k1
     case measure => have := HK1.out; omega
     case rel => exact ⟨(wrap64 (x5_1 + 1)), (by first | rfl | (simp; done) | (simp [*]; done)), H', ⟨by have := HK1.out; omega⟩, by repeat (first | exact Drawn0.refl _ | apply Drawn0.step)⟩
    rw [if_neg c4] at H
    have c4b0 : decide (x5_1 < (l0.length : Int)) = false := decide_eq_false c4
    clear c4
    obtain rfl := e5_ H
    go_wp2
    repeat (go_quiet (fail); try go_wp2)
    go_ret
    exact ⟨by first | rfl | (simp; done) | (simp [*]; done), by repeat (first | exact Drawn0.refl _ | apply Drawn0.step)⟩
 rw [if_neg c3] at H
 have c3b0 : ((l0.length : Int) == (l1.length : Int)) = false := e2_ c3
 have c3b1 : ((l0.length : Int) != (l1.length : Int)) = true := bne_iff_ne.mpr c3
 have c3b2 : (l0.length == l1.length) = false := by first | simpa using c3 | (simp at c3 ⊢; omega)
 obtain rfl := e5_ H
 go_enter Try.func24, Try.ntmps24
 go_wp2
 repeat (go_quiet (fail); try go_wp2)
 go_ret
 exact ⟨by first | rfl | (simp; done) | (simp [*]; done), by repeat (first | exact Drawn0.refl _ | apply Drawn0.step)⟩

/-! ### pinfoldlaw19_awake: function 13 -/
def pinfoldlaw19_awake.f (k : Nat)  : Option (Bool) := (some (([(⟨10, 2, (⟨#[109, 101]⟩ : ByteArray), 5, (⟨#[112, 99]⟩ : ByteArray), true⟩ : S37), (⟨11, 1, (⟨#[121, 111, 117]⟩ : ByteArray), 6, (⟨#[]⟩ : ByteArray), false⟩ : S37)] : List (S37)) : List (S37))).bind fun y127 => ((sweep_Sweep.f k y127 5).bind fun bt130 => ((sweep_Sweep.f k y127 (-1)).bind fun bt134 => (if 1 < (y127.length : Int) then ((pinfoldlaw0_SameLeases.f k bt130.1 (([(⟨10, 0, (⟨#[109, 101]⟩ : ByteArray), 5, (⟨#[]⟩ : ByteArray), false⟩ : S37), (⟨(rd_T37 y127 1).f0, (rd_T37 y127 1).f1, (rd_T37 y127 1).f2, (rd_T37 y127 1).f3, (rd_T37 y127 1).f4, (rd_T37 y127 1).f5⟩ : S37)] : List (S37)))).bind fun t142 => (if t142 = true then ((pinfoldlaw0_Num.f bt130.2).bind fun t143 => (if t143 = 0 then ((pinfoldlaw0_Num.f bt134.2).bind fun t144 => (some (t144 == 1900))) else (none))) else (none))) else (none))))
theorem pinfoldlaw19_awake.mono : ∀ k, LeO (pinfoldlaw19_awake.f k ) (pinfoldlaw19_awake.f (k + 1) ) := by
 intro  k
 unfold pinfoldlaw19_awake.f
 repeat' first
   | (with_reducible exact pinfoldlaw0_SameLeases.mono _ _ _)
   | (with_reducible exact sweep_Sweep.mono _ _ _)
   | (with_reducible exact LeO.refl _)
   | (with_reducible exact LeO.none _)
   | (with_reducible refine LeO.ite ?_ ?_)
   | (with_reducible refine LeO.bind ?_ (fun _ => ?_))
   | exact pinfoldlaw0_SameLeases.mono _ _ _
   | exact sweep_Sweep.mono _ _ _
   | exact LeO.none _
   | refine LeO.ite ?_ ?_
   | refine LeO.bind ?_ (fun _ => ?_)
set_option maxHeartbeats 8000000 in
set_option maxRecDepth 100000 in
theorem pinfoldlaw19_awake.calls (k : Nat)  (r : Bool) (w : World) (h : pinfoldlaw19_awake.f k  = some r) :
  Calls Try.prog 13 #[] w fun e w' => e = .returned (.bool r) ∧ Below w.heap.size w w' := by
 have hu37 := Try.underlying37
 have HB := am_ (Below.refl w.heap.size w)
 have H : ((some (([(⟨10, 2, (⟨#[109, 101]⟩ : ByteArray), 5, (⟨#[112, 99]⟩ : ByteArray), true⟩ : S37), (⟨11, 1, (⟨#[121, 111, 117]⟩ : ByteArray), 6, (⟨#[]⟩ : ByteArray), false⟩ : S37)] : List (S37)) : List (S37))).bind fun y127 => ((sweep_Sweep.f k y127 5).bind fun bt130 => ((sweep_Sweep.f k y127 (-1)).bind fun bt134 => (if 1 < (y127.length : Int) then ((pinfoldlaw0_SameLeases.f k bt130.1 (([(⟨10, 0, (⟨#[109, 101]⟩ : ByteArray), 5, (⟨#[]⟩ : ByteArray), false⟩ : S37), (⟨(rd_T37 y127 1).f0, (rd_T37 y127 1).f1, (rd_T37 y127 1).f2, (rd_T37 y127 1).f3, (rd_T37 y127 1).f4, (rd_T37 y127 1).f5⟩ : S37)] : List (S37)))).bind fun t142 => (if t142 = true then ((pinfoldlaw0_Num.f bt130.2).bind fun t143 => (if t143 = 0 then ((pinfoldlaw0_Num.f bt134.2).bind fun t144 => (some (t144 == 1900))) else (none))) else (none))) else (none))))) = some r := h
 clear h
 obtain ⟨y127, hy127⟩ : ∃ y_ : List (S37), y_ = (([(⟨10, 2, (⟨#[109, 101]⟩ : ByteArray), 5, (⟨#[112, 99]⟩ : ByteArray), true⟩ : S37), (⟨11, 1, (⟨#[121, 111, 117]⟩ : ByteArray), 6, (⟨#[]⟩ : ByteArray), false⟩ : S37)] : List (S37))) := ⟨_, rfl⟩
 replace H : ((sweep_Sweep.f k y127 5).bind fun bt130 => ((sweep_Sweep.f k y127 (-1)).bind fun bt134 => (if 1 < (y127.length : Int) then ((pinfoldlaw0_SameLeases.f k bt130.1 (([(⟨10, 0, (⟨#[109, 101]⟩ : ByteArray), 5, (⟨#[]⟩ : ByteArray), false⟩ : S37), (⟨(rd_T37 y127 1).f0, (rd_T37 y127 1).f1, (rd_T37 y127 1).f2, (rd_T37 y127 1).f3, (rd_T37 y127 1).f4, (rd_T37 y127 1).f5⟩ : S37)] : List (S37)))).bind fun t142 => (if t142 = true then ((pinfoldlaw0_Num.f bt130.2).bind fun t143 => (if t143 = 0 then ((pinfoldlaw0_Num.f bt134.2).bind fun t144 => (some (t144 == 1900))) else (none))) else (none))) else (none)))) = some r := by first | (rw [hy127]; with_reducible exact H) | (have H2_ := (Option.bind_some _ _).symm.trans H; rw [hy127]; with_reducible exact H2_) | (have H2_ := (Option.bind_some _ _).symm.trans H; with_reducible exact H2_) | with_reducible exact H | (rw [hy127]; exact H) | exact H
 have Ny127 := am_ hy127
 clear hy127
 replace H := e4_ H
 obtain ⟨⟨t130, t131⟩, A10, H⟩ := H
 replace H : ((sweep_Sweep.f k y127 (-1)).bind fun bt134 => (if 1 < (y127.length : Int) then ((pinfoldlaw0_SameLeases.f k t130 (([(⟨10, 0, (⟨#[109, 101]⟩ : ByteArray), 5, (⟨#[]⟩ : ByteArray), false⟩ : S37), (⟨(rd_T37 y127 1).f0, (rd_T37 y127 1).f1, (rd_T37 y127 1).f2, (rd_T37 y127 1).f3, (rd_T37 y127 1).f4, (rd_T37 y127 1).f5⟩ : S37)] : List (S37)))).bind fun t142 => (if t142 = true then ((pinfoldlaw0_Num.f t131).bind fun t143 => (if t143 = 0 then ((pinfoldlaw0_Num.f bt134.2).bind fun t144 => (some (t144 == 1900))) else (none))) else (none))) else (none))) = some r := H
 have A1 := am_ A10
 clear A10
 replace H := e4_ H
 obtain ⟨⟨t134, t135⟩, A20, H⟩ := H
 replace H : (if 1 < (y127.length : Int) then ((pinfoldlaw0_SameLeases.f k t130 (([(⟨10, 0, (⟨#[109, 101]⟩ : ByteArray), 5, (⟨#[]⟩ : ByteArray), false⟩ : S37), (⟨(rd_T37 y127 1).f0, (rd_T37 y127 1).f1, (rd_T37 y127 1).f2, (rd_T37 y127 1).f3, (rd_T37 y127 1).f4, (rd_T37 y127 1).f5⟩ : S37)] : List (S37)))).bind fun t142 => (if t142 = true then ((pinfoldlaw0_Num.f t131).bind fun t143 => (if t143 = 0 then ((pinfoldlaw0_Num.f t135).bind fun t144 => (some (t144 == 1900))) else (none))) else (none))) else (none)) = some r := H
 have A2 := am_ A20
 clear A20
 by_cases c3 : 1 < (y127.length : Int)
 rotate_left
 ·rw [if_neg c3] at H
  exact absurd H (by simp)
 rw [if_pos c3] at H
 have c3b0 : decide (1 < (y127.length : Int)) = true := decide_eq_true c3
 have c3b1 : decide (1 < y127.length) = true := decide_eq_true (by omega)
 clear c3
 obtain ⟨y139, hy139⟩ : ∃ y_ : List (S37), y_ = (([(⟨10, 0, (⟨#[109, 101]⟩ : ByteArray), 5, (⟨#[]⟩ : ByteArray), false⟩ : S37), (⟨(rd_T37 y127 1).f0, (rd_T37 y127 1).f1, (rd_T37 y127 1).f2, (rd_T37 y127 1).f3, (rd_T37 y127 1).f4, (rd_T37 y127 1).f5⟩ : S37)] : List (S37))) := ⟨_, rfl⟩
 replace H : ((pinfoldlaw0_SameLeases.f k t130 y139).bind fun t142 => (if t142 = true then ((pinfoldlaw0_Num.f t131).bind fun t143 => (if t143 = 0 then ((pinfoldlaw0_Num.f t135).bind fun t144 => (some (t144 == 1900))) else (none))) else (none))) = some r := by first | (rw [hy139]; with_reducible exact H) | (have H2_ := (Option.bind_some _ _).symm.trans H; rw [hy139]; with_reducible exact H2_) | (have H2_ := (Option.bind_some _ _).symm.trans H; with_reducible exact H2_) | with_reducible exact H | (rw [hy139]; exact H) | exact H
 have Ny139 := am_ hy139
 clear hy139
 replace H := e4_ H
 obtain ⟨t142, A40, H⟩ := H
 replace H : (if t142 = true then ((pinfoldlaw0_Num.f t131).bind fun t143 => (if t143 = 0 then ((pinfoldlaw0_Num.f t135).bind fun t144 => (some (t144 == 1900))) else (none))) else (none)) = some r := H
 have A4 := am_ A40
 clear A40
 by_cases c5 : t142 = true
 ·subst c5
  have H1 : ((pinfoldlaw0_Num.f t131).bind fun t143 => (if t143 = 0 then ((pinfoldlaw0_Num.f t135).bind fun t144 => (some (t144 == 1900))) else (none))) = some r := by rw [if_pos rfl] at H; exact H
  clear H
  have H := H1
  clear H1
  replace H := e4_ H
  obtain ⟨t143, A60, H⟩ := H
  replace H : (if t143 = 0 then ((pinfoldlaw0_Num.f t135).bind fun t144 => (some (t144 == 1900))) else (none)) = some r := H
  have A6 := am_ A60
  clear A60
  by_cases c7 : t143 = 0
  rotate_left
  ·rw [if_neg c7] at H
   exact absurd H (by simp)
  rw [if_pos c7] at H
  have c7b0 : (t143 == 0) = true := beq_iff_eq.mpr c7
  have c7b1 : (t143 != 0) = false := e1_ c7
  clear c7
  replace H := e4_ H
  obtain ⟨t144, A80, H⟩ := H
  replace H : (some (t144 == 1900)) = some r := H
  have A8 := am_ A80
  clear A80
  obtain rfl := e5_ H
  go_enter Try.func13, Try.ntmps13
  go_wp2_with (first | ((with_reducible refine gate_dst (N := 8) rfl ?_); refine Kd.R_lit k37 _ 37 ?hg (N := 8) ?hd (xs := ([(⟨10, 2, (⟨#[109, 101]⟩ : ByteArray), 5, (⟨#[112, 99]⟩ : ByteArray), true⟩ : S37), (⟨11, 1, (⟨#[121, 111, 117]⟩ : ByteArray), 6, (⟨#[]⟩ : ByteArray), false⟩ : S37)] : List (S37))) (inner := [.int .i64 10, .int .i64 2, .string (⟨#[109, 101]⟩ : ByteArray), .int .i64 5, .string (⟨#[112, 99]⟩ : ByteArray), .bool true, .int .i64 11, .int .i64 1, .string (⟨#[121, 111, 117]⟩ : ByteArray), .int .i64 6, .string (⟨#[]⟩ : ByteArray), .bool false]) (ok := fun _ => True) (okp := fun _ => True) ?hr ?hp (fun _ hk => hk) trivial (Below.refl _ _) (Nat.le_refl _) (by simp) ?_; (case hd => rfl); (case hg => rfl); (case hr => first | (go_simp; done) | (go_simp; rfl)); (case hp => exact (Reps.c6 (show Kd.M k37 _ _ _ (⟨10, 2, (⟨#[109, 101]⟩ : ByteArray), 5, (⟨#[112, 99]⟩ : ByteArray), true⟩ : S37) [.int .i64 10, .int .i64 2, .string (⟨#[109, 101]⟩ : ByteArray), .int .i64 5, .string (⟨#[112, 99]⟩ : ByteArray), .bool true] from (k37_mkM _ _ _ (⟨10, 2, (⟨#[109, 101]⟩ : ByteArray), 5, (⟨#[112, 99]⟩ : ByteArray), true⟩ : S37) )) (Reps.c6 (show Kd.M k37 _ _ _ (⟨11, 1, (⟨#[121, 111, 117]⟩ : ByteArray), 6, (⟨#[]⟩ : ByteArray), false⟩ : S37) [.int .i64 11, .int .i64 1, .string (⟨#[121, 111, 117]⟩ : ByteArray), .int .i64 6, .string (⟨#[]⟩ : ByteArray), .bool false] from (k37_mkM _ _ _ (⟨11, 1, (⟨#[121, 111, 117]⟩ : ByteArray), 6, (⟨#[]⟩ : ByteArray), false⟩ : S37) )) (Reps.none _ _)))); intro v128 w9 ho10 hb hg_ hnew_; clear hg_ hnew_; (first | rw [← Ny127.out] at ho10 | (simp only [Int.reduceToNat] at ho10; rw [← Ny127.out] at ho10)); have n0_ := am_ (Kd.R_lower ho10 (bz_ (by repeat (with_reducible first | exact HB.out | apply p3_ | apply p1_ | apply p2_)))); have n1_ := am_ (bt_ (by repeat (with_reducible first | exact HB.out | apply p3_ | apply p1_ | apply p2_)) hb); clear HB; have HO129 := n0_; have HB := n1_; clear n0_ n1_; clear hb ho10; obtain ⟨Ao11, co11, eo11⟩ := Kd.R_slice HO129.out; subst eo11) | ((with_reducible refine gate_callee (f := 14) rfl ?_); refine goesL_ (some 11) rfl rfl Try.func14 (by kernel_rfl) rfl #[.slice Ao11 y127.length co11, .int .i64 5] rfl (by (try simp only [List.map_toArray, List.map_cons, List.map_nil]); first | done | rfl | (simp only [List.length_drop, List.length_take]; rfl)) ?_; (with_reducible refine (sweep_Sweep.calls k _ _ y127 5 t130 t131 _ ?side1 ?side2 A1.out).mono ?_); (case side1 => repeat (first | exact (Kd.R_reads' HO129.out).2.2 | (with_reducible refine c1_ ?_ _) | (with_reducible refine c2_ ?_ _) | (with_reducible refine c3_ ?_))); (case side2 => exact (Kd.R_reads' HO129.out).2.1); rintro e w12 ⟨v132, rfl, ho0, hb⟩; refine ⟨_, rfl, ?_⟩; have n0_ := am_ (r5_ (by (with_reducible repeat (first | apply r1_ | apply r2_ | apply r3_)); exact HO129.out) (r4_ ho0) hb); have n1_ := am_ (Kd.R_lower (Kd.R_new' ho0 (Kd.R_lt (by (with_reducible repeat (first | apply r1_ | apply r2_ | apply r3_)); exact HO129.out))) (bz_ (by repeat (with_reducible first | exact HB.out | apply p3_ | apply p1_ | apply p2_)))); have n2_ := am_ (bt_ (by repeat (with_reducible first | exact HB.out | apply p3_ | apply p1_ | apply p2_)) hb); clear HO129; clear HB; have HO129 := n0_; have HO133 := n1_; have HB := n2_; clear n0_ n1_ n2_; (try clear hb); (try clear ho0)) | ((with_reducible refine gate_callee (f := 14) rfl ?_); refine goesL_ (some 16) rfl rfl Try.func14 (by kernel_rfl) rfl #[.slice Ao11 y127.length co11, .int .i64 (-1)] rfl (by (try simp only [List.map_toArray, List.map_cons, List.map_nil]); first | done | rfl | (simp only [List.length_drop, List.length_take]; rfl)) ?_; (with_reducible refine (sweep_Sweep.calls k _ _ y127 (-1) t134 t135 _ ?side1 ?side2 A2.out).mono ?_); (case side1 => repeat (first | exact (Kd.R_reads' HO129.out).2.2 | (with_reducible refine c1_ ?_ _) | (with_reducible refine c2_ ?_ _) | (with_reducible refine c3_ ?_))); (case side2 => exact (Kd.R_reads' HO129.out).2.1); rintro e w13 ⟨v136, rfl, ho0, hb⟩; refine ⟨_, rfl, ?_⟩; have n0_ := am_ (r5_ (by (with_reducible repeat (first | apply r1_ | apply r2_ | apply r3_)); exact HO129.out) (r4_ ho0) hb); have n1_ := am_ (r5_ (by (with_reducible repeat (first | apply r1_ | apply r2_ | apply r3_)); exact HO133.out) (r4_ ho0) hb); have n2_ := am_ (Kd.R_lower (Kd.R_new' (Kd.R_new' ho0 (Kd.R_lt (by (with_reducible repeat (first | apply r1_ | apply r2_ | apply r3_)); exact HO129.out))) (Kd.R_lt (by (with_reducible repeat (first | apply r1_ | apply r2_ | apply r3_)); exact HO133.out))) (bz_ (by repeat (with_reducible first | exact HB.out | apply p3_ | apply p1_ | apply p2_)))); have n3_ := am_ (bt_ (by repeat (with_reducible first | exact HB.out | apply p3_ | apply p1_ | apply p2_)) hb); clear HO129; clear HO133; clear HB; have HO129 := n0_; have HO133 := n1_; have HO137 := n2_; have HB := n3_; clear n0_ n1_ n2_ n3_; (try clear hb); (try clear ho0); have p138 : 0 ≤ (1 : Int) := (by omega); have q138 : 1 < (y127.length : Int) := of_decide_eq_true (by first | (with_reducible assumption) | assumption); obtain ⟨ad138, e138, hx138_0, hx138_1, hx138_2, hx138_3, hx138_4, hx138_5⟩ := at_T37 (Kd.R_reads' HO129.out).2.2 1 p138 q138; cases e138; (try simp only [show (1 : Int).toNat = 1 from rfl, Nat.reduceMul, Nat.reduceEqDiff, Go.Addr.add, ↓reduceIte] at hx138_0); (try simp only [show (1 : Int).toNat = 1 from rfl, Nat.reduceMul, Nat.reduceEqDiff, Go.Addr.add, ↓reduceIte] at hx138_1); (try simp only [show (1 : Int).toNat = 1 from rfl, Nat.reduceMul, Nat.reduceEqDiff, Go.Addr.add, ↓reduceIte] at hx138_2); (try simp only [show (1 : Int).toNat = 1 from rfl, Nat.reduceMul, Nat.reduceEqDiff, Go.Addr.add, ↓reduceIte] at hx138_3); (try simp only [show (1 : Int).toNat = 1 from rfl, Nat.reduceMul, Nat.reduceEqDiff, Go.Addr.add, ↓reduceIte] at hx138_4); (try simp only [show (1 : Int).toNat = 1 from rfl, Nat.reduceMul, Nat.reduceEqDiff, Go.Addr.add, ↓reduceIte] at hx138_5); have qi138 : (1 < y127.length) = True := eq_true (by omega); (try rw [show ((1 : Int)).toNat = 1 from rfl] at hx138_0); (try rw [show 1 * 6 = 6 from rfl] at hx138_0); (try rw [show ((1 : Int)).toNat = 1 from rfl] at hx138_1); (try rw [show 1 * 6 = 6 from rfl] at hx138_1); (try rw [show ((1 : Int)).toNat = 1 from rfl] at hx138_2); (try rw [show 1 * 6 = 6 from rfl] at hx138_2); (try rw [show ((1 : Int)).toNat = 1 from rfl] at hx138_3); (try rw [show 1 * 6 = 6 from rfl] at hx138_3); (try rw [show ((1 : Int)).toNat = 1 from rfl] at hx138_4); (try rw [show 1 * 6 = 6 from rfl] at hx138_4); (try rw [show ((1 : Int)).toNat = 1 from rfl] at hx138_5); (try rw [show 1 * 6 = 6 from rfl] at hx138_5); replace p138 := eq_true p138; replace q138 := eq_true q138) | ((with_reducible refine gate_dst (N := 24) rfl ?_); refine Kd.R_lit k37 _ 37 ?hg (N := 24) ?hd (xs := ([(⟨10, 0, (⟨#[109, 101]⟩ : ByteArray), 5, (⟨#[]⟩ : ByteArray), false⟩ : S37), (⟨(rd_T37 y127 1).f0, (rd_T37 y127 1).f1, (rd_T37 y127 1).f2, (rd_T37 y127 1).f3, (rd_T37 y127 1).f4, (rd_T37 y127 1).f5⟩ : S37)] : List (S37))) (inner := [.int .i64 10, .int .i64 0, .string (⟨#[109, 101]⟩ : ByteArray), .int .i64 5, .string (⟨#[]⟩ : ByteArray), .bool false, .int .i64 ((rd_T37 y127 1).f0), .int .i64 ((rd_T37 y127 1).f1), .string ((rd_T37 y127 1).f2), .int .i64 ((rd_T37 y127 1).f3), .string ((rd_T37 y127 1).f4), .bool ((rd_T37 y127 1).f5)]) (ok := fun _ => True) (okp := fun _ => True) ?hr ?hp (fun _ hk => hk) trivial (Below.refl _ _) (Nat.le_refl _) (by simp) ?_; (case hd => rfl); (case hg => rfl); (case hr => first | (go_simp; done) | (go_simp; rfl)); (case hp => exact (Reps.c6 (show Kd.M k37 _ _ _ (⟨10, 0, (⟨#[109, 101]⟩ : ByteArray), 5, (⟨#[]⟩ : ByteArray), false⟩ : S37) [.int .i64 10, .int .i64 0, .string (⟨#[109, 101]⟩ : ByteArray), .int .i64 5, .string (⟨#[]⟩ : ByteArray), .bool false] from (k37_mkM _ _ _ (⟨10, 0, (⟨#[109, 101]⟩ : ByteArray), 5, (⟨#[]⟩ : ByteArray), false⟩ : S37) )) (Reps.c6 (show Kd.M k37 _ _ _ (⟨(rd_T37 y127 1).f0, (rd_T37 y127 1).f1, (rd_T37 y127 1).f2, (rd_T37 y127 1).f3, (rd_T37 y127 1).f4, (rd_T37 y127 1).f5⟩ : S37) [.int .i64 ((rd_T37 y127 1).f0), .int .i64 ((rd_T37 y127 1).f1), .string ((rd_T37 y127 1).f2), .int .i64 ((rd_T37 y127 1).f3), .string ((rd_T37 y127 1).f4), .bool ((rd_T37 y127 1).f5)] from (k37_mkM _ _ _ (⟨(rd_T37 y127 1).f0, (rd_T37 y127 1).f1, (rd_T37 y127 1).f2, (rd_T37 y127 1).f3, (rd_T37 y127 1).f4, (rd_T37 y127 1).f5⟩ : S37) )) (Reps.none _ _)))); intro v140 w14 ho15 hb hg_ hnew_; clear hg_ hnew_; (first | rw [← Ny139.out] at ho15 | (simp only [Int.reduceToNat] at ho15; rw [← Ny139.out] at ho15)); have n0_ := am_ (r5_ (by (with_reducible repeat (first | apply r1_ | apply r2_ | apply r3_)); exact HO129.out) (r4_ ho15) hb); have n1_ := am_ (r5_ (by (with_reducible repeat (first | apply r1_ | apply r2_ | apply r3_)); exact HO133.out) (r4_ ho15) hb); have n2_ := am_ (r5_ (by (with_reducible repeat (first | apply r1_ | apply r2_ | apply r3_)); exact HO137.out) (r4_ ho15) hb); have n3_ := am_ (Kd.R_lower (Kd.R_new' (Kd.R_new' (Kd.R_new' ho15 (Kd.R_lt (by (with_reducible repeat (first | apply r1_ | apply r2_ | apply r3_)); exact HO129.out))) (Kd.R_lt (by (with_reducible repeat (first | apply r1_ | apply r2_ | apply r3_)); exact HO133.out))) (Kd.R_lt (by (with_reducible repeat (first | apply r1_ | apply r2_ | apply r3_)); exact HO137.out))) (bz_ (by repeat (with_reducible first | exact HB.out | apply p3_ | apply p1_ | apply p2_)))); have n4_ := am_ (bt_ (by repeat (with_reducible first | exact HB.out | apply p3_ | apply p1_ | apply p2_)) hb); clear HO129; clear HO133; clear HO137; clear HB; have HO129 := n0_; have HO133 := n1_; have HO137 := n2_; have HO141 := n3_; have HB := n4_; clear n0_ n1_ n2_ n3_ n4_; clear hb ho15; obtain ⟨Ao16, co16, eo16⟩ := Kd.R_slice HO133.out; subst eo16; obtain ⟨Ao17, co17, eo17⟩ := Kd.R_slice HO141.out; subst eo17) | ((with_reducible refine gate_callee (f := 24) rfl ?_); refine goesL_ (some 25) rfl rfl Try.func24 (by kernel_rfl) rfl #[.slice Ao16 t130.length co16, .slice Ao17 y139.length co17] rfl (by (try simp only [List.map_toArray, List.map_cons, List.map_nil]); first | done | rfl | (simp only [List.length_drop, List.length_take]; rfl)) ?_; (with_reducible refine (pinfoldlaw0_SameLeases.calls k _ _ t130 _ _ y139 true _ ?side1 ?side2 ?side3 ?side4 A4.out).mono ?_); (case side1 => repeat (first | exact (Kd.R_reads' HO133.out).2.2 | (with_reducible refine c1_ ?_ _) | (with_reducible refine c2_ ?_ _) | (with_reducible refine c3_ ?_))); (case side2 => exact (Kd.R_reads' HO133.out).2.1); (case side3 => repeat (first | exact (Kd.R_reads' HO141.out).2.2 | (with_reducible refine c1_ ?_ _) | (with_reducible refine c2_ ?_ _) | (with_reducible refine c3_ ?_))); (case side4 => exact (Kd.R_reads' HO141.out).2.1); rintro e w' ⟨rfl, ⟨nd, rfl⟩⟩; refine ⟨_, rfl, ?_⟩) | (go_at_call 16; (with_reducible refine (pinfoldlaw0_Num.calls t131 t143 _ A6.out).mono ?_); rintro e w' ⟨rfl, ⟨nd, rfl⟩⟩) | (go_at_call 16; (with_reducible refine (pinfoldlaw0_Num.calls t135 t144 _ A8.out).mono ?_); rintro e w' ⟨rfl, ⟨nd, rfl⟩⟩))
  go_ret
  exact ⟨by first | rfl | (simp [errW_none, errW_some] <;> rfl) | (simp [*, errW_none, errW_some] <;> rfl), by repeat (with_reducible first | exact HB.out | apply p3_ | apply p1_ | apply p2_)⟩
 replace c5 := e3_ c5
 subst c5
 have H1 : (none) = some r := by rw [if_neg (show ¬ (false = true) by decide)] at H; exact H
 clear H
 have H := H1
 clear H1
 exact absurd H (by simp)

end Go.Proofs.Ytibmakpghbinbaa.PS
