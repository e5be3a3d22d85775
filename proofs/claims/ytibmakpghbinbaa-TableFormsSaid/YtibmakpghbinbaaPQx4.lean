-- Made by wip/pr.py out of the translation (a turned copy of the kit's print; contracts by hand where said).
import Derived.Test.YtibmakpghbinbaaPQx0
import Derived.Test.YtibmakpghbinbaaPQx2
import Derived.Test.YtibmakpghbinbaaPQx3
namespace Go.Proofs.Ytibmakpghbinbaa.PQ
open Go.RowKit Go.Proofs.YtibmakpghbinbaaW.PrintWords Go.Proofs.YtibmakpghbinbaaW.PrintLast Go.Proofs.YtibmakpghbinbaaW.PrintMore
-- shrunk
attribute [local go_sem] max2_int min2_int max_two min_two max_three min_three max_four min_four   -- for this text's walks alone
set_option linter.unusedVariables false
set_option linter.unusedSimpArgs false

/-! ### table_May: function 25 -/
-- BY HAND
-- 59
def hostAheadT (l : List S37) (i : Nat) : Option Int := if i = 0 then none else some (rd_T37 l ((i - 1 : Nat) : Int)).f0
def table_May.S (gl : Nat) (x0 x1 : Int) (x2 : ByteArray) (x3 : Int) (x4 : ByteArray) (x5 : Bool) (pa : Addr) (y0 : Int) (w' : World) : Prop := w'.cell? ⟨gl, 0, none⟩ = some (.int .i64 x0) ∧ w'.cell? ⟨gl, 1, none⟩ = some (.int .i64 x1) ∧ w'.cell? ⟨gl, 2, none⟩ = some (.string x2) ∧ w'.cell? ⟨gl, 3, none⟩ = some (.int .i64 x3) ∧ w'.cell? ⟨gl, 4, none⟩ = some (.string x4) ∧ w'.cell? ⟨gl, 5, none⟩ = some (.bool x5) ∧ w'.cell? pa = some (.int .i64 y0)
theorem table_May.S_below {w w2 : World} {gl : Nat} {x0 x1 : Int} {x2 : ByteArray} {x3 : Int} {x4 : ByteArray} {x5 : Bool} {pa : Addr} {y0 : Int} (h : table_May.S gl x0 x1 x2 x3 x4 x5 pa y0 w) (hb : Below w.heap.size w w2) : table_May.S gl x0 x1 x2 x3 x4 x5 pa y0 w2 := by
 obtain ⟨s0, s1, s2, s3, s4, s5, s6⟩ := h
 exact ⟨(hb.cell (wb_ _ _ s0)).trans s0, (hb.cell (wb_ _ _ s1)).trans s1, (hb.cell (wb_ _ _ s2)).trans s2, (hb.cell (wb_ _ _ s3)).trans s3, (hb.cell (wb_ _ _ s4)).trans s4, (hb.cell (wb_ _ _ s5)).trans s5, (hb.cell (wb_ _ _ s6)).trans s6⟩
def table_May_c.f (l0 : List S37) : Option Bool := if tabFit l0 then some (tableB l0) else none
set_option maxHeartbeats 8000000 in
set_option maxRecDepth 100000 in
theorem table_May_c.calls (A0 : Option Addr) (c0 : Nat) (l0 : List S37) (r : Bool) (w : World) (hr0 : Kd.C k37 w A0 l0.length l0) (hc0 : l0.length ≤ c0) (h : table_May_c.f l0 = some r) :
  Calls Try.prog 25 #[.slice A0 l0.length c0] w fun e w' => e = .returned (.bool r) ∧ Below w.heap.size w w' := by
 unfold table_May_c.f at h
 by_cases hs : tabFit l0
 rotate_left
 ·rw [if_neg hs] at h
  cases h
 rw [if_pos hs] at h
 have HT := am_ (show (goTab (hostAheadT l0 (0 : Int).toNat) (l0.drop (0 : Int).toNat) && decide (l0.length ≤ 8)) = r from e5_ h)
 have hl := hs.1
 have HX := am_ hs.2
 have HR := am_ hr0
 have HB := am_ (Below.refl w.heap.size w)
 clear h hs hr0 hc0
 go_enter Try.func25, Try.ntmps25
 go_wp2
 go_loopg [7] l0.length (fun d v w' => ∃ i : Int, 0 ≤ i ∧ i.toNat + d = l0.length ∧ v = .int .i64 i ∧ Aside0 (Below w.heap.size w w') ∧ Aside0 ((goTab (hostAheadT l0 i.toNat) (l0.drop i.toNat) && decide (l0.length ≤ 8)) = r))
 case atStart => exact ⟨0, by omega, by simp, rfl, HB, HT⟩
 case round =>
  clear HB HT
  obtain ⟨i, hi0, hd, rfl, HB, HT⟩ := hrel
  by_cases hlt : i < (l0.length : Int)
  ·obtain ⟨ad, e1, hw0, hw1, hw2, hw3, hw4, hw5⟩ := at_T37 HR.out i hi0 hlt
   cases e1
   have hx0 := (HB.out.cell (wb_ w _ hw0)).trans hw0; have hx1 := (HB.out.cell (wb_ w _ hw1)).trans hw1; have hx2 := (HB.out.cell (wb_ w _ hw2)).trans hw2; have hx3 := (HB.out.cell (wb_ w _ hw3)).trans hw3; have hx4 := (HB.out.cell (wb_ w _ hw4)).trans hw4; have hx5 := (HB.out.cell (wb_ w _ hw5)).trans hw5
   have hd1 := dropLease l0 i hi0 hlt
   have hsz := HX.out _ hd1.2
   have hst := HT.out
   rw [hd1.1] at hst
   have hnx : hostAheadT l0 (i.toNat + 1) = some (rd_T37 l0 i).f0 := by
    unfold hostAheadT
    rw [if_neg (by omega), Nat.add_sub_cancel, Int.toNat_of_nonneg hi0]
   have hi2 : (i + 1).toNat = i.toNat + 1 := by omega
   have hpv : ¬ i = 0 → ∃ j y, wrap64 (i - 1) = j ∧ 0 ≤ j ∧ j < (l0.length : Int) ∧ hostAheadT l0 i.toNat = some y ∧ w.cell? (ad.add (j.toNat * 6)) = some (.int .i64 y) := by
    intro h0
    have h1 : wrap64 (i - 1) = i - 1 := by unfold wrap64; omega
    obtain ⟨ad2, e2, hy0, _⟩ := at_T37 HR.out (i - 1) (by omega) (by omega)
    cases e2
    refine ⟨i - 1, _, h1, by omega, by omega, ?_, hy0⟩
    unfold hostAheadT
    rw [if_neg (by omega), show ((i.toNat - 1 : Nat) : Int) = i - 1 by omega]
   generalize rd_T37 l0 i = x at hw0 hw1 hw2 hw3 hw4 hw5 hx0 hx1 hx2 hx3 hx4 hx5 hsz hst hnx
   clear hd1 HT
   obtain ⟨x0, x1, x2, x3, x4, x5⟩ := x
   simp only at hw0 hw1 hw2 hw3 hw4 hw5 hx0 hx1 hx2 hx3 hx4 hx5 hsz hst hnx
   obtain ⟨b1, h1⟩ : ∃ b, leaseB x0 x1 x2 x3 x4 x5 = b := ⟨_, rfl⟩
   have hst2 : ((b1 && (above (hostAheadT l0 i.toNat) x0 && goTab (some x0) (l0.drop (i.toNat + 1)))) && decide (l0.length ≤ 8)) = r := by rw [← h1]; exact hst
   rw [← hnx, ← hi2] at hst2
   clear hst hnx
   have CM := am_ (fun W => lease_May.calls x0 x1 x2 x3 x4 x5 b1 W (by unfold lease_May.f; rw [if_pos hsz, h1]))
   have H1 := am_ (show 0 ≤ i + 1 by omega)
   have H2 := am_ (show (i + 1).toNat + (l0.length - (i.toNat + 1)) = l0.length by omega)
   have H3 := am_ (show l0.length - (i.toNat + 1) < gk by omega)
   have H4 := am_ (show IntKind.i64.wrap (i + 1) = i + 1 from (i64_w _).trans (by unfold wrap64; omega))
   have H6 := am_ (fun (h : i = 0) => show i.toNat = 0 by rw [h]; rfl)
   have H5 := am_ (fun (h : ¬ i = 0) => show 0 < i by omega)
   replace hi0 := am_ hi0
   replace hd := am_ hd
   replace hl := am_ hl
   have clt := decide_eq_true hlt
   have cle := decide_eq_true hi0.out
   have plt := eq_true hlt
   have ple := eq_true hi0.out
   clear h1 hlt
   cases b1 with
   | false =>
    have HF := am_ (show false = r by rw [← hst2]; rfl)
    clear hst2 hpv hi2
    go_wp2_with fail
    have HB1 := am_ (below_drew (p3_ HB.out (.cells #[.int .i64 x0, .int .i64 x1, .string x2, .int .i64 x3, .string x4, .bool x5] 37)))
    have BX1 := am_ (k3_ (blk_new wr (.cells #[.int .i64 x0, .int .i64 x1, .string x2, .int .i64 x3, .string x4, .bool x5] 37)))
    refine seqS (S := table_May.S wr.heap.size x0 x1 x2 x3 x4 x5 ⟨wr.heap.size, 0, none⟩ x0) 18 (by kernel_rfl) rfl rfl (by unfold table_May.S; exact ⟨(bc_ BX1.out 0).trans rfl, (bc_ BX1.out 1).trans rfl, (bc_ BX1.out 2).trans rfl, (bc_ BX1.out 3).trans rfl, (bc_ BX1.out 4).trans rfl, (bc_ BX1.out 5).trans rfl, (bc_ BX1.out 0).trans rfl⟩) ?_
    intro hHeld
    clear hx0 hx1 hx2 hx3 hx4 hx5 hw0 hw1 hw2 hw3 hw4 hw5 HB BX1
    iterate 1 first | (refine seqP (v := ?_) (a' := ?_) rfl rfl (by kernel_rfl) (fun _ _ _ h => h) (Or.inl ⟨by kernel_rfl, ?_⟩) ?_ ?_; rotate_left; (intro w'; go_simp; with_reducible rfl); rotate_left; (simp only [Act.put, sa_, sb_, sc_, i64_w, i32_w]; rfl)) | (refine seqL (v := ?_) (a' := ?_) rfl rfl (by kernel_rfl) (fun _ _ _ h => h) (Or.inl ⟨by kernel_rfl, ?_⟩) hHeld ?_ ?_; rotate_left; (rintro w' ⟨s0, s1, s2, s3, s4, s5, s6⟩; go_simp; with_reducible rfl); rotate_left; (simp only [Act.put, sa_, sb_, sc_, i64_w, i32_w]; rfl))
    refine seqG (fn := Try.f59) rfl rfl (by kernel_rfl) rfl Try.func59 (by kernel_rfl) (by kernel_rfl) #[.agg #[.int .i64 x0, .int .i64 x1, .string x2, .int .i64 x3, .string x4, .bool x5]] (by kernel_rfl) (by (try simp only [List.map_toArray, List.map_cons, List.map_nil]); first | done | rfl) ?_
    with_reducible refine (CM.out _).mono ?_
    rintro e wg ⟨rfl, hb2⟩
    have HB2 := am_ (bt_ HB1.out hb2)
    refine ⟨_, rfl, table_May.S_below hHeld hb2, fun hHeld => ⟨?_, ?_, ?_⟩⟩
    rotate_left
    ·simp only [Act.put, sa_, sb_, sc_, i64_w, i32_w]
     rfl
    clear hb2 HB1 CM
    iterate 2 first | (refine seqP (v := ?_) (a' := ?_) rfl rfl (by kernel_rfl) (fun _ _ _ h => h) (Or.inl ⟨by kernel_rfl, ?_⟩) ?_ ?_; rotate_left; (intro w'; go_simp; with_reducible rfl); rotate_left; (simp only [Act.put, sa_, sb_, sc_, i64_w, i32_w]; rfl)) | (refine seqL (v := ?_) (a' := ?_) rfl rfl (by kernel_rfl) (fun _ _ _ h => h) (Or.inl ⟨by kernel_rfl, ?_⟩) hHeld ?_ ?_; rotate_left; (rintro w' ⟨s0, s1, s2, s3, s4, s5, s6⟩; go_simp; with_reducible rfl); rotate_left; (simp only [Act.put, sa_, sb_, sc_, i64_w, i32_w]; rfl))
    iterate 13 (refine seqP (v := undef) (a' := ?_) rfl rfl (by kernel_rfl) (fun _ _ _ h => h) (Or.inr ⟨by kernel_rfl, rfl⟩) ?_ ?_; rotate_left; (simp only [Act.put, sa_, sb_, sc_, i64_w, i32_w]; rfl))
    iterate 1 first | (refine seqP (v := ?_) (a' := ?_) rfl rfl (by kernel_rfl) (fun _ _ _ h => h) (Or.inl ⟨by kernel_rfl, ?_⟩) ?_ ?_; rotate_left; (intro w'; go_simp; with_reducible rfl); rotate_left; (simp only [Act.put, sa_, sb_, sc_, i64_w, i32_w]; rfl)) | (refine seqL (v := ?_) (a' := ?_) rfl rfl (by kernel_rfl) (fun _ _ _ h => h) (Or.inl ⟨by kernel_rfl, ?_⟩) hHeld ?_ ?_; rotate_left; (rintro w' ⟨s0, s1, s2, s3, s4, s5, s6⟩; go_simp; with_reducible rfl); rotate_left; (simp only [Act.put, sa_, sb_, sc_, i64_w, i32_w]; rfl))
    refine seqE (by kernel_rfl) ?_
    go_wp2
    go_ret
    exact ⟨ret_bool (HF.out), HB2.out⟩
   | true =>
   rw [Bool.true_and] at hst2
   by_cases hp : i = 0
   ·have cp : decide (0 < i) = false := decide_eq_false (by omega)
    have HN := am_ (show (goTab (hostAheadT l0 (i + 1).toNat) (l0.drop (i + 1).toNat) && decide (l0.length ≤ 8)) = r by rw [← hst2, show hostAheadT l0 i.toNat = none by unfold hostAheadT; rw [if_pos (H6.out hp)], show above none x0 = true from rfl, Bool.true_and])
    replace hp := am_ hp
    clear hst2 hpv hi2
    go_wp2_with fail
    have HB1 := am_ (below_drew (p3_ HB.out (.cells #[.int .i64 x0, .int .i64 x1, .string x2, .int .i64 x3, .string x4, .bool x5] 37)))
    have BX1 := am_ (k3_ (blk_new wr (.cells #[.int .i64 x0, .int .i64 x1, .string x2, .int .i64 x3, .string x4, .bool x5] 37)))
    refine seqS (S := table_May.S wr.heap.size x0 x1 x2 x3 x4 x5 ⟨wr.heap.size, 0, none⟩ x0) 18 (by kernel_rfl) rfl rfl (by unfold table_May.S; exact ⟨(bc_ BX1.out 0).trans rfl, (bc_ BX1.out 1).trans rfl, (bc_ BX1.out 2).trans rfl, (bc_ BX1.out 3).trans rfl, (bc_ BX1.out 4).trans rfl, (bc_ BX1.out 5).trans rfl, (bc_ BX1.out 0).trans rfl⟩) ?_
    intro hHeld
    clear hx0 hx1 hx2 hx3 hx4 hx5 hw0 hw1 hw2 hw3 hw4 hw5 HB BX1
    iterate 1 first | (refine seqP (v := ?_) (a' := ?_) rfl rfl (by kernel_rfl) (fun _ _ _ h => h) (Or.inl ⟨by kernel_rfl, ?_⟩) ?_ ?_; rotate_left; (intro w'; go_simp; with_reducible rfl); rotate_left; (simp only [Act.put, sa_, sb_, sc_, i64_w, i32_w]; rfl)) | (refine seqL (v := ?_) (a' := ?_) rfl rfl (by kernel_rfl) (fun _ _ _ h => h) (Or.inl ⟨by kernel_rfl, ?_⟩) hHeld ?_ ?_; rotate_left; (rintro w' ⟨s0, s1, s2, s3, s4, s5, s6⟩; go_simp; with_reducible rfl); rotate_left; (simp only [Act.put, sa_, sb_, sc_, i64_w, i32_w]; rfl))
    refine seqG (fn := Try.f59) rfl rfl (by kernel_rfl) rfl Try.func59 (by kernel_rfl) (by kernel_rfl) #[.agg #[.int .i64 x0, .int .i64 x1, .string x2, .int .i64 x3, .string x4, .bool x5]] (by kernel_rfl) (by (try simp only [List.map_toArray, List.map_cons, List.map_nil]); first | done | rfl) ?_
    with_reducible refine (CM.out _).mono ?_
    rintro e wg ⟨rfl, hb2⟩
    have HB2 := am_ (bt_ HB1.out hb2)
    refine ⟨_, rfl, table_May.S_below hHeld hb2, fun hHeld => ⟨?_, ?_, ?_⟩⟩
    rotate_left
    ·simp only [Act.put, sa_, sb_, sc_, i64_w, i32_w]
     rfl
    clear hb2 HB1 CM
    iterate 2 first | (refine seqP (v := ?_) (a' := ?_) rfl rfl (by kernel_rfl) (fun _ _ _ h => h) (Or.inl ⟨by kernel_rfl, ?_⟩) ?_ ?_; rotate_left; (intro w'; go_simp; with_reducible rfl); rotate_left; (simp only [Act.put, sa_, sb_, sc_, i64_w, i32_w]; rfl)) | (refine seqL (v := ?_) (a' := ?_) rfl rfl (by kernel_rfl) (fun _ _ _ h => h) (Or.inl ⟨by kernel_rfl, ?_⟩) hHeld ?_ ?_; rotate_left; (rintro w' ⟨s0, s1, s2, s3, s4, s5, s6⟩; go_simp; with_reducible rfl); rotate_left; (simp only [Act.put, sa_, sb_, sc_, i64_w, i32_w]; rfl))
    iterate 3 first | (refine seqP (v := ?_) (a' := ?_) rfl rfl (by kernel_rfl) (fun _ _ _ h => h) (Or.inl ⟨by kernel_rfl, ?_⟩) ?_ ?_; rotate_left; (intro w'; go_simp; with_reducible rfl); rotate_left; (simp only [Act.put, sa_, sb_, sc_, i64_w, i32_w]; rfl)) | (refine seqL (v := ?_) (a' := ?_) rfl rfl (by kernel_rfl) (fun _ _ _ h => h) (Or.inl ⟨by kernel_rfl, ?_⟩) hHeld ?_ ?_; rotate_left; (rintro w' ⟨s0, s1, s2, s3, s4, s5, s6⟩; go_simp; with_reducible rfl); rotate_left; (simp only [Act.put, sa_, sb_, sc_, i64_w, i32_w]; rfl))
    iterate 9 (refine seqP (v := undef) (a' := ?_) rfl rfl (by kernel_rfl) (fun _ _ _ h => h) (Or.inr ⟨by kernel_rfl, rfl⟩) ?_ ?_; rotate_left; (simp only [Act.put, sa_, sb_, sc_, i64_w, i32_w]; rfl))
    iterate 2 first | (refine seqP (v := ?_) (a' := ?_) rfl rfl (by kernel_rfl) (fun _ _ _ h => h) (Or.inl ⟨by kernel_rfl, ?_⟩) ?_ ?_; rotate_left; (intro w'; go_simp; with_reducible rfl); rotate_left; (simp only [Act.put, sa_, sb_, sc_, i64_w, i32_w]; rfl)) | (refine seqL (v := ?_) (a' := ?_) rfl rfl (by kernel_rfl) (fun _ _ _ h => h) (Or.inl ⟨by kernel_rfl, ?_⟩) hHeld ?_ ?_; rotate_left; (rintro w' ⟨s0, s1, s2, s3, s4, s5, s6⟩; go_simp; with_reducible rfl); rotate_left; (simp only [Act.put, sa_, sb_, sc_, i64_w, i32_w]; rfl))
    refine seqE (by kernel_rfl) ?_
    go_wp2
    go_roundg (l0.length - (i.toNat + 1))
    case measure => exact H3.out
    case rel => exact ⟨i + 1, H1.out, H2.out, by first | rfl | (rw [show wrap64 (i + 1) = i + 1 from (i64_w _).symm.trans H4.out]), HB2, HN⟩
   ·obtain ⟨j, y, hj, hj0, hj1, hay, hwy⟩ := hpv hp
    have cp : decide (0 < i) = true := decide_eq_true (H5.out hp)
    have hjw : IntKind.i64.wrap (i - 1) = j := (i64_w _).trans hj
    have pj0 := eq_true hj0
    have pj1 := eq_true hj1
    have cj0 := decide_eq_true hj0
    have cj1 := decide_eq_true hj1
    rw [hay] at hst2
    replace hp := am_ hp
    replace hj0 := am_ hj0
    replace hj1 := am_ hj1
    by_cases hc : x0 ≤ y
    ·have cc : decide (x0 ≤ y) = true := decide_eq_true hc
     have HF := am_ (show false = r by rw [← hst2, show above (some y) x0 = false from decide_eq_false (by omega)]; simp)
     clear hst2 hpv hi2 hc hay
     go_wp2_with fail
     have HB1 := am_ (below_drew (p3_ HB.out (.cells #[.int .i64 x0, .int .i64 x1, .string x2, .int .i64 x3, .string x4, .bool x5] 37)))
     have BX1 := am_ (k3_ (blk_new wr (.cells #[.int .i64 x0, .int .i64 x1, .string x2, .int .i64 x3, .string x4, .bool x5] 37)))
     refine seqS (S := table_May.S wr.heap.size x0 x1 x2 x3 x4 x5 (ad.add (j.toNat * 6)) y) 18 (by kernel_rfl) rfl rfl (by unfold table_May.S; exact ⟨(bc_ BX1.out 0).trans rfl, (bc_ BX1.out 1).trans rfl, (bc_ BX1.out 2).trans rfl, (bc_ BX1.out 3).trans rfl, (bc_ BX1.out 4).trans rfl, (bc_ BX1.out 5).trans rfl, (HB1.out.cell (wb_ w _ hwy)).trans hwy⟩) ?_
     intro hHeld
     clear hx0 hx1 hx2 hx3 hx4 hx5 hw0 hw1 hw2 hw3 hw4 hw5 HB BX1
     iterate 1 first | (refine seqP (v := ?_) (a' := ?_) rfl rfl (by kernel_rfl) (fun _ _ _ h => h) (Or.inl ⟨by kernel_rfl, ?_⟩) ?_ ?_; rotate_left; (intro w'; go_simp; with_reducible rfl); rotate_left; (simp only [Act.put, sa_, sb_, sc_, i64_w, i32_w]; rfl)) | (refine seqL (v := ?_) (a' := ?_) rfl rfl (by kernel_rfl) (fun _ _ _ h => h) (Or.inl ⟨by kernel_rfl, ?_⟩) hHeld ?_ ?_; rotate_left; (rintro w' ⟨s0, s1, s2, s3, s4, s5, s6⟩; go_simp; with_reducible rfl); rotate_left; (simp only [Act.put, sa_, sb_, sc_, i64_w, i32_w]; rfl))
     refine seqG (fn := Try.f59) rfl rfl (by kernel_rfl) rfl Try.func59 (by kernel_rfl) (by kernel_rfl) #[.agg #[.int .i64 x0, .int .i64 x1, .string x2, .int .i64 x3, .string x4, .bool x5]] (by kernel_rfl) (by (try simp only [List.map_toArray, List.map_cons, List.map_nil]); first | done | rfl) ?_
     with_reducible refine (CM.out _).mono ?_
     rintro e wg ⟨rfl, hb2⟩
     have HB2 := am_ (bt_ HB1.out hb2)
     refine ⟨_, rfl, table_May.S_below hHeld hb2, fun hHeld => ⟨?_, ?_, ?_⟩⟩
     rotate_left
     ·simp only [Act.put, sa_, sb_, sc_, i64_w, i32_w]
      rfl
     clear hb2 HB1 CM
     iterate 2 first | (refine seqP (v := ?_) (a' := ?_) rfl rfl (by kernel_rfl) (fun _ _ _ h => h) (Or.inl ⟨by kernel_rfl, ?_⟩) ?_ ?_; rotate_left; (intro w'; go_simp; with_reducible rfl); rotate_left; (simp only [Act.put, sa_, sb_, sc_, i64_w, i32_w]; rfl)) | (refine seqL (v := ?_) (a' := ?_) rfl rfl (by kernel_rfl) (fun _ _ _ h => h) (Or.inl ⟨by kernel_rfl, ?_⟩) hHeld ?_ ?_; rotate_left; (rintro w' ⟨s0, s1, s2, s3, s4, s5, s6⟩; go_simp; with_reducible rfl); rotate_left; (simp only [Act.put, sa_, sb_, sc_, i64_w, i32_w]; rfl))
     iterate 14 first | (refine seqP (v := ?_) (a' := ?_) rfl rfl (by kernel_rfl) (fun _ _ _ h => h) (Or.inl ⟨by kernel_rfl, ?_⟩) ?_ ?_; rotate_left; (intro w'; go_simp; with_reducible rfl); rotate_left; (simp only [Act.put, sa_, sb_, sc_, i64_w, i32_w]; rfl)) | (refine seqL (v := ?_) (a' := ?_) rfl rfl (by kernel_rfl) (fun _ _ _ h => h) (Or.inl ⟨by kernel_rfl, ?_⟩) hHeld ?_ ?_; rotate_left; (rintro w' ⟨s0, s1, s2, s3, s4, s5, s6⟩; go_simp; with_reducible rfl); rotate_left; (simp only [Act.put, sa_, sb_, sc_, i64_w, i32_w]; rfl))
     refine seqE (by kernel_rfl) ?_
     go_wp2
     go_ret
     exact ⟨ret_bool (HF.out), HB2.out⟩
    ·have cc : decide (x0 ≤ y) = false := decide_eq_false hc
     have HN := am_ (show (goTab (hostAheadT l0 (i + 1).toNat) (l0.drop (i + 1).toNat) && decide (l0.length ≤ 8)) = r by rw [← hst2, show above (some y) x0 = true from decide_eq_true (by omega), Bool.true_and])
     clear hst2 hpv hi2 hc hay
     go_wp2_with fail
     have HB1 := am_ (below_drew (p3_ HB.out (.cells #[.int .i64 x0, .int .i64 x1, .string x2, .int .i64 x3, .string x4, .bool x5] 37)))
     have BX1 := am_ (k3_ (blk_new wr (.cells #[.int .i64 x0, .int .i64 x1, .string x2, .int .i64 x3, .string x4, .bool x5] 37)))
     refine seqS (S := table_May.S wr.heap.size x0 x1 x2 x3 x4 x5 (ad.add (j.toNat * 6)) y) 18 (by kernel_rfl) rfl rfl (by unfold table_May.S; exact ⟨(bc_ BX1.out 0).trans rfl, (bc_ BX1.out 1).trans rfl, (bc_ BX1.out 2).trans rfl, (bc_ BX1.out 3).trans rfl, (bc_ BX1.out 4).trans rfl, (bc_ BX1.out 5).trans rfl, (HB1.out.cell (wb_ w _ hwy)).trans hwy⟩) ?_
     intro hHeld
     clear hx0 hx1 hx2 hx3 hx4 hx5 hw0 hw1 hw2 hw3 hw4 hw5 HB BX1
     iterate 1 first | (refine seqP (v := ?_) (a' := ?_) rfl rfl (by kernel_rfl) (fun _ _ _ h => h) (Or.inl ⟨by kernel_rfl, ?_⟩) ?_ ?_; rotate_left; (intro w'; go_simp; with_reducible rfl); rotate_left; (simp only [Act.put, sa_, sb_, sc_, i64_w, i32_w]; rfl)) | (refine seqL (v := ?_) (a' := ?_) rfl rfl (by kernel_rfl) (fun _ _ _ h => h) (Or.inl ⟨by kernel_rfl, ?_⟩) hHeld ?_ ?_; rotate_left; (rintro w' ⟨s0, s1, s2, s3, s4, s5, s6⟩; go_simp; with_reducible rfl); rotate_left; (simp only [Act.put, sa_, sb_, sc_, i64_w, i32_w]; rfl))
     refine seqG (fn := Try.f59) rfl rfl (by kernel_rfl) rfl Try.func59 (by kernel_rfl) (by kernel_rfl) #[.agg #[.int .i64 x0, .int .i64 x1, .string x2, .int .i64 x3, .string x4, .bool x5]] (by kernel_rfl) (by (try simp only [List.map_toArray, List.map_cons, List.map_nil]); first | done | rfl) ?_
     with_reducible refine (CM.out _).mono ?_
     rintro e wg ⟨rfl, hb2⟩
     have HB2 := am_ (bt_ HB1.out hb2)
     refine ⟨_, rfl, table_May.S_below hHeld hb2, fun hHeld => ⟨?_, ?_, ?_⟩⟩
     rotate_left
     ·simp only [Act.put, sa_, sb_, sc_, i64_w, i32_w]
      rfl
     clear hb2 HB1 CM
     iterate 2 first | (refine seqP (v := ?_) (a' := ?_) rfl rfl (by kernel_rfl) (fun _ _ _ h => h) (Or.inl ⟨by kernel_rfl, ?_⟩) ?_ ?_; rotate_left; (intro w'; go_simp; with_reducible rfl); rotate_left; (simp only [Act.put, sa_, sb_, sc_, i64_w, i32_w]; rfl)) | (refine seqL (v := ?_) (a' := ?_) rfl rfl (by kernel_rfl) (fun _ _ _ h => h) (Or.inl ⟨by kernel_rfl, ?_⟩) hHeld ?_ ?_; rotate_left; (rintro w' ⟨s0, s1, s2, s3, s4, s5, s6⟩; go_simp; with_reducible rfl); rotate_left; (simp only [Act.put, sa_, sb_, sc_, i64_w, i32_w]; rfl))
     iterate 14 first | (refine seqP (v := ?_) (a' := ?_) rfl rfl (by kernel_rfl) (fun _ _ _ h => h) (Or.inl ⟨by kernel_rfl, ?_⟩) ?_ ?_; rotate_left; (intro w'; go_simp; with_reducible rfl); rotate_left; (simp only [Act.put, sa_, sb_, sc_, i64_w, i32_w]; rfl)) | (refine seqL (v := ?_) (a' := ?_) rfl rfl (by kernel_rfl) (fun _ _ _ h => h) (Or.inl ⟨by kernel_rfl, ?_⟩) hHeld ?_ ?_; rotate_left; (rintro w' ⟨s0, s1, s2, s3, s4, s5, s6⟩; go_simp; with_reducible rfl); rotate_left; (simp only [Act.put, sa_, sb_, sc_, i64_w, i32_w]; rfl))
     refine seqE (by kernel_rfl) ?_
     go_wp2
     go_roundg (l0.length - (i.toNat + 1))
     case measure => exact H3.out
     case rel => exact ⟨i + 1, H1.out, H2.out, by first | rfl | (rw [show wrap64 (i + 1) = i + 1 from (i64_w _).symm.trans H4.out]), HB2, HN⟩
  ·have HF := am_ (show decide (l0.length ≤ 8) = r by have h1 := HT.out; rw [List.drop_eq_nil_of_le (by omega)] at h1; rw [← h1, show goTab (hostAheadT l0 i.toNat) [] = true from rfl, Bool.true_and])
   by_cases h8 : l0.length ≤ 8
   ·have c8 : decide ((l0.length : Int) ≤ 8) = true := decide_eq_true (by omega)
    have HG := am_ (show true = r by rw [← HF.out]; exact (decide_eq_true h8).symm)
    clear HT HF
    go_wp2
    go_ret
    exact ⟨ret_bool HG.out, HB.out⟩
   ·have c8 : decide ((l0.length : Int) ≤ 8) = false := decide_eq_false (by omega)
    have HG := am_ (show false = r by rw [← HF.out]; exact (decide_eq_false h8).symm)
    clear HT HF
    go_wp2
    go_ret
    exact ⟨ret_bool HG.out, HB.out⟩

/-! ### table_at: function 51 -/
-- BY HAND
/-- where the first of a row stands that is so; below 0: none is. -/
def table_at.idx (p : S37 → Bool) (l : List S37) : Int := match l.findIdx? p with
 | some i => (i : Int)
 | none => -1
theorem table_at.idx_hit (p : S37 → Bool) (l : List S37) (k : Nat) (hk : k < l.length) (h : p l[k] = true) (hn : ∀ (j : Nat) (hj : j < l.length), j < k → p l[j] = false) : table_at.idx p l = k := by
 have e : l.findIdx? p = some k := List.findIdx?_eq_some_iff_getElem.2 ⟨hk, h, fun j hj => by simp [hn j (by omega) hj]⟩
 unfold table_at.idx
 rw [e]
theorem table_at.idx_miss (p : S37 → Bool) (l : List S37) (hn : ∀ (j : Nat) (hj : j < l.length), p l[j] = false) : table_at.idx p l = -1 := by
 have e : l.findIdx? p = none := List.findIdx?_eq_none_iff.2 fun x hx => by
  obtain ⟨j, hj, rfl⟩ := List.getElem_of_mem hx
  exact hn j hj
 unfold table_at.idx
 rw [e]
theorem table_at.idx_lt (p : S37 → Bool) (l : List S37) : table_at.idx p l < l.length ∧ -1 ≤ table_at.idx p l := by
 unfold table_at.idx
 cases e : l.findIdx? p with
 | none => simp only; omega
 | some i =>
  obtain ⟨h, _⟩ := List.findIdx?_eq_some_iff_getElem.1 e
  simp only
  omega
theorem table_at.idx_congr (p q : S37 → Bool) (l : List S37) (h : ∀ x ∈ l, p x = q x) : table_at.idx p l = table_at.idx q l := by
 cases e : l.findIdx? p with
 | none =>
  have hn := List.findIdx?_eq_none_iff.1 e
  rw [table_at.idx_miss p l (fun j hj => hn _ (List.getElem_mem hj)), table_at.idx_miss q l (fun j hj => by rw [← h _ (List.getElem_mem hj)]; exact hn _ (List.getElem_mem hj))]
 | some i =>
  obtain ⟨hi, h1, h2⟩ := List.findIdx?_eq_some_iff_getElem.1 e
  have h3 : ∀ (j : Nat) (hj : j < l.length), j < i → p l[j] = false := fun j hj hji => by simpa using h2 j hji
  rw [table_at.idx_hit p l i hi h1 h3, table_at.idx_hit q l i hi (by rw [← h _ (List.getElem_mem hi)]; exact h1) (fun j hj hji => by rw [← h _ (List.getElem_mem hj)]; exact h3 j hj hji)]
theorem table_at.rd (l : List S37) (k : Nat) (h : k < l.length) : rd_T37 l (k : Int) = l[k] := by
 unfold rd_T37
 rw [Int.toNat_natCast, List.getD_eq_getElem?_getD, List.getElem?_eq_getElem h]
 rfl
set_option maxHeartbeats 8000000 in
set_option maxRecDepth 100000 in
theorem table_at.index (p : S37 → Bool) (G : Nat) (lb : Array Value) (A0 : Option Addr) (c0 : Nat) (l0 : List S37) (w : World) (hr : Kd.C k37 w A0 l0.length l0) (hs : l0.length ≤ 140737488351232)
  (eg : ∀ args w, (callFunc G args).run Try.prog w = .ok (.enter G args) w)
  (hp : ∀ (W : World) (x : S37), x ∈ l0 → Below w.heap.size w W → Calls Try.prog G (#[.agg #[.int .i64 x.f0, .int .i64 x.f1, .string x.f2, .int .i64 x.f3, .string x.f4, .bool x.f5]] ++ lb) W fun e w' => e = .returned (.bool (p x)) ∧ Below W.heap.size W w') :
  Calls Try.prog 55 #[.slice A0 l0.length c0, .func (.func G) #[] lb] w fun e w' => e = .returned (.int .i64 (table_at.idx p l0)) ∧ Below w.heap.size w w' := by
 have HR := am_ hr
 have HP := am_ hp
 clear hr hp
 go_enter Try.func55, Try.ntmps55
 go_wp2
 go_loopg [5, 8] l0.length (fun gg _ s8 wr => ∃ kk : Nat, kk + gg = l0.length ∧ s8 = .int .i64 kk ∧ Aside0 (Below w.heap.size w wr) ∧ Aside0 (∀ (j : Nat) (h : j < l0.length), j < kk → p (l0[j]'h) = false))
 case atStart => exact ⟨0, by omega, rfl, ⟨Below.refl _ w⟩, ⟨fun j _ hj => absurd hj (Nat.not_lt_zero _)⟩⟩
 case round =>
  obtain ⟨kk, hg, rfl, BW, A⟩ := hrel
  by_cases hlt : kk < l0.length
  ·have hltz : (kk : Int) < (l0.length : Int) := by omega
   obtain ⟨ad, e1, h0, h1, h2, h3, h4, h5⟩ := at_T37 HR.out (kk : Int) (by omega) hltz
   cases e1
   rw [table_at.rd l0 kk hlt] at h0 h1 h2 h3 h4 h5
   rw [Int.toNat_natCast] at h0 h1 h2 h3 h4 h5
   obtain ⟨x, hx⟩ : ∃ x, l0[kk]'hlt = x := ⟨_, rfl⟩
   have B := am_ hx
   rw [hx] at h0 h1 h2 h3 h4 h5
   clear hx
   replace h0 := (BW.out.cell (wb_ w _ h0)).trans h0
   replace h1 := (BW.out.cell (wb_ w _ h1)).trans h1
   replace h2 := (BW.out.cell (wb_ w _ h2)).trans h2
   replace h3 := (BW.out.cell (wb_ w _ h3)).trans h3
   replace h4 := (BW.out.cell (wb_ w _ h4)).trans h4
   replace h5 := (BW.out.cell (wb_ w _ h5)).trans h5
   have hcall := HP.out wr x (by rw [← B.out]; exact List.getElem_mem hlt) BW.out
   cases hq : p x with
   | true =>
    rw [hq] at hcall
    have hq' := am_ hq
    clear hq
    go_wp2_with fail
    refine hcall.mono ?_
    rintro e w' ⟨rfl, hb'⟩
    go_wp2
    go_ret
    refine ⟨?_, bt_ BW.out hb'⟩
    rw [table_at.idx_hit p l0 kk hlt (by rw [B.out]; exact hq'.out) A.out]
    rfl
   | false =>
    rw [hq] at hcall
    have hq' := am_ hq
    clear hq
    go_wp2_with fail
    refine hcall.mono ?_
    rintro e w' ⟨rfl, hb'⟩
    go_wp2
    go_roundg (l0.length - (kk + 1))
    case measure => omega
    case rel =>
     refine ⟨kk + 1, by omega, by go_num, ⟨bt_ BW.out hb'⟩, ⟨fun j h hj => ?_⟩⟩
     by_cases e : j = kk
     ·subst e
      rw [B.out]
      exact hq'.out
     ·exact A.out j h (by omega)
  ·have hltz : ¬ (kk : Int) < (l0.length : Int) := by omega
   go_wp2
   go_ret
   refine ⟨?_, BW.out⟩
   rw [table_at.idx_miss p l0 (fun j hj => A.out j hj (by omega))]
   rfl
set_option maxHeartbeats 8000000 in
set_option maxRecDepth 100000 in
theorem table_at.closure (host : Int) (B : Nat) (x : S37) (w : World) (hc : w.cell? ⟨B, 0, none⟩ = some (.int .i64 host)) :
  Calls Try.prog 78 #[.agg #[.int .i64 x.f0, .int .i64 x.f1, .string x.f2, .int .i64 x.f3, .string x.f4, .bool x.f5], .pointer (some ⟨B, 0, none⟩)] w fun e w' => e = .returned (.bool (x.f0 == host)) ∧ Below w.heap.size w w' := by
 have hlt : B < w.heap.size := wb_ w _ hc
 have hne : B ≠ w.heap.size := by omega
 go_enter Try.func78, Try.ntmps78
 go_wp2
 go_ret
 exact ⟨rfl, by repeat (first | exact Below.refl _ _ | apply p3_ | apply p1_ | apply p2_)⟩
def table_at.f (l0 : List S37) (a1 : Int) : Option Int := if l0.length ≤ 140737488351232 then some (table_at.idx (fun x => x.f0 == a1) l0) else none
set_option maxHeartbeats 8000000 in
set_option maxRecDepth 100000 in
theorem table_at.calls (A0 : Option Addr) (c0 : Nat) (l0 : List (S37)) (a1 : Int) (r : Int) (w : World) (hr0 : Kd.C k37 w A0 l0.length l0) (hc0 : l0.length ≤ c0) (h : table_at.f l0 a1 = some r) :
  Calls Try.prog 51 #[.slice A0 l0.length c0, .int .i64 a1] w fun e w' => e = .returned (.int .i64 r) ∧ Below w.heap.size w w' := by
 unfold table_at.f at h
 by_cases hs : l0.length ≤ 140737488351232
 ·rw [if_pos hs] at h
  obtain rfl := e5_ h
  clear h
  have eg : ∀ args w, (callFunc 78 args).run Try.prog w = .ok (.enter 78 args) w := fun args w => enters_ Try.func78 (by kernel_rfl) rfl args w
  have hb := p3_ (Below.refl w.heap.size w) (.cells #[.int .i64 a1] 3)
  have hcell : (w.alloc (.cells #[.int .i64 a1] 3)).cell? ⟨w.heap.size, 0, none⟩ = some (.int .i64 a1) := (bc_ (blk_new w _) 0).trans rfl
  have hI := table_at.index (fun x => x.f0 == a1) 78 #[.pointer (some ⟨w.heap.size, 0, none⟩)] A0 c0 l0 (w.alloc (.cells #[.int .i64 a1] 3)) (c4_ hr0 hb) hs eg (fun W x _ hW => table_at.closure a1 w.heap.size x W ((hW.cell (p := ⟨w.heap.size, 0, none⟩) (wb_ _ _ hcell)).trans hcell))
  replace hI := am_ hI
  clear hcell eg hr0 hc0
  generalize table_at.idx (fun x => x.f0 == a1) l0 = r at hI ⊢
  go_enter Try.func51, Try.ntmps51
  go_wp2_with (first | (go_at_call 55; refine hI.out.mono ?_; rintro e w' ⟨rfl, hb'⟩))
  go_ret
  exact ⟨rfl, bt_ hb hb'⟩
 ·rw [if_neg hs] at h
  cases h

/-! ### table_With: function 18 -/
-- BY HAND
-- 25 51
instance table_With.inh : Inhabited S37 := ⟨z37⟩
def table_With.enc (x : S37) : List Value := [.int .i64 x.f0, .int .i64 x.f1, .string x.f2, .int .i64 x.f3, .string x.f4, .bool x.f5]
def table_With.cf (x y : S37) : Int := wrap64 (x.f0 - y.f0)
def table_With.ren : Go.Shelf.Ren := ⟨fun i => if i = 20 then 93 else 0, fun i => if i = 3 then 3 else if i = 4 then 4 else if i = 22 then 27 else if i = 24 then 37 else if i = 25 then 85 else 0, fun i => i⟩
theorem table_With.lays : SlLaysF0.n20 Try.prog table_With.ren where
 mixed := by kernel_rfl
 f20 := ⟨"slices.insertionSortCmpFunc[pinfold/api.Lease]", by decide, by kernel_rfl⟩
 t0 := by kernel_rfl
 a0 := fun w => by kernel_rfl
 z0 := fun w => by kernel_rfl
 v0 := fun w => by kernel_rfl
 t3 := by kernel_rfl
 a3 := fun w => by kernel_rfl
 z3 := fun w => by kernel_rfl
 v3 := fun w => by kernel_rfl
 t4 := by kernel_rfl
 a4 := fun w => by kernel_rfl
 z4 := fun w => by kernel_rfl
 v4 := fun w => by kernel_rfl
 t22 := by kernel_rfl
 a22 := fun w => by kernel_rfl
 z22 := fun w => by kernel_rfl
 v22 := fun w => by kernel_rfl
 t25 := by kernel_rfl
 a25 := fun w => by kernel_rfl
 z25 := fun w => by kernel_rfl
 v25 := fun w => by kernel_rfl
set_option maxHeartbeats 8000000 in
set_option maxRecDepth 100000 in
theorem table_With.cmp (x y : S37) (W : World) :
  Calls Try.prog 53 #[.agg #[.int .i64 x.f0, .int .i64 x.f1, .string x.f2, .int .i64 x.f3, .string x.f4, .bool x.f5], .agg #[.int .i64 y.f0, .int .i64 y.f1, .string y.f2, .int .i64 y.f3, .string y.f4, .bool y.f5]] W fun e w' => e = .returned (.int .i64 (table_With.cf x y)) ∧ ∃ q os', w' = Go.Sort.grow (W.drewN q) os' := by
 go_enter Try.func53, Try.ntmps53
 go_wp2
 go_ret
 refine ⟨rfl, 0, #[.cells #[.int .i64 x.f0, .int .i64 x.f1, .string x.f2, .int .i64 x.f3, .string x.f4, .bool x.f5] 37, .cells #[.int .i64 y.f0, .int .i64 y.f1, .string y.f2, .int .i64 y.f3, .string y.f4, .bool y.f5] 37], ?_⟩
 rfl
/-- a row's cells. -/
def table_With.Cells (cur : Array Value) (xs : List S37) : Prop := ∀ t, t < xs.length * 6 → cur[t]? = some ((table_With.enc (xs.toArray[t / 6]!))[t % 6]!)
theorem table_With.get (xs : List S37) (j : Nat) (h : j < xs.length) : xs.toArray[j]! = xs[j] := by
 simp [h]
theorem table_With.cells_of {w : World} {base n cap g : Nat} {ok : Nat → Prop} {xs : List S37} (h : Kd.R k37 37 w base ok (.slice (some ⟨g, 0, none⟩) n cap) xs) :
  ∃ cur, w.heap[g]? = some (.cells cur 37 (0, 0)) ∧ n = xs.length ∧ n ≤ cap ∧ cap ≤ maxLen ∧ cur.size = cap * 6 ∧ base ≤ g ∧ ok g ∧ table_With.Cells cur xs := by
 obtain ⟨h0, inner, ⟨hil, hv⟩, hr⟩ := h
 rcases hv with ⟨hv, _⟩ | ⟨g', cap', cur, hv, hb, hc, hn, hm, hs, ht⟩
 ·cases hv
 ·have hn2 : n = xs.length := by cases hv; rfl
  obtain rfl : cap = cap' := by cases hv; rfl
  obtain rfl : g = g' := by cases hv; rfl
  refine ⟨cur, hc, hn2, by omega, hm, hs, hb, h0 g (by simp [Value.ownBlock]), fun t ht2 => ?_⟩
  have hj : t / 6 < xs.length := by omega
  have h1 := k37_openM (hr.2 (t / 6) _ (List.getElem?_eq_getElem hj))
  have h2 : inner[t]? = (table_With.enc xs[t / 6])[t % 6]? := by
   have h1' : ((List.drop (t / 6 * 6) inner).take 6)[t % 6]? = (table_With.enc xs[t / 6])[t % 6]? := congrArg (fun l : List Value => l[t % 6]?) h1
   rw [← h1']
   rw [List.getElem?_take_of_lt (by omega), List.getElem?_drop, show t / 6 * 6 + t % 6 = t by omega]
  have h3 : cur[t]? = inner[t]? := by
   have ht' : cur.toList.take (xs.length * 6) = inner := ht
   rw [← ht', List.getElem?_take_of_lt ht2, Array.getElem?_toList]
  have h4 : t % 6 < (table_With.enc xs[t / 6]).length := by show t % 6 < 6; omega
  rw [h3, h2, table_With.get xs _ hj, List.getElem?_eq_getElem h4, getElem!_pos (table_With.enc xs[t / 6]) (t % 6) h4]
theorem table_With.of_cells {w : World} {base n cap g : Nat} {ok : Nat → Prop} {xs : List S37} {cur : Array Value} (hc : w.heap[g]? = some (.cells cur 37 (0, 0))) (hn : n = xs.length) (hcap : n ≤ cap) (hm : cap ≤ maxLen) (hs : cur.size = cap * 6) (hb : base ≤ g) (ho : ok g) (hx : table_With.Cells cur xs) :
  Kd.R k37 37 w base ok (.slice (some ⟨g, 0, none⟩) n cap) xs := by
 subst hn
 have hl : (cur.toList.take (xs.length * 6)).length = xs.length * 6 := by
  have hz : cur.toList.length = cap * 6 := by simpa using hs
  rw [List.length_take, hz]
  exact Nat.min_eq_left (Nat.mul_le_mul_right _ hcap)
 refine ⟨fun k hk => ?_, cur.toList.take (xs.length * 6), ⟨hl, .inr ⟨g, cap, cur, rfl, hb, hc, hcap, hm, hs, rfl⟩⟩, hl, fun j p hp => ?_⟩
 ·simp only [Value.ownBlock, Option.some.injEq] at hk
  rw [← hk]
  exact ho
 ·obtain ⟨hj, rfl⟩ := List.getElem?_eq_some_iff.1 hp
  have e : ((cur.toList.take (xs.length * 6)).drop (j * 6)).take 6 = table_With.enc xs[j] := by
   apply List.ext_getElem?
   intro r
   by_cases hr : r < 6
   ·have h1 := hx (j * 6 + r) (by omega)
    rw [show (j * 6 + r) / 6 = j by omega, show (j * 6 + r) % 6 = r by omega, table_With.get xs j hj] at h1
    have h4 : r < (table_With.enc xs[j]).length := hr
    rw [getElem!_pos (table_With.enc xs[j]) r h4] at h1
    rw [List.getElem?_take_of_lt hr, List.getElem?_drop, List.getElem?_take_of_lt (by omega), Array.getElem?_toList, h1, List.getElem?_eq_getElem h4]
   ·rw [List.getElem?_eq_none (by rw [List.length_take]; omega), List.getElem?_eq_none (by show 6 ≤ r; omega)]
  show (k37).M _ _ _ _ (((cur.toList.take (xs.length * 6)).drop (j * 6)).take 6)
  rw [e]
  exact k37_mkM _ _ _ _
/-- the rounds of an insertion sort. -/
def table_With.outer (lt : S37 → S37 → Bool) : Nat → Nat → Array S37 → Array S37
 | 0, _, d => d
 | m + 1, i, d => table_With.outer lt m (i + 1) (Go.Sort.insInner lt 0 i d)
theorem table_With.outer_eq (lt : S37 → S37 → Bool) (m : Nat) : ∀ (i b : Nat) (d : Array S37), i + m = b → Go.Sort.insOuter lt 0 b i d = table_With.outer lt m i d := by
 induction m with
 | zero =>
  intro i b d h
  rw [Go.Sort.insOuter, if_neg (by omega)]
  rfl
 | succ m ih =>
  intro i b d h
  rw [Go.Sort.insOuter, if_pos (by omega)]
  exact ih (i + 1) b _ (by omega)
theorem table_With.size_inner (lt : S37 → S37 → Bool) : ∀ (j : Nat) (d : Array S37), (Go.Sort.insInner lt 0 j d).size = d.size
 | 0, d => rfl
 | j + 1, d => by
  unfold Go.Sort.insInner
  split
  ·rw [table_With.size_inner lt j, Go.Sort.size_swp]
  ·rfl
theorem table_With.size_outer (lt : S37 → S37 → Bool) : ∀ (m i : Nat) (d : Array S37), (table_With.outer lt m i d).size = d.size
 | 0, _, d => rfl
 | m + 1, i, d => by rw [table_With.outer, table_With.size_outer lt m, table_With.size_inner]
def table_With.srt (xs : List S37) : List S37 := (table_With.outer (ltOf table_With.cf) (xs.length - 1) 1 xs.toArray).toList
theorem table_With.srt_length (xs : List S37) : (table_With.srt xs).length = xs.length := by
 unfold table_With.srt
 rw [Array.length_toList, table_With.size_outer]
 rfl
/-- what a sort leaves. -/
def table_With.Done (W : World) (g cap : Nat) (xs : List S37) (w' : World) : Prop := ∃ cur', w'.heap[g]? = some (.cells cur' 37 (0, 0)) ∧ cur'.size = cap * 6 ∧ table_With.Cells cur' xs ∧ W.grownBy w' (some g)
theorem table_With.done {W : World} {g cap m : Nat} {cur : Array Value} {dk : Array S37} {os : Array Obj} (hc : W.heap[g]? = some (.cells cur 37 (0, 0))) (hcap : dk.size ≤ cap) (hs : cur.size = cap * 6) :
  table_With.Done W g cap dk.toList (sortWorldK table_With.enc 6 W g 0 m dk os) := by
 have hlt : g < W.heap.size := (Array.getElem?_eq_some_iff.1 hc).1
 have hb : (sortWorldK table_With.enc 6 W g 0 m dk os).heap = (W.heap.modify g (Go.Sort.onCells (Go.Sort.putCells id 0 (Go.Sort.flatK table_With.enc 6 dk)))) ++ os := rfl
 refine ⟨Go.Sort.putCells id 0 (Go.Sort.flatK table_With.enc 6 dk) cur, ?_, ?_, fun t ht => ?_, ⟨rfl, rfl, rfl, ?_, fun k hk hne => ?_⟩⟩
 ·rw [hb, Array.getElem?_append_left (by simpa using hlt), Array.getElem?_modify, if_pos rfl, hc]
  rfl
 ·unfold Go.Sort.putCells
  simpa using hs
 ·have htl : t < dk.size * 6 := by simpa using ht
  have hcur : t < cur.size := by omega
  unfold Go.Sort.putCells
  rw [Array.getElem?_mapIdx, Array.getElem?_eq_getElem hcur]
  simp only [Option.map_some, Go.Sort.size_flatK, Nat.zero_add, Nat.zero_le, true_and, Nat.sub_zero, id_eq]
  rw [if_pos htl, Go.Sort.get_flatK _ _ _ _ htl]
 ·rw [hb]
  simp
 ·have hkg : g ≠ k := fun e => hne (by rw [e])
  rw [hb, Array.getElem?_append_left (by simpa using hk), Array.getElem?_modify, if_neg hkg]
set_option maxHeartbeats 8000000 in
set_option maxRecDepth 100000 in
theorem table_With.stable (xs : List S37) (g cap : Nat) (cur : Array Value) (W : World) (hc : W.heap[g]? = some (.cells cur 37 (0, 0))) (hcap : xs.length ≤ cap) (hs : cur.size = cap * 6) (hx : table_With.Cells cur xs) (hn : xs.length ≤ 19) (hn0 : 0 < xs.length) :
  Calls Try.prog 79 #[.slice (some ⟨g, 0, none⟩) xs.length cap, .int .i64 xs.length, .func (.func 53) #[] #[]] W fun e w' => e = .returned (.tuple #[]) ∧ table_With.Done W g cap (table_With.srt xs) w' := by
 have eg : ∀ args w, (callFunc 53 args).run Try.prog w = .ok (.enter 53 args) w := enters_of Try.func53 (by kernel_rfl) rfl
 have hH : Go.Sort.HoldsK table_With.enc 6 W g 0 xs.toArray := fun j hj => by
  have hj2 : j < xs.length * 6 := by simpa using hj
  rw [Nat.zero_add]
  refine ⟨?_, bf_ hc j⟩
  rw [bc_ hc j, hx j hj2, Go.Sort.get_flatK _ _ _ _ (by simpa using hj2)]
  rfl
 have hI := AnyQ.insertionSortCmpFunc table_With.lays 6 (fun w => by kernel_rfl) (fun w => by kernel_rfl) table_With.enc (fun x => rfl) (fun x v hv => by
  simp only [table_With.enc, List.mem_cons, List.mem_nil_iff, or_false] at hv
  rcases hv with rfl | rfl | rfl | rfl | rfl | rfl <;> rfl) table_With.cf 53 #[] g 0 cap 0 xs.length xs.toArray W eg (fun m os dk _ x y => table_With.cmp x y _) hH (Array.getElem?_eq_some_iff.1 hc).1 (Nat.zero_le _) (by simp) (by simp; omega)
 have hD : ∀ m os, table_With.Done W g cap (table_With.srt xs) (sortWorldK table_With.enc 6 W g 0 m (Go.Sort.insertionSort (ltOf table_With.cf) xs.toArray 0 xs.length) os) := fun m os => by
  have e : Go.Sort.insertionSort (ltOf table_With.cf) xs.toArray 0 xs.length = table_With.outer (ltOf table_With.cf) (xs.length - 1) 1 xs.toArray := table_With.outer_eq _ _ 1 _ _ (by omega)
  rw [e]
  exact table_With.done hc (by rw [table_With.size_outer]; simpa using hcap) hs
 replace hI := am_ (show Calls Try.prog 93 #[.slice (some ⟨g, 0, none⟩) xs.length cap, .int .i64 0, .int .i64 xs.length, .func (.func 53) #[] #[]] W fun e w' => e = .returned (.tuple #[]) ∧ table_With.Done W g cap (table_With.srt xs) w' from hI.mono (by
  rintro e w' ⟨rfl, m, os, rfl⟩
  exact ⟨rfl, hD m os⟩))
 clear hD hH eg hc hx hs
 have d1 : decide ((20 : Int) ≤ (xs.length : Int)) = false := decide_eq_false (by omega)
 have d2 : decide ((20 : Int) < (xs.length : Int)) = false := decide_eq_false (by omega)
 go_enter Try.func79, Try.ntmps79
 go_wp2
 refine wp_loop_rounds 1 ?_
 rw [rounds_succ]
 go_wp2_with (first | (go_at_call 93; refine hI.out.mono ?_; rintro e w' ⟨rfl, hd⟩))
 refine wp_loop_rounds 1 ?_
 rw [rounds_succ]
 go_wp2
 go_end0
 exact ⟨rfl, hd⟩
set_option maxHeartbeats 8000000 in
set_option maxRecDepth 100000 in
theorem table_With.sort (xs : List S37) (g cap : Nat) (cur : Array Value) (W : World) (hc : W.heap[g]? = some (.cells cur 37 (0, 0))) (hcap : xs.length ≤ cap) (hs : cur.size = cap * 6) (hx : table_With.Cells cur xs) (hn : xs.length ≤ 19) (hn0 : 0 < xs.length) :
  Calls Try.prog 52 #[.slice (some ⟨g, 0, none⟩) xs.length cap, .func (.func 53) #[] #[]] W fun e w' => e = .returned (.tuple #[]) ∧ table_With.Done W g cap (table_With.srt xs) w' := by
 have hI := am_ (table_With.stable xs g cap cur W hc hcap hs hx hn hn0)
 clear hc hs hx
 go_enter Try.func52, Try.ntmps52
 go_wp2_with (first | (go_at_call 79; refine hI.out.mono ?_; rintro e w' ⟨rfl, hd⟩))
 go_end0
 exact ⟨rfl, hd⟩
theorem table_With.nil1 (c : Nat) (w : World) : (binOp .eql 27 (.slice none 0 c) (.slice none 0 0)).run Try.prog w = .ok (.bool true) w := by kernel_rfl
theorem table_With.nil2 (ad : Addr) (n c : Nat) (w : World) : (binOp .eql 27 (.slice (some ad) n c) (.slice none 0 0)).run Try.prog w = .ok (.bool false) w := by kernel_rfl
theorem table_With.info : (Try.prog.info? 37).map (fun i => (i.zero, i.size, i.bytes)) = some (some (.agg #[.int .i64 0, .int .i64 0, .string ⟨#[]⟩, .int .i64 0, .string ⟨#[]⟩, .bool false]), 6, 64) := by kernel_rfl
set_option maxHeartbeats 8000000 in
set_option maxRecDepth 100000 in
theorem table_With.clone (A0 : Option Addr) (c0 : Nat) (l0 : List (S37)) (w : World) (hr0 : Kd.C k37 w A0 l0.length l0) (hc0 : l0.length ≤ c0) (hs : l0.length ≤ 1000) :
  Calls Try.prog 50 #[.slice A0 l0.length c0] w fun e w' => ∃ v : Value, e = .returned v ∧ Kd.R k37 37 w' w.heap.size (fun _ => True) v l0 ∧ Below w.heap.size w w' := by
 have HR := am_ hr0
 have HC := am_ hc0
 cases A0 with
 | none =>
  have hn : l0 = [] := by
   cases l0 with
   | nil => rfl
   | cons x r =>
    obtain ⟨ad, e, _⟩ := hr0.2.2 (by simp)
    cases e
  clear hr0 hc0
  subst hn
  have he := table_With.nil1 c0
  go_enter Try.func50, Try.ntmps50
  go_wp2
  go_ret
  exact ⟨_, rfl, Kd.R_nil _ _ _ _ _, Below.refl _ _⟩
 | some ad =>
  clear hr0 hc0
  have he := table_With.nil2 ad l0.length c0
  go_enter Try.func50, Try.ntmps50
  go_wp2_with (first
   | ((with_reducible refine gate_dst (N := 5) rfl ?_); refine Kd.R_lit k37 _ 37 ?hg (N := 5) ?hd (xs := ([] : List S37)) (inner := []) (ok := fun _ => True) (okp := fun _ => True) ?hr ?hp (fun _ hk => hk) trivial (Below.refl _ _) (Nat.le_refl _) (by simp) ?_; (case hd => rfl); (case hg => rfl); (case hr => first | (go_simp; done) | (go_simp; rfl)); (case hp => exact (Reps.none _ _)); intro v104 w5 ho6 hb hg_ hnew_; clear hg_ hnew_; have HO := am_ ho6; have HB := am_ hb; clear hb ho6)
   | ((with_reducible refine gate_builtin (b := .append) (xs := #[.tmp 5, .tmp 6]) rfl ?_); at_builtin; refine Kd.R_append_rows k37 (w0 := w) w.heap.size rfl (.tmp 5) (.tmp 6) 27 37 (.agg #[.int .i64 0, .int .i64 0, .string ⟨#[]⟩, .int .i64 0, .string ⟨#[]⟩, .bool false]) 64 rfl Try.underlying27 table_With.info rfl (by decide) (by omega) v104 [] l0 _ _ _ (fun _ => True) (fun _ => False) rfl rfl ?aO ?aR (fun _ _ h => h) (fun _ h => h.elim) ?aF ?aB ?aS ?aL ?_; (case aR => exact c4_ HR.out HB.out); (case aB => exact HB.out); (case aF => exact (fun _ _ => trivial)); (case aO => exact HO.out); (case aS => exact HB.out.size); (case aL => simp; omega); intro v107 w9 ho hb hg hat; rw [List.nil_append] at ho; clear hg hat))
  go_ret
  exact ⟨_, rfl, ho, hb⟩
theorem table_With.set_cells {cur : Array Value} {l0 : List S37} (hx : table_With.Cells cur l0) (ii : Nat) (hi : ii < l0.length) (hs : l0.length * 6 ≤ cur.size) (x : S37) :
  table_With.Cells ((((((cur.setIfInBounds (ii * 6) (.int .i64 x.f0)).setIfInBounds (ii * 6 + 1) (.int .i64 x.f1)).setIfInBounds (ii * 6 + 2) (.string x.f2)).setIfInBounds (ii * 6 + 3) (.int .i64 x.f3)).setIfInBounds (ii * 6 + 4) (.string x.f4)).setIfInBounds (ii * 6 + 5) (.bool x.f5)) (l0.set ii x) := by
 intro t ht
 rw [List.length_set] at ht
 have h0 := hx t ht
 have hj : t / 6 < l0.length := by omega
 by_cases e : t / 6 = ii
 ·have hg : (l0.set ii x).toArray[t / 6]! = x := by
   rw [table_With.get _ _ (by rw [List.length_set]; exact hj), List.getElem_set, if_pos e.symm]
  rw [hg]
  obtain ⟨r, hr, hr6⟩ : ∃ r, t = ii * 6 + r ∧ r < 6 := ⟨t - ii * 6, by omega, by omega⟩
  subst hr
  rw [show (ii * 6 + r) % 6 = r by omega]
  have hk : ii * 6 + 6 ≤ cur.size := by omega
  match r, hr6 with
  | 0, _ => (have h9 : ii * 6 < cur.size := (by omega)); simp [Array.getElem?_setIfInBounds, h9, table_With.enc]
  | 1, _ => (have h9 : ii * 6 + 1 < cur.size := (by omega)); simp [Array.getElem?_setIfInBounds, h9, table_With.enc]
  | 2, _ => (have h9 : ii * 6 + 2 < cur.size := (by omega)); simp [Array.getElem?_setIfInBounds, h9, table_With.enc]
  | 3, _ => (have h9 : ii * 6 + 3 < cur.size := (by omega)); simp [Array.getElem?_setIfInBounds, h9, table_With.enc]
  | 4, _ => (have h9 : ii * 6 + 4 < cur.size := (by omega)); simp [Array.getElem?_setIfInBounds, h9, table_With.enc]
  | 5, _ => (have h9 : ii * 6 + 5 < cur.size := (by omega)); simp [Array.getElem?_setIfInBounds, h9, table_With.enc]
  | q + 6, h => omega
 ·have hg : (l0.set ii x).toArray[t / 6]! = l0.toArray[t / 6]! := by
   rw [table_With.get _ _ (by rw [List.length_set]; exact hj), table_With.get _ _ hj, List.getElem_set, if_neg (fun h => e h.symm)]
  rw [hg, ← h0]
  simp only [Array.getElem?_setIfInBounds, Array.size_setIfInBounds]
  rw [if_neg (by omega), if_neg (by omega), if_neg (by omega), if_neg (by omega), if_neg (by omega), if_neg (by omega)]
/-- what leaves become with one more. -/
def table_With.out (l0 : List S37) (x : S37) : List S37 := if table_at.idx (fun y => y.f0 == x.f0) l0 ≥ 0 then l0.set (table_at.idx (fun y => y.f0 == x.f0) l0).toNat x else table_With.srt (l0 ++ [x])
def table_With.f (l0 : List S37) (a1_0 : Int) (a1_1 : Int) (a1_2 : ByteArray) (a1_3 : Int) (a1_4 : ByteArray) (a1_5 : Bool) : Option (List S37 × Int) :=
 if l0.length ≤ 18 then ((table_May_c.f l0).bind fun m => if m = true then ((table_May_c.f (table_With.out l0 (⟨a1_0, a1_1, a1_2, a1_3, a1_4, a1_5⟩ : S37))).bind fun q => if q = true then some (table_With.out l0 (⟨a1_0, a1_1, a1_2, a1_3, a1_4, a1_5⟩ : S37), 0) else some ([], 1300)) else some ([], 1300)) else none
set_option maxHeartbeats 8000000 in
set_option maxRecDepth 100000 in
theorem table_With.calls (A0 : Option Addr) (c0 : Nat) (l0 : List (S37)) (a1_0 : Int) (a1_1 : Int) (a1_2 : ByteArray) (a1_3 : Int) (a1_4 : ByteArray) (a1_5 : Bool) (r1 : List (S37)) (r2 : Int) (w : World) (hr0 : Kd.C k37 w A0 l0.length l0) (hc0 : l0.length ≤ c0) (h : table_With.f l0 a1_0 a1_1 a1_2 a1_3 a1_4 a1_5 = some (r1, r2)) :
  Calls Try.prog 18 #[.slice A0 l0.length c0, .agg #[.int .i64 a1_0, .int .i64 a1_1, .string a1_2, .int .i64 a1_3, .string a1_4, .bool a1_5]] w fun e w' => ∃ v0_ : Value, e = .returned (.tuple #[v0_, .int .i64 r2]) ∧ Kd.R k37 37 w' w.heap.size (fun _ => True) v0_ r1 ∧ Below w.heap.size w w' := by
 have HR := am_ hr0
 have HC := am_ hc0
 clear hr0 hc0
 unfold table_With.f at h
 by_cases hs : l0.length ≤ 18
 rotate_left
 ·rw [if_neg hs] at h
  cases h
 rw [if_pos hs] at h
 replace h := Option.bind_eq_some_iff.1 h
 obtain ⟨m, hm, h⟩ := h
 have HM := am_ (fun W hr => table_May_c.calls A0 c0 l0 m W hr HC.out hm)
 clear hm
 have HCL := am_ (fun W hr => table_With.clone A0 c0 l0 W hr HC.out (by omega))
 have HAT := am_ (fun W hr => table_at.calls A0 c0 l0 a1_0 (table_at.idx (fun y => y.f0 == a1_0) l0) W hr HC.out (by unfold table_at.f; rw [if_pos (by omega)]))
 unfold table_With.out at h
 by_cases hi : table_at.idx (fun y => y.f0 == a1_0) l0 ≥ 0
 ·rw [if_pos (show table_at.idx (fun y => y.f0 == ((⟨a1_0, a1_1, a1_2, a1_3, a1_4, a1_5⟩ : S37)).f0) l0 ≥ 0 from hi)] at h
  have hlt := (table_at.idx_lt (fun y => y.f0 == a1_0) l0).1
  replace h : ((if m = true then ((table_May_c.f (l0.set (table_at.idx (fun y => y.f0 == a1_0) l0).toNat (⟨a1_0, a1_1, a1_2, a1_3, a1_4, a1_5⟩ : S37))).bind fun q => if q = true then some (l0.set (table_at.idx (fun y => y.f0 == a1_0) l0).toNat (⟨a1_0, a1_1, a1_2, a1_3, a1_4, a1_5⟩ : S37), (0 : Int)) else some ([], 1300)) else some ([], 1300)) : Option (List S37 × Int)) = some (r1, r2) := h
  obtain ⟨ii, hii⟩ : ∃ ii : Nat, table_at.idx (fun y => y.f0 == a1_0) l0 = (ii : Int) := ⟨(table_at.idx (fun y => y.f0 == a1_0) l0).toNat, by omega⟩
  rw [hii] at h hlt
  rw [hii] at HAT
  rw [Int.toNat_natCast] at h
  have hib : decide ((0 : Int) ≤ (ii : Int)) = true := decide_eq_true (by omega)
  have hil : ii < l0.length := by omega
  have hilz : (ii : Int) < (l0.length : Int) := hlt
  clear hi hii hlt
  cases m with
  | false =>
   rw [if_neg (by decide)] at h
   simp only [Option.some.injEq, Prod.mk.injEq] at h
   obtain ⟨rfl, rfl⟩ := h
   go_enter Try.func18, Try.ntmps18
   go_wp2_with (first
    | (go_at_call 50; refine (HCL.out _ (c4_ HR.out (p3_ (Below.refl _ _) _))).mono ?_; rintro e w1 ⟨v, rfl, hv, hb1⟩; have HV := am_ (Kd.R_lower hv (show w.heap.size ≤ _ by first | (simp; done) | exact Nat.le_succ _)); have HVB := am_ hv; have E1 := am_ (kb_ (blk_new w (.cells #[.int .i64 a1_0, .int .i64 a1_1, .string a1_2, .int .i64 a1_3, .string a1_4, .bool a1_5] 37)) hb1); have HB := am_ (bt_ (p3_ (Below.refl _ _) _) hb1); have u0 := bc_ E1.out 0; clear hb1 hv)
    | (go_at_call 51; refine (HAT.out _ (c4_ HR.out HB.out)).mono ?_; rintro e w2 ⟨rfl, hb2⟩; have HVB2 := Kd.R_below HVB.out hb2; have E2 := am_ (kb_ E1.out hb2); have HB2 := am_ (bt_ HB.out hb2); have x0 := bc_ E2.out 0; have x1 := bc_ E2.out 1; have x2 := bc_ E2.out 2; have x3 := bc_ E2.out 3; have x4 := bc_ E2.out 4; have x5 := bc_ E2.out 5; obtain ⟨g, cap, rfl, hbg, _, _⟩ := Kd.R_form HVB2 (by omega); obtain ⟨cur, hc, _, hcap, hmx, hsz, _, _, hx⟩ := table_With.cells_of HVB2; have hbg0 : w.heap.size ≤ g := Nat.le_trans (by first | (simp; done) | exact Nat.le_succ _) hbg; have hgne : w.heap.size ≠ g := Nat.ne_of_lt (Nat.lt_of_lt_of_le (by simp) hbg); have y0 := bc_ hc (ii * 6); have yh0 := hx (ii * 6 + 0) (by omega); have z0 := bf_ hc (ii * 6); have y1 := bc_ hc (ii * 6 + 1); have yh1 := hx (ii * 6 + 1) (by omega); have z1 := bf_ hc (ii * 6 + 1); have y2 := bc_ hc (ii * 6 + 2); have yh2 := hx (ii * 6 + 2) (by omega); have z2 := bf_ hc (ii * 6 + 2); have y3 := bc_ hc (ii * 6 + 3); have yh3 := hx (ii * 6 + 3) (by omega); have z3 := bf_ hc (ii * 6 + 3); have y4 := bc_ hc (ii * 6 + 4); have yh4 := hx (ii * 6 + 4) (by omega); have z4 := bf_ hc (ii * 6 + 4); have y5 := bc_ hc (ii * 6 + 5); have yh5 := hx (ii * 6 + 5) (by omega); have z5 := bf_ hc (ii * 6 + 5); rw [Nat.add_zero] at yh0; rw [yh0] at y0; rw [yh1] at y1; rw [yh2] at y2; rw [yh3] at y3; rw [yh4] at y4; rw [yh5] at y5; clear yh0 yh1 yh2 yh3 yh4 yh5; have HC3 := am_ (blk_set (blk_set (blk_set (blk_set (blk_set (blk_set hc (ii * 6) (.int .i64 a1_0)) (ii * 6 + 1) (.int .i64 a1_1)) (ii * 6 + 2) (.string a1_2)) (ii * 6 + 3) (.int .i64 a1_3)) (ii * 6 + 4) (.string a1_4)) (ii * 6 + 5) (.bool a1_5)); have HX3 := am_ (table_With.set_cells hx ii hil (by omega) (⟨a1_0, a1_1, a1_2, a1_3, a1_4, a1_5⟩ : S37)); have HB4 := am_ (show Below w.heap.size w ((((((w2.setCell ⟨g, ii * 6, none⟩ (.int .i64 a1_0)).setCell ⟨g, ii * 6 + 1, none⟩ (.int .i64 a1_1)).setCell ⟨g, ii * 6 + 2, none⟩ (.string a1_2)).setCell ⟨g, ii * 6 + 3, none⟩ (.int .i64 a1_3)).setCell ⟨g, ii * 6 + 4, none⟩ (.string a1_4)).setCell ⟨g, ii * 6 + 5, none⟩ (.bool a1_5)) from ((((((HB2.out.setCell hbg0 _).setCell hbg0 _).setCell hbg0 _).setCell hbg0 _).setCell hbg0 _).setCell hbg0 _)); have HV4 := am_ (show Kd.R k37 37 ((((((w2.setCell ⟨g, ii * 6, none⟩ (.int .i64 a1_0)).setCell ⟨g, ii * 6 + 1, none⟩ (.int .i64 a1_1)).setCell ⟨g, ii * 6 + 2, none⟩ (.string a1_2)).setCell ⟨g, ii * 6 + 3, none⟩ (.int .i64 a1_3)).setCell ⟨g, ii * 6 + 4, none⟩ (.string a1_4)).setCell ⟨g, ii * 6 + 5, none⟩ (.bool a1_5)) w.heap.size (fun _ => True) (.slice (some ⟨g, 0, none⟩) l0.length cap) (l0.set ii (⟨a1_0, a1_1, a1_2, a1_3, a1_4, a1_5⟩ : S37)) from table_With.of_cells HC3.out (List.length_set).symm hcap hmx (by simpa using hsz) hbg0 trivial HX3.out); have HN := am_ hcap; clear hb2 HVB2 hx hc hcap hmx hsz hbg HC3 HX3)
    | (go_at_call 25; with_reducible refine (HM.out _ (c4_ HR.out HB4.out)).mono ?_; rintro e w5 ⟨rfl, hb5⟩; have HB5 := am_ (bt_ HB4.out hb5); have HV5 := am_ (Kd.R_below HV4.out hb5); clear hb5))
   go_ret2
   exact ⟨_, rfl, Kd.R_nil _ _ _ _ _, HB5.out⟩
  | true =>
   rw [if_pos rfl] at h
   replace h := Option.bind_eq_some_iff.1 h
   obtain ⟨q, hq, h⟩ := h
   have HQ := am_ (show ∀ (W : World) (A : Option Addr) (c : Nat), Kd.C k37 W A l0.length (l0.set ii (⟨a1_0, a1_1, a1_2, a1_3, a1_4, a1_5⟩ : S37)) → l0.length ≤ c → Calls Try.prog 25 #[.slice A l0.length c] W fun e w' => e = .returned (.bool q) ∧ Below W.heap.size W w' from fun W A c hr hc => by
    have := table_May_c.calls A c (l0.set ii (⟨a1_0, a1_1, a1_2, a1_3, a1_4, a1_5⟩ : S37)) q W (by rw [List.length_set]; exact hr) (by rw [List.length_set]; exact hc) hq
    rw [List.length_set] at this
    exact this)
   clear hq
   cases q with
   | false =>
    rw [if_neg (by decide)] at h
    simp only [Option.some.injEq, Prod.mk.injEq] at h
    obtain ⟨rfl, rfl⟩ := h
    go_enter Try.func18, Try.ntmps18
    go_wp2_with (first
     | (go_at_call 50; refine (HCL.out _ (c4_ HR.out (p3_ (Below.refl _ _) _))).mono ?_; rintro e w1 ⟨v, rfl, hv, hb1⟩; have HV := am_ (Kd.R_lower hv (show w.heap.size ≤ _ by first | (simp; done) | exact Nat.le_succ _)); have HVB := am_ hv; have E1 := am_ (kb_ (blk_new w (.cells #[.int .i64 a1_0, .int .i64 a1_1, .string a1_2, .int .i64 a1_3, .string a1_4, .bool a1_5] 37)) hb1); have HB := am_ (bt_ (p3_ (Below.refl _ _) _) hb1); have u0 := bc_ E1.out 0; clear hb1 hv)
     | (go_at_call 51; refine (HAT.out _ (c4_ HR.out HB.out)).mono ?_; rintro e w2 ⟨rfl, hb2⟩; have HVB2 := Kd.R_below HVB.out hb2; have E2 := am_ (kb_ E1.out hb2); have HB2 := am_ (bt_ HB.out hb2); have x0 := bc_ E2.out 0; have x1 := bc_ E2.out 1; have x2 := bc_ E2.out 2; have x3 := bc_ E2.out 3; have x4 := bc_ E2.out 4; have x5 := bc_ E2.out 5; obtain ⟨g, cap, rfl, hbg, _, _⟩ := Kd.R_form HVB2 (by omega); obtain ⟨cur, hc, _, hcap, hmx, hsz, _, _, hx⟩ := table_With.cells_of HVB2; have hbg0 : w.heap.size ≤ g := Nat.le_trans (by first | (simp; done) | exact Nat.le_succ _) hbg; have hgne : w.heap.size ≠ g := Nat.ne_of_lt (Nat.lt_of_lt_of_le (by simp) hbg); have y0 := bc_ hc (ii * 6); have yh0 := hx (ii * 6 + 0) (by omega); have z0 := bf_ hc (ii * 6); have y1 := bc_ hc (ii * 6 + 1); have yh1 := hx (ii * 6 + 1) (by omega); have z1 := bf_ hc (ii * 6 + 1); have y2 := bc_ hc (ii * 6 + 2); have yh2 := hx (ii * 6 + 2) (by omega); have z2 := bf_ hc (ii * 6 + 2); have y3 := bc_ hc (ii * 6 + 3); have yh3 := hx (ii * 6 + 3) (by omega); have z3 := bf_ hc (ii * 6 + 3); have y4 := bc_ hc (ii * 6 + 4); have yh4 := hx (ii * 6 + 4) (by omega); have z4 := bf_ hc (ii * 6 + 4); have y5 := bc_ hc (ii * 6 + 5); have yh5 := hx (ii * 6 + 5) (by omega); have z5 := bf_ hc (ii * 6 + 5); rw [Nat.add_zero] at yh0; rw [yh0] at y0; rw [yh1] at y1; rw [yh2] at y2; rw [yh3] at y3; rw [yh4] at y4; rw [yh5] at y5; clear yh0 yh1 yh2 yh3 yh4 yh5; have HC3 := am_ (blk_set (blk_set (blk_set (blk_set (blk_set (blk_set hc (ii * 6) (.int .i64 a1_0)) (ii * 6 + 1) (.int .i64 a1_1)) (ii * 6 + 2) (.string a1_2)) (ii * 6 + 3) (.int .i64 a1_3)) (ii * 6 + 4) (.string a1_4)) (ii * 6 + 5) (.bool a1_5)); have HX3 := am_ (table_With.set_cells hx ii hil (by omega) (⟨a1_0, a1_1, a1_2, a1_3, a1_4, a1_5⟩ : S37)); have HB4 := am_ (show Below w.heap.size w ((((((w2.setCell ⟨g, ii * 6, none⟩ (.int .i64 a1_0)).setCell ⟨g, ii * 6 + 1, none⟩ (.int .i64 a1_1)).setCell ⟨g, ii * 6 + 2, none⟩ (.string a1_2)).setCell ⟨g, ii * 6 + 3, none⟩ (.int .i64 a1_3)).setCell ⟨g, ii * 6 + 4, none⟩ (.string a1_4)).setCell ⟨g, ii * 6 + 5, none⟩ (.bool a1_5)) from ((((((HB2.out.setCell hbg0 _).setCell hbg0 _).setCell hbg0 _).setCell hbg0 _).setCell hbg0 _).setCell hbg0 _)); have HV4 := am_ (show Kd.R k37 37 ((((((w2.setCell ⟨g, ii * 6, none⟩ (.int .i64 a1_0)).setCell ⟨g, ii * 6 + 1, none⟩ (.int .i64 a1_1)).setCell ⟨g, ii * 6 + 2, none⟩ (.string a1_2)).setCell ⟨g, ii * 6 + 3, none⟩ (.int .i64 a1_3)).setCell ⟨g, ii * 6 + 4, none⟩ (.string a1_4)).setCell ⟨g, ii * 6 + 5, none⟩ (.bool a1_5)) w.heap.size (fun _ => True) (.slice (some ⟨g, 0, none⟩) l0.length cap) (l0.set ii (⟨a1_0, a1_1, a1_2, a1_3, a1_4, a1_5⟩ : S37)) from table_With.of_cells HC3.out (List.length_set).symm hcap hmx (by simpa using hsz) hbg0 trivial HX3.out); have HN := am_ hcap; clear hb2 HVB2 hx hc hcap hmx hsz hbg HC3 HX3)
     | (go_at_call 25; with_reducible refine (HM.out _ (c4_ HR.out HB4.out)).mono ?_; rintro e w5 ⟨rfl, hb5⟩; have HB5 := am_ (bt_ HB4.out hb5); have HV5 := am_ (Kd.R_below HV4.out hb5); clear hb5)
     | (go_at_call 25; with_reducible refine (HQ.out _ _ _ (by have := (Kd.R_reads' HV5.out).2.2; rw [List.length_set] at this; exact this) HN.out).mono ?_; rintro e w6 ⟨rfl, hb6⟩; have HB6 := am_ (bt_ HB5.out hb6); have HV6 := am_ (Kd.R_below HV5.out hb6); clear hb6))
    go_ret2
    exact ⟨_, rfl, Kd.R_nil _ _ _ _ _, HB6.out⟩
   | true =>
    rw [if_pos rfl] at h
    simp only [Option.some.injEq, Prod.mk.injEq] at h
    obtain ⟨rfl, rfl⟩ := h
    go_enter Try.func18, Try.ntmps18
    go_wp2_with (first
     | (go_at_call 50; refine (HCL.out _ (c4_ HR.out (p3_ (Below.refl _ _) _))).mono ?_; rintro e w1 ⟨v, rfl, hv, hb1⟩; have HV := am_ (Kd.R_lower hv (show w.heap.size ≤ _ by first | (simp; done) | exact Nat.le_succ _)); have HVB := am_ hv; have E1 := am_ (kb_ (blk_new w (.cells #[.int .i64 a1_0, .int .i64 a1_1, .string a1_2, .int .i64 a1_3, .string a1_4, .bool a1_5] 37)) hb1); have HB := am_ (bt_ (p3_ (Below.refl _ _) _) hb1); have u0 := bc_ E1.out 0; clear hb1 hv)
     | (go_at_call 51; refine (HAT.out _ (c4_ HR.out HB.out)).mono ?_; rintro e w2 ⟨rfl, hb2⟩; have HVB2 := Kd.R_below HVB.out hb2; have E2 := am_ (kb_ E1.out hb2); have HB2 := am_ (bt_ HB.out hb2); have x0 := bc_ E2.out 0; have x1 := bc_ E2.out 1; have x2 := bc_ E2.out 2; have x3 := bc_ E2.out 3; have x4 := bc_ E2.out 4; have x5 := bc_ E2.out 5; obtain ⟨g, cap, rfl, hbg, _, _⟩ := Kd.R_form HVB2 (by omega); obtain ⟨cur, hc, _, hcap, hmx, hsz, _, _, hx⟩ := table_With.cells_of HVB2; have hbg0 : w.heap.size ≤ g := Nat.le_trans (by first | (simp; done) | exact Nat.le_succ _) hbg; have hgne : w.heap.size ≠ g := Nat.ne_of_lt (Nat.lt_of_lt_of_le (by simp) hbg); have y0 := bc_ hc (ii * 6); have yh0 := hx (ii * 6 + 0) (by omega); have z0 := bf_ hc (ii * 6); have y1 := bc_ hc (ii * 6 + 1); have yh1 := hx (ii * 6 + 1) (by omega); have z1 := bf_ hc (ii * 6 + 1); have y2 := bc_ hc (ii * 6 + 2); have yh2 := hx (ii * 6 + 2) (by omega); have z2 := bf_ hc (ii * 6 + 2); have y3 := bc_ hc (ii * 6 + 3); have yh3 := hx (ii * 6 + 3) (by omega); have z3 := bf_ hc (ii * 6 + 3); have y4 := bc_ hc (ii * 6 + 4); have yh4 := hx (ii * 6 + 4) (by omega); have z4 := bf_ hc (ii * 6 + 4); have y5 := bc_ hc (ii * 6 + 5); have yh5 := hx (ii * 6 + 5) (by omega); have z5 := bf_ hc (ii * 6 + 5); rw [Nat.add_zero] at yh0; rw [yh0] at y0; rw [yh1] at y1; rw [yh2] at y2; rw [yh3] at y3; rw [yh4] at y4; rw [yh5] at y5; clear yh0 yh1 yh2 yh3 yh4 yh5; have HC3 := am_ (blk_set (blk_set (blk_set (blk_set (blk_set (blk_set hc (ii * 6) (.int .i64 a1_0)) (ii * 6 + 1) (.int .i64 a1_1)) (ii * 6 + 2) (.string a1_2)) (ii * 6 + 3) (.int .i64 a1_3)) (ii * 6 + 4) (.string a1_4)) (ii * 6 + 5) (.bool a1_5)); have HX3 := am_ (table_With.set_cells hx ii hil (by omega) (⟨a1_0, a1_1, a1_2, a1_3, a1_4, a1_5⟩ : S37)); have HB4 := am_ (show Below w.heap.size w ((((((w2.setCell ⟨g, ii * 6, none⟩ (.int .i64 a1_0)).setCell ⟨g, ii * 6 + 1, none⟩ (.int .i64 a1_1)).setCell ⟨g, ii * 6 + 2, none⟩ (.string a1_2)).setCell ⟨g, ii * 6 + 3, none⟩ (.int .i64 a1_3)).setCell ⟨g, ii * 6 + 4, none⟩ (.string a1_4)).setCell ⟨g, ii * 6 + 5, none⟩ (.bool a1_5)) from ((((((HB2.out.setCell hbg0 _).setCell hbg0 _).setCell hbg0 _).setCell hbg0 _).setCell hbg0 _).setCell hbg0 _)); have HV4 := am_ (show Kd.R k37 37 ((((((w2.setCell ⟨g, ii * 6, none⟩ (.int .i64 a1_0)).setCell ⟨g, ii * 6 + 1, none⟩ (.int .i64 a1_1)).setCell ⟨g, ii * 6 + 2, none⟩ (.string a1_2)).setCell ⟨g, ii * 6 + 3, none⟩ (.int .i64 a1_3)).setCell ⟨g, ii * 6 + 4, none⟩ (.string a1_4)).setCell ⟨g, ii * 6 + 5, none⟩ (.bool a1_5)) w.heap.size (fun _ => True) (.slice (some ⟨g, 0, none⟩) l0.length cap) (l0.set ii (⟨a1_0, a1_1, a1_2, a1_3, a1_4, a1_5⟩ : S37)) from table_With.of_cells HC3.out (List.length_set).symm hcap hmx (by simpa using hsz) hbg0 trivial HX3.out); have HN := am_ hcap; clear hb2 HVB2 hx hc hcap hmx hsz hbg HC3 HX3)
     | (go_at_call 25; with_reducible refine (HM.out _ (c4_ HR.out HB4.out)).mono ?_; rintro e w5 ⟨rfl, hb5⟩; have HB5 := am_ (bt_ HB4.out hb5); have HV5 := am_ (Kd.R_below HV4.out hb5); clear hb5)
     | (go_at_call 25; with_reducible refine (HQ.out _ _ _ (by have := (Kd.R_reads' HV5.out).2.2; rw [List.length_set] at this; exact this) HN.out).mono ?_; rintro e w6 ⟨rfl, hb6⟩; have HB6 := am_ (bt_ HB5.out hb6); have HV6 := am_ (Kd.R_below HV5.out hb6); clear hb6))
    go_ret2
    exact ⟨_, rfl, HV6.out, HB6.out⟩
 ·have hi2 : ¬ (table_at.idx (fun y => y.f0 == ((⟨a1_0, a1_1, a1_2, a1_3, a1_4, a1_5⟩ : S37)).f0) l0 ≥ 0) := hi
  rw [if_neg hi2] at h
  have hib : decide ((0 : Int) ≤ table_at.idx (fun y => y.f0 == a1_0) l0) = false := decide_eq_false hi
  clear hi hi2
  generalize table_at.idx (fun y => y.f0 == a1_0) l0 = i at HAT hib
  obtain ⟨xs, hxs⟩ : ∃ xs, l0 ++ [(⟨a1_0, a1_1, a1_2, a1_3, a1_4, a1_5⟩ : S37)] = xs := ⟨_, rfl⟩
  rw [hxs] at h
  have HXL := am_ (show xs.length = l0.length + 1 by rw [← hxs]; simp)
  cases m with
  | false =>
   rw [if_neg (by decide)] at h
   simp only [Option.some.injEq, Prod.mk.injEq] at h
   obtain ⟨rfl, rfl⟩ := h
   go_enter Try.func18, Try.ntmps18
   go_wp2_with (first
    | (go_at_call 50; refine (HCL.out _ (c4_ HR.out (p3_ (Below.refl _ _) _))).mono ?_; rintro e w1 ⟨v, rfl, hv, hb1⟩; have HV := am_ (Kd.R_lower hv (show w.heap.size ≤ _ by first | (simp; done) | exact Nat.le_succ _)); have HVB := am_ hv; have E1 := am_ (kb_ (blk_new w (.cells #[.int .i64 a1_0, .int .i64 a1_1, .string a1_2, .int .i64 a1_3, .string a1_4, .bool a1_5] 37)) hb1); have HB := am_ (bt_ (p3_ (Below.refl _ _) _) hb1); have u0 := bc_ E1.out 0; clear hb1 hv)
    | (go_at_call 51; refine (HAT.out _ (c4_ HR.out HB.out)).mono ?_; rintro e w2 ⟨rfl, hb2⟩; have HV2 := am_ (Kd.R_below HV.out hb2); have HVB2 := am_ (Kd.R_below HVB.out hb2); have E2 := am_ (kb_ E1.out hb2); have HB2 := am_ (bt_ HB.out hb2); have x0 := bc_ E2.out 0; have x1 := bc_ E2.out 1; have x2 := bc_ E2.out 2; have x3 := bc_ E2.out 3; have x4 := bc_ E2.out 4; have x5 := bc_ E2.out 5; clear hb2)
    | ((with_reducible refine gate_builtin (b := .append) (xs := #[.tmp 20, .tmp 22]) rfl ?_); at_builtin; refine Kd.R_append k37 (w0 := w) w.heap.size rfl (.tmp 20) (.tmp 22) 27 37 (.agg #[.int .i64 0, .int .i64 0, .string ⟨#[]⟩, .int .i64 0, .string ⟨#[]⟩, .bool false]) 64 rfl Try.underlying27 table_With.info rfl (by decide) (by omega) v l0 (⟨a1_0, a1_1, a1_2, a1_3, a1_4, a1_5⟩ : S37) [.int .i64 a1_0, .int .i64 a1_1, .string a1_2, .int .i64 a1_3, .string a1_4, .bool a1_5] (fun _ => True) (fun _ => False) rfl rfl ?aP (fun _ hk => hk.elim) ?aF ?aO ?aB ?aS ?aL ?_; (case aP => exact k37_mkM _ _ _ (⟨a1_0, a1_1, a1_2, a1_3, a1_4, a1_5⟩ : S37)); (case aF => exact fun _ _ => trivial); (case aO => exact HV2.out); (case aB => exact HB2.out); (case aS => exact HB2.out.size); (case aL => omega); intro v1 w3 ho hb hg hat; rw [hxs] at ho; obtain ⟨g, cap, rfl, hbg, _, _⟩ := Kd.R_form ho (by have := HXL.out; omega); obtain ⟨cur, hc, _, hcap, hmx, hsz, _, _, hx⟩ := table_With.cells_of ho; have HB3 := am_ hb; have HC3 := am_ hc; have HX3 := am_ hx; have HG := am_ hbg; have HN := am_ hcap; have HMX := am_ hmx; have HSZ := am_ hsz; clear ho hb hg hat hc hx hbg hcap hmx hsz)
    | (go_at_call 52; refine (table_With.sort xs g cap cur w3 HC3.out HN.out HSZ.out HX3.out (by have := HXL.out; omega) (by have := HXL.out; omega)).mono ?_; rintro e w4 ⟨rfl, cur', hc', hs', hx', hg'⟩; have HB4 := am_ (HB3.out.grown hg' HB3.out.size (fun k hk => by cases hk; exact HG.out)); have HV4 := am_ (table_With.of_cells (base := w.heap.size) (ok := fun _ => True) hc' (table_With.srt_length xs).symm HN.out HMX.out hs' HG.out trivial hx'); clear hc' hs' hx' hg')
    | (go_at_call 25; with_reducible refine (HM.out _ (c4_ HR.out HB4.out)).mono ?_; rintro e w5 ⟨rfl, hb5⟩; have HB5 := am_ (bt_ HB4.out hb5); have HV5 := am_ (Kd.R_below HV4.out hb5); clear hb5))
   go_ret2
   exact ⟨_, rfl, Kd.R_nil _ _ _ _ _, HB5.out⟩
  | true =>
   rw [if_pos rfl] at h
   replace h := Option.bind_eq_some_iff.1 h
   obtain ⟨q, hq, h⟩ := h
   have HQ := am_ (show ∀ (W : World) (A : Option Addr) (c : Nat), Kd.C k37 W A xs.length (table_With.srt xs) → xs.length ≤ c → Calls Try.prog 25 #[.slice A xs.length c] W fun e w' => e = .returned (.bool q) ∧ Below W.heap.size W w' from fun W A c hr hc => by
    have := table_May_c.calls A c (table_With.srt xs) q W (by rw [table_With.srt_length]; exact hr) (by rw [table_With.srt_length]; exact hc) hq
    rw [table_With.srt_length] at this
    exact this)
   clear hq
   cases q with
   | false =>
    rw [if_neg (by decide)] at h
    simp only [Option.some.injEq, Prod.mk.injEq] at h
    obtain ⟨rfl, rfl⟩ := h
    go_enter Try.func18, Try.ntmps18
    go_wp2_with (first
     | (go_at_call 50; refine (HCL.out _ (c4_ HR.out (p3_ (Below.refl _ _) _))).mono ?_; rintro e w1 ⟨v, rfl, hv, hb1⟩; have HV := am_ (Kd.R_lower hv (show w.heap.size ≤ _ by first | (simp; done) | exact Nat.le_succ _)); have HVB := am_ hv; have E1 := am_ (kb_ (blk_new w (.cells #[.int .i64 a1_0, .int .i64 a1_1, .string a1_2, .int .i64 a1_3, .string a1_4, .bool a1_5] 37)) hb1); have HB := am_ (bt_ (p3_ (Below.refl _ _) _) hb1); have u0 := bc_ E1.out 0; clear hb1 hv)
     | (go_at_call 51; refine (HAT.out _ (c4_ HR.out HB.out)).mono ?_; rintro e w2 ⟨rfl, hb2⟩; have HV2 := am_ (Kd.R_below HV.out hb2); have HVB2 := am_ (Kd.R_below HVB.out hb2); have E2 := am_ (kb_ E1.out hb2); have HB2 := am_ (bt_ HB.out hb2); have x0 := bc_ E2.out 0; have x1 := bc_ E2.out 1; have x2 := bc_ E2.out 2; have x3 := bc_ E2.out 3; have x4 := bc_ E2.out 4; have x5 := bc_ E2.out 5; clear hb2)
     | ((with_reducible refine gate_builtin (b := .append) (xs := #[.tmp 20, .tmp 22]) rfl ?_); at_builtin; refine Kd.R_append k37 (w0 := w) w.heap.size rfl (.tmp 20) (.tmp 22) 27 37 (.agg #[.int .i64 0, .int .i64 0, .string ⟨#[]⟩, .int .i64 0, .string ⟨#[]⟩, .bool false]) 64 rfl Try.underlying27 table_With.info rfl (by decide) (by omega) v l0 (⟨a1_0, a1_1, a1_2, a1_3, a1_4, a1_5⟩ : S37) [.int .i64 a1_0, .int .i64 a1_1, .string a1_2, .int .i64 a1_3, .string a1_4, .bool a1_5] (fun _ => True) (fun _ => False) rfl rfl ?aP (fun _ hk => hk.elim) ?aF ?aO ?aB ?aS ?aL ?_; (case aP => exact k37_mkM _ _ _ (⟨a1_0, a1_1, a1_2, a1_3, a1_4, a1_5⟩ : S37)); (case aF => exact fun _ _ => trivial); (case aO => exact HV2.out); (case aB => exact HB2.out); (case aS => exact HB2.out.size); (case aL => omega); intro v1 w3 ho hb hg hat; rw [hxs] at ho; obtain ⟨g, cap, rfl, hbg, _, _⟩ := Kd.R_form ho (by have := HXL.out; omega); obtain ⟨cur, hc, _, hcap, hmx, hsz, _, _, hx⟩ := table_With.cells_of ho; have HB3 := am_ hb; have HC3 := am_ hc; have HX3 := am_ hx; have HG := am_ hbg; have HN := am_ hcap; have HMX := am_ hmx; have HSZ := am_ hsz; clear ho hb hg hat hc hx hbg hcap hmx hsz)
     | (go_at_call 52; refine (table_With.sort xs g cap cur w3 HC3.out HN.out HSZ.out HX3.out (by have := HXL.out; omega) (by have := HXL.out; omega)).mono ?_; rintro e w4 ⟨rfl, cur', hc', hs', hx', hg'⟩; have HB4 := am_ (HB3.out.grown hg' HB3.out.size (fun k hk => by cases hk; exact HG.out)); have HV4 := am_ (table_With.of_cells (base := w.heap.size) (ok := fun _ => True) hc' (table_With.srt_length xs).symm HN.out HMX.out hs' HG.out trivial hx'); clear hc' hs' hx' hg')
     | (go_at_call 25; with_reducible refine (HM.out _ (c4_ HR.out HB4.out)).mono ?_; rintro e w5 ⟨rfl, hb5⟩; have HB5 := am_ (bt_ HB4.out hb5); have HV5 := am_ (Kd.R_below HV4.out hb5); clear hb5)
     | (go_at_call 25; with_reducible refine (HQ.out _ _ _ (by have := (Kd.R_reads' HV5.out).2.2; rw [table_With.srt_length] at this; exact this) HN.out).mono ?_; rintro e w6 ⟨rfl, hb6⟩; have HB6 := am_ (bt_ HB5.out hb6); have HV6 := am_ (Kd.R_below HV5.out hb6); clear hb6))
    go_ret2
    exact ⟨_, rfl, Kd.R_nil _ _ _ _ _, HB6.out⟩
   | true =>
    rw [if_pos rfl] at h
    simp only [Option.some.injEq, Prod.mk.injEq] at h
    obtain ⟨rfl, rfl⟩ := h
    go_enter Try.func18, Try.ntmps18
    go_wp2_with (first
     | (go_at_call 50; refine (HCL.out _ (c4_ HR.out (p3_ (Below.refl _ _) _))).mono ?_; rintro e w1 ⟨v, rfl, hv, hb1⟩; have HV := am_ (Kd.R_lower hv (show w.heap.size ≤ _ by first | (simp; done) | exact Nat.le_succ _)); have HVB := am_ hv; have E1 := am_ (kb_ (blk_new w (.cells #[.int .i64 a1_0, .int .i64 a1_1, .string a1_2, .int .i64 a1_3, .string a1_4, .bool a1_5] 37)) hb1); have HB := am_ (bt_ (p3_ (Below.refl _ _) _) hb1); have u0 := bc_ E1.out 0; clear hb1 hv)
     | (go_at_call 51; refine (HAT.out _ (c4_ HR.out HB.out)).mono ?_; rintro e w2 ⟨rfl, hb2⟩; have HV2 := am_ (Kd.R_below HV.out hb2); have HVB2 := am_ (Kd.R_below HVB.out hb2); have E2 := am_ (kb_ E1.out hb2); have HB2 := am_ (bt_ HB.out hb2); have x0 := bc_ E2.out 0; have x1 := bc_ E2.out 1; have x2 := bc_ E2.out 2; have x3 := bc_ E2.out 3; have x4 := bc_ E2.out 4; have x5 := bc_ E2.out 5; clear hb2)
     | ((with_reducible refine gate_builtin (b := .append) (xs := #[.tmp 20, .tmp 22]) rfl ?_); at_builtin; refine Kd.R_append k37 (w0 := w) w.heap.size rfl (.tmp 20) (.tmp 22) 27 37 (.agg #[.int .i64 0, .int .i64 0, .string ⟨#[]⟩, .int .i64 0, .string ⟨#[]⟩, .bool false]) 64 rfl Try.underlying27 table_With.info rfl (by decide) (by omega) v l0 (⟨a1_0, a1_1, a1_2, a1_3, a1_4, a1_5⟩ : S37) [.int .i64 a1_0, .int .i64 a1_1, .string a1_2, .int .i64 a1_3, .string a1_4, .bool a1_5] (fun _ => True) (fun _ => False) rfl rfl ?aP (fun _ hk => hk.elim) ?aF ?aO ?aB ?aS ?aL ?_; (case aP => exact k37_mkM _ _ _ (⟨a1_0, a1_1, a1_2, a1_3, a1_4, a1_5⟩ : S37)); (case aF => exact fun _ _ => trivial); (case aO => exact HV2.out); (case aB => exact HB2.out); (case aS => exact HB2.out.size); (case aL => omega); intro v1 w3 ho hb hg hat; rw [hxs] at ho; obtain ⟨g, cap, rfl, hbg, _, _⟩ := Kd.R_form ho (by have := HXL.out; omega); obtain ⟨cur, hc, _, hcap, hmx, hsz, _, _, hx⟩ := table_With.cells_of ho; have HB3 := am_ hb; have HC3 := am_ hc; have HX3 := am_ hx; have HG := am_ hbg; have HN := am_ hcap; have HMX := am_ hmx; have HSZ := am_ hsz; clear ho hb hg hat hc hx hbg hcap hmx hsz)
     | (go_at_call 52; refine (table_With.sort xs g cap cur w3 HC3.out HN.out HSZ.out HX3.out (by have := HXL.out; omega) (by have := HXL.out; omega)).mono ?_; rintro e w4 ⟨rfl, cur', hc', hs', hx', hg'⟩; have HB4 := am_ (HB3.out.grown hg' HB3.out.size (fun k hk => by cases hk; exact HG.out)); have HV4 := am_ (table_With.of_cells (base := w.heap.size) (ok := fun _ => True) hc' (table_With.srt_length xs).symm HN.out HMX.out hs' HG.out trivial hx'); clear hc' hs' hx' hg')
     | (go_at_call 25; with_reducible refine (HM.out _ (c4_ HR.out HB4.out)).mono ?_; rintro e w5 ⟨rfl, hb5⟩; have HB5 := am_ (bt_ HB4.out hb5); have HV5 := am_ (Kd.R_below HV4.out hb5); clear hb5)
     | (go_at_call 25; with_reducible refine (HQ.out _ _ _ (by have := (Kd.R_reads' HV5.out).2.2; rw [table_With.srt_length] at this; exact this) HN.out).mono ?_; rintro e w6 ⟨rfl, hb6⟩; have HB6 := am_ (bt_ HB5.out hb6); have HV6 := am_ (Kd.R_below HV5.out hb6); clear hb6))
    go_ret2
    exact ⟨_, rfl, HV6.out, HB6.out⟩

/-! ### lease_Live: function 43 -/
-- BY HAND
def lease_Live.f (a0_0 : Int) (a0_1 : Int) (a0_2 : ByteArray) (a0_3 : Int) (a0_4 : ByteArray) (a0_5 : Bool) (a1 : Int) : Option Bool := if a0_4.size ≤ 140737488351232 then some (liveB a0_0 a0_1 a0_2 a0_3 a0_4 a0_5 a1) else none
set_option maxHeartbeats 8000000 in
set_option maxRecDepth 100000 in
theorem lease_Live.calls (a0_0 : Int) (a0_1 : Int) (a0_2 : ByteArray) (a0_3 : Int) (a0_4 : ByteArray) (a0_5 : Bool) (a1 : Int) (r : Bool) (w : World) (h : lease_Live.f a0_0 a0_1 a0_2 a0_3 a0_4 a0_5 a1 = some r) :
  Calls Try.prog 43 #[.agg #[.int .i64 a0_0, .int .i64 a0_1, .string a0_2, .int .i64 a0_3, .string a0_4, .bool a0_5], .int .i64 a1] w fun e w' => e = .returned (.bool r) ∧ Below w.heap.size w w' := by
 unfold lease_Live.f at h
 by_cases hs : a0_4.size ≤ 140737488351232
 rotate_left
 ·rw [if_neg hs] at h
  cases h
 rw [if_pos hs] at h
 have HR := e5_ h
 unfold liveB at HR
 obtain ⟨b1, h1⟩ : ∃ b, leaseB a0_0 a0_1 a0_2 a0_3 a0_4 a0_5 = b := ⟨_, rfl⟩
 rw [h1] at HR
 have C1 := am_ (fun W => lease_May.calls a0_0 a0_1 a0_2 a0_3 a0_4 a0_5 b1 W (by unfold lease_May.f; rw [if_pos hs, h1]))
 have BK := am_ (blk_new w (.cells #[.int .i64 a0_0, .int .i64 a0_1, .string a0_2, .int .i64 a0_3, .string a0_4, .bool a0_5] 37))
 have HB := am_ (Below.refl w.heap.size w)
 replace HR := am_ HR
 clear h hs h1
 go_enter Try.func43, Try.ntmps43
 go_wp2_with (first
  | (go_at_call 59; (with_reducible refine (C1.out _).mono ?_); rintro e w1 ⟨rfl, hb2⟩; replace BK := am_ (kb_ (show _ from (by (with_reducible repeat (first | exact BK.out | refine k2_ ?_ _ | refine k3_ ?_ | refine k1_ ?_ _)))) hb2); replace HB := am_ (bt_ (show Below w.heap.size w _ by repeat (with_reducible first | exact HB.out | apply p3_ | apply p1_ | apply p2_)) hb2); clear hb2; have u0 := bc_ BK.out 0; have u1 := bc_ BK.out 1; have u2 := bc_ BK.out 2; have u3 := bc_ BK.out 3; have u4 := bc_ BK.out 4; have u5 := bc_ BK.out 5))
 all_goals (try go_ret)
 all_goals refine ⟨ret_bool ?_, ?_⟩
 all_goals first
  | ((repeat (with_reducible first | exact HB.out | apply p3_ | apply p1_ | apply p2_)); done)
  | (rw [← HR.out]; clear HR HB C1 BK; (try clear v0 v1 v2 v3 v4 v5); (try clear u0 u1 u2 u3 u4 u5); rw [Bool.eq_iff_iff]; (simp_all; done))
  | (rw [← HR.out]; clear HR HB C1 BK; simp_all <;> omega)

/-! ### lease_Holds: function 57 -/
-- BY HAND
set_option maxHeartbeats 8000000 in
set_option maxRecDepth 100000 in
theorem lease_Holds.calls (g : Nat) (s0 s1 : Int) (s2 : ByteArray) (s3 : Int) (s4 : ByteArray) (s5 : Bool) (c : ByteArray) (now : Int) (r : Bool) (w : World) (hb : w.heap[g]? = some (.cells #[.int .i64 s0, .int .i64 s1, .string s2, .int .i64 s3, .string s4, .bool s5] 37)) (hs : s4.size ≤ 140737488351232) (h : holdsB s0 s1 s2 s3 s4 s5 c now = r) :
  Calls Try.prog 57 #[.pointer (some ⟨g, 0, none⟩), .string c, .int .i64 now] w fun e w' => e = .returned (.bool r) ∧ Below w.heap.size w w' := by
 unfold holdsB at h
 obtain ⟨b1, h1⟩ : ∃ b, liveB s0 s1 s2 s3 s4 s5 now = b := ⟨_, rfl⟩
 rw [h1] at h
 have C1 := am_ (fun W => lease_Live.calls s0 s1 s2 s3 s4 s5 now b1 W (by unfold lease_Live.f; rw [if_pos hs, h1]))
 have HR := am_ h
 have HB := am_ (Below.refl w.heap.size w)
 have BK := am_ hb
 have v0 := bc_ hb 0
 have v1 := bc_ hb 1
 have v2 := bc_ hb 2
 have v3 := bc_ hb 3
 have v4 := bc_ hb 4
 have v5 := bc_ hb 5
 clear h hb hs h1
 go_enter Try.func57, Try.ntmps57
 go_wp2_with (first
  | (go_at_call 43; (with_reducible refine (C1.out _).mono ?_); rintro e w1 ⟨rfl, hb2⟩; replace BK := am_ (kb_ (show _ from (by (with_reducible repeat (first | exact BK.out | refine k2_ ?_ _ | refine k3_ ?_ | refine k1_ ?_ _)))) hb2); replace HB := am_ (bt_ (show Below w.heap.size w _ by repeat (with_reducible first | exact HB.out | apply p3_ | apply p1_ | apply p2_)) hb2); clear hb2; have u0 := bc_ BK.out 0; have u1 := bc_ BK.out 1; have u2 := bc_ BK.out 2; have u3 := bc_ BK.out 3; have u4 := bc_ BK.out 4; have u5 := bc_ BK.out 5))
 all_goals (try go_ret)
 all_goals refine ⟨ret_bool ?_, ?_⟩
 all_goals first
  | ((repeat (with_reducible first | exact HB.out | apply p3_ | apply p1_ | apply p2_)); done)
  | (rw [← HR.out]; clear HR HB C1 BK; (try clear v0 v1 v2 v3 v4 v5); (try clear u0 u1 u2 u3 u4 u5); rw [Bool.eq_iff_iff]; (simp_all; done))
  | (rw [← HR.out]; clear HR HB C1 BK; simp_all <;> omega)

end Go.Proofs.Ytibmakpghbinbaa.PQ
