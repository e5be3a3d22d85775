-- Made by wip/pr.py out of the translation (a turned copy of the kit's print; contracts by hand where said).
import Derived.Test.YtibalpbkmgegnaaDoorPNx0
import Derived.Test.YtibalpbkmgegnaaDoorPNx2
import Derived.Test.YtibalpbkmgegnaaDoorPNx3
import Derived.Test.YtibalpbkmgegnaaDoorPNx13
import Derived.Test.YtibalpbkmgegnaaDoorPNx14
namespace Go.Proofs.YtibalpbkmgegnaaDoor.PN
open Go.RowKit Go.Proofs.YtibalpbkmgegnaaDoorW.PrintWords Go.Proofs.YtibalpbkmgegnaaDoorW.PrintLast Go.Proofs.YtibalpbkmgegnaaDoorW.PrintMore
-- shrunk
attribute [local go_sem] max2_int min2_int max_two min_two max_three min_three max_four min_four   -- for this text's walks alone
set_option linter.unusedVariables false
set_option linter.unusedSimpArgs false

/-! ### pinfoldref11_Full_c: function 14 -/
section
variable {a0 a1 : Int} {l2 : List Int} {l3 : List S72} {a4 : Int} {z : ByteArray} {l6 : List S74}
theorem reffull_eq (hf : confFitR l2 l3 z l6) (k : Nat) (hk : 1 ≤ k) (h : ByteArray) (hh : h.size ≤ 1048576) (hz : z.size ≤ 1048576) : pinfoldref11_Full.f k a0 a1 l2 l3 a4 z l6 h = some (fullB a0 a1 l2 l3 a4 z l6 h) := by
 obtain ⟨k, rfl⟩ : ∃ j, k = j + 1 := ⟨k - 1, by omega⟩
 have s1 : (h ++ (⟨#[46]⟩ : ByteArray)).size = h.size + 1 := by rw [ByteArray.size_append]; rfl
 have s2 : (h ++ (⟨#[46]⟩ : ByteArray) ++ z).size = h.size + 1 + z.size := by rw [ByteArray.size_append, s1]
 unfold pinfoldref11_Full.f pinfoldref11_ConfMay.f pinfoldref1_NameMay_c.f
 simp only [pinfoldref11_Full.j0]
 unfold pinfoldref1_Labels_c.f pinfoldref1_Under_c.f
 rw [if_pos hf, Option.bind_some]
 cases hc : confB a0 a1 l2 l3 a4 z l6 with
 | false =>
  simp only [if_true, Bool.false_eq_true, if_false]
  unfold fullB
  rw [hc]
  simp only [Bool.and_false, Bool.false_eq_true, if_false, ite_self]
 | true =>
  obtain ⟨zn, zs⟩ := conf_zone hc
  simp only [if_true]
  by_cases q0 : h.toList = []
  ·have e0 : h = ⟨#[]⟩ := by
    rw [ByteArray.toList_eq] at q0
    have : h = ⟨h.data⟩ := rfl
    rw [this, Array.toList_eq_nil_iff.1 q0]
   rw [if_pos q0, e0, full_none]
  ·rw [if_neg q0, if_pos (show h.size ≤ 8796093022000 by omega), Option.bind_some]
   have hne : h.size ≠ 0 := fun e => q0 ((toList_nil h).2 e)
   cases hn : nameB (bytesOf h) with
   | false =>
    have hl : ¬ (labelsS h).length = 1 := by rw [labels_len, hn]; simp
    simp only [Bool.not_false, if_true]
    unfold fullB
    rw [if_neg hl, hn]
    simp only [Bool.false_and, Bool.false_eq_true, if_false, ite_self]
   | true =>
    simp only [Bool.not_true, Bool.false_eq_true, if_false]
    rw [if_pos (by omega), Option.bind_some]
    by_cases ql : (labelsS h).length = 1
    ·rw [if_pos (by omega), if_pos (by omega), if_pos (by omega)]
     have hx : ¬ (h ++ (⟨#[46]⟩ : ByteArray) ++ z).toList = z.toList := fun e => by
      have e4 := congrArg List.length ((toList_iff _ _).1 e)
      rw [bytesOf_length, bytesOf_length] at e4
      omega
     rw [if_neg hx, if_pos ⟨by omega, by omega⟩, Option.bind_some]
     have hu : underB (bytesOf (h ++ (⟨#[46]⟩ : ByteArray) ++ z)) (bytesOf z) = nameB (bytesOf (h ++ (⟨#[46]⟩ : ByteArray) ++ z)) := by
      unfold underB
      have hi : isU (bytesOf (h ++ (⟨#[46]⟩ : ByteArray) ++ z)) (bytesOf z) := .inr (.inr ⟨bytesOf h, (bytes_dot h z).symm⟩)
      rw [zn, decide_eq_true hi, Bool.and_true, Bool.and_true]
     rw [hu]
     unfold fullB
     rw [if_pos ql, hc, Bool.and_true]
     cases nameB (bytesOf (h ++ (⟨#[46]⟩ : ByteArray) ++ z)) <;> rfl
    ·rw [if_neg (by omega)]
     unfold fullB
     rw [if_neg ql, hn, hc]
     by_cases qz : h.toList = z.toList
     ·rw [if_pos qz, if_pos (.inl qz)]
     ·rw [if_neg qz, if_pos ⟨by omega, by omega⟩, Option.bind_some]
      cases hu : underB (bytesOf h) (bytesOf z) with
      | false => simp [qz]
      | true => simp [qz]
end
def fullFitR (l2 : List Int) (l3 : List S72) (z : ByteArray) (l6 : List S74) (h : ByteArray) : Prop := confFitR l2 l3 z l6 ∧ h.size ≤ 1048576 ∧ z.size ≤ 1048576
instance (l2 : List Int) (l3 : List S72) (z : ByteArray) (l6 : List S74) (h : ByteArray) : Decidable (fullFitR l2 l3 z l6 h) := by unfold fullFitR; infer_instance
def pinfoldref11_Full_c.f (a0_0 : Int) (a0_1 : Int) (l0_2 : List Int) (l0_3 : List S72) (a0_4 : Int) (a0_5 : ByteArray) (l0_6 : List S74) (a1 : ByteArray) : Option ByteArray := if fullFitR l0_2 l0_3 a0_5 l0_6 a1 then some (fullB a0_0 a0_1 l0_2 l0_3 a0_4 a0_5 l0_6 a1) else none
theorem pinfoldref11_Full_c.calls (a0_0 : Int) (a0_1 : Int) (A0_2 : Option Addr) (c0_2 : Nat) (l0_2 : List Int) (A0_3 : Option Addr) (c0_3 : Nat) (l0_3 : List S72) (a0_4 : Int) (a0_5 : ByteArray) (A0_6 : Option Addr) (c0_6 : Nat) (l0_6 : List S74) (a1 : ByteArray) (r : ByteArray) (w : World) (hr0_2 : Kd.C (Kd.int .i64) w A0_2 l0_2.length l0_2) (hc0_2 : l0_2.length ≤ c0_2) (hr0_3 : Kd.C k72 w A0_3 l0_3.length l0_3) (hc0_3 : l0_3.length ≤ c0_3) (hr0_6 : Kd.C k74 w A0_6 l0_6.length l0_6) (hc0_6 : l0_6.length ≤ c0_6) (h : pinfoldref11_Full_c.f a0_0 a0_1 l0_2 l0_3 a0_4 a0_5 l0_6 a1 = some r) :
  Calls Tryd.prog 14 #[.agg #[.int .i64 a0_0, .int .i64 a0_1, .slice A0_2 l0_2.length c0_2, .slice A0_3 l0_3.length c0_3, .int .i64 a0_4, .string a0_5, .slice A0_6 l0_6.length c0_6], .string a1] w fun e w' => e = .returned (.string r) ∧ Below w.heap.size w w' := by
 unfold pinfoldref11_Full_c.f at h
 by_cases hs : fullFitR l0_2 l0_3 a0_5 l0_6 a1
 ·rw [if_pos hs] at h
  exact pinfoldref11_Full.calls 1 a0_0 a0_1 A0_2 c0_2 l0_2 A0_3 c0_3 l0_3 a0_4 a0_5 A0_6 c0_6 l0_6 a1 r w hr0_2 hc0_2 hr0_3 hc0_3 hr0_6 hc0_6 (by rw [reffull_eq hs.1 1 (Nat.le_refl _) a1 hs.2.1 hs.2.2]; exact h)
 ·rw [if_neg hs] at h
  cases h

/-! ### pinfoldref11_TableMay: function 15 -/
-- BY HAND
-- 31
def hostAheadR (l : List S36) (i : Nat) : Option Int := if i = 0 then none else some (rd_T36 l ((i - 1 : Nat) : Int)).f0
def pinfoldref11_TableMay.S (pb : Addr) (x0 x1 : Int) (x2 : ByteArray) (x3 : Int) (x4 : ByteArray) (x5 : Bool) (pa : Addr) (y0 : Int) (w' : World) : Prop := w'.cell? pb = some (.int .i64 x0) ∧ w'.cell? ⟨pb.block, pb.off + 1, none⟩ = some (.int .i64 x1) ∧ w'.cell? ⟨pb.block, pb.off + 2, none⟩ = some (.string x2) ∧ w'.cell? ⟨pb.block, pb.off + 3, none⟩ = some (.int .i64 x3) ∧ w'.cell? ⟨pb.block, pb.off + 4, none⟩ = some (.string x4) ∧ w'.cell? ⟨pb.block, pb.off + 5, none⟩ = some (.bool x5) ∧ w'.cell? pa = some (.int .i64 y0)
theorem pinfoldref11_TableMay.S_below {w w2 : World} {pb : Addr} {x0 x1 : Int} {x2 : ByteArray} {x3 : Int} {x4 : ByteArray} {x5 : Bool} {pa : Addr} {y0 : Int} (h : pinfoldref11_TableMay.S pb x0 x1 x2 x3 x4 x5 pa y0 w) (hb : Below w.heap.size w w2) : pinfoldref11_TableMay.S pb x0 x1 x2 x3 x4 x5 pa y0 w2 := by
 obtain ⟨s0, s1, s2, s3, s4, s5, s6⟩ := h
 exact ⟨(hb.cell (wb_ _ _ s0)).trans s0, (hb.cell (wb_ _ _ s1)).trans s1, (hb.cell (wb_ _ _ s2)).trans s2, (hb.cell (wb_ _ _ s3)).trans s3, (hb.cell (wb_ _ _ s4)).trans s4, (hb.cell (wb_ _ _ s5)).trans s5, (hb.cell (wb_ _ _ s6)).trans s6⟩
def pinfoldref11_TableMay_c.f (l0 : List S36) : Option Bool := if tabFitR l0 then some (tableB l0) else none
set_option maxHeartbeats 8000000 in
set_option maxRecDepth 100000 in
theorem pinfoldref11_TableMay_c.calls (A0 : Option Addr) (c0 : Nat) (l0 : List S36) (r : Bool) (w : World) (hr0 : Kd.C k36 w A0 l0.length l0) (hc0 : l0.length ≤ c0) (h : pinfoldref11_TableMay_c.f l0 = some r) :
  Calls Tryd.prog 15 #[.slice A0 l0.length c0] w fun e w' => e = .returned (.bool r) ∧ Below w.heap.size w w' := by
 unfold pinfoldref11_TableMay_c.f at h
 by_cases hs : tabFitR l0
 rotate_left
 ·rw [if_neg hs] at h
  cases h
 rw [if_pos hs] at h
 have HT := am_ (show (goTab (hostAheadR l0 (0 : Int).toNat) (l0.drop (0 : Int).toNat) && decide (l0.length ≤ 8)) = r from e5_ h)
 have hl := hs.1
 have HX := am_ hs.2
 have HR := am_ hr0
 have HB := am_ (Below.refl w.heap.size w)
 clear h hs hr0 hc0
 go_enter Tryd.func15, Tryd.ntmps15
 go_wp2
 go_loopg [3] l0.length (fun d v w' => ∃ i : Int, 0 ≤ i ∧ i.toNat + d = l0.length ∧ v = .int .i64 i ∧ Aside0 (Below w.heap.size w w') ∧ Aside0 ((goTab (hostAheadR l0 i.toNat) (l0.drop i.toNat) && decide (l0.length ≤ 8)) = r))
 case atStart => exact ⟨0, by omega, by simp, rfl, HB, HT⟩
 case round =>
  clear HB HT
  obtain ⟨i, hi0, hd, rfl, HB, HT⟩ := hrel
  by_cases hlt : i < (l0.length : Int)
  ·obtain ⟨ad, e1, hw0, hw1, hw2, hw3, hw4, hw5⟩ := at_T36 HR.out i hi0 hlt
   cases e1
   have hx0 := (HB.out.cell (wb_ w _ hw0)).trans hw0; have hx1 := (HB.out.cell (wb_ w _ hw1)).trans hw1; have hx2 := (HB.out.cell (wb_ w _ hw2)).trans hw2; have hx3 := (HB.out.cell (wb_ w _ hw3)).trans hw3; have hx4 := (HB.out.cell (wb_ w _ hw4)).trans hw4; have hx5 := (HB.out.cell (wb_ w _ hw5)).trans hw5
   have hd1 := dropLease l0 i hi0 hlt
   have hsz := HX.out _ hd1.2
   have hst := HT.out
   rw [hd1.1] at hst
   have hnx : hostAheadR l0 (i.toNat + 1) = some (rd_T36 l0 i).f0 := by
    unfold hostAheadR
    rw [if_neg (by omega), Nat.add_sub_cancel, Int.toNat_of_nonneg hi0]
   have hi2 : (i + 1).toNat = i.toNat + 1 := by omega
   have hpv : ¬ i = 0 → ∃ j y, wrap64 (i - 1) = j ∧ 0 ≤ j ∧ j < (l0.length : Int) ∧ hostAheadR l0 i.toNat = some y ∧ w.cell? (ad.add (j.toNat * 6)) = some (.int .i64 y) := by
    intro h0
    have h1 : wrap64 (i - 1) = i - 1 := by unfold wrap64; omega
    obtain ⟨ad2, e2, hy0, _⟩ := at_T36 HR.out (i - 1) (by omega) (by omega)
    cases e2
    refine ⟨i - 1, _, h1, by omega, by omega, ?_, hy0⟩
    unfold hostAheadR
    rw [if_neg (by omega), show ((i.toNat - 1 : Nat) : Int) = i - 1 by omega]
   generalize rd_T36 l0 i = x at hw0 hw1 hw2 hw3 hw4 hw5 hx0 hx1 hx2 hx3 hx4 hx5 hsz hst hnx
   clear hd1 HT
   obtain ⟨x0, x1, x2, x3, x4, x5⟩ := x
   simp only at hw0 hw1 hw2 hw3 hw4 hw5 hx0 hx1 hx2 hx3 hx4 hx5 hsz hst hnx
   obtain ⟨b1, h1⟩ : ∃ b, leaseB x0 x1 x2 x3 x4 x5 = b := ⟨_, rfl⟩
   have hst2 : ((b1 && (above (hostAheadR l0 i.toNat) x0 && goTab (some x0) (l0.drop (i.toNat + 1)))) && decide (l0.length ≤ 8)) = r := by rw [← h1]; exact hst
   rw [← hnx, ← hi2] at hst2
   clear hst hnx
   have CM := am_ (fun W => pinfoldref11_LeaseMay_c.calls x0 x1 x2 x3 x4 x5 b1 W (by unfold pinfoldref11_LeaseMay_c.f; rw [if_pos hsz, h1]))
   have H1 := am_ (show 0 ≤ i + 1 by omega)
   have H2 := am_ (show (i + 1).toNat + (l0.length - (i.toNat + 1)) = l0.length by omega)
   have H3 := am_ (show l0.length - (i.toNat + 1) < gk by omega)
   have H4 := am_ (show IntKind.i64.wrap (i + 1) = i + 1 from (i64_w _).trans (by unfold wrap64; omega))
   have H6 := am_ (fun (h : i = 0) => show i.toNat = 0 by rw [h]; rfl)
   have H5 := am_ (fun (h : ¬ i = 0) => show 0 < i by omega)
   replace hi0 := am_ hi0
   replace hd := am_ hd
   replace hl := am_ hl
   have clt := decide_eq_true hlt
   have cle := decide_eq_true hi0.out
   have plt := eq_true hlt
   have ple := eq_true hi0.out
   clear h1 hlt
   cases b1 with
   | false =>
    have HF := am_ (show false = r by rw [← hst2]; rfl)
    clear hst2 hpv hi2
    go_wp2_with fail
    have HB1 := am_ (below_drew HB.out)
    refine seqS (S := pinfoldref11_TableMay.S (ad.add (i.toNat * 6)) x0 x1 x2 x3 x4 x5 (ad.add (i.toNat * 6)) x0) 24 (by kernel_rfl) rfl rfl (by unfold pinfoldref11_TableMay.S; exact ⟨(HB1.out.cell (wb_ w _ hw0)).trans hw0, (HB1.out.cell (wb_ w _ hw1)).trans hw1, (HB1.out.cell (wb_ w _ hw2)).trans hw2, (HB1.out.cell (wb_ w _ hw3)).trans hw3, (HB1.out.cell (wb_ w _ hw4)).trans hw4, (HB1.out.cell (wb_ w _ hw5)).trans hw5, (HB1.out.cell (wb_ w _ hw0)).trans hw0⟩) ?_
    intro hHeld
    clear hx0 hx1 hx2 hx3 hx4 hx5 hw0 hw1 hw2 hw3 hw4 hw5 HB
    iterate 4 first | (refine seqP (v := ?_) (a' := ?_) rfl rfl (by kernel_rfl) (fun _ _ _ h => h) (Or.inl ⟨by kernel_rfl, ?_⟩) ?_ ?_; rotate_left; (intro w'; go_simp; with_reducible rfl); rotate_left; (simp only [Act.put, sa_, sb_, sc_, i64_w, i32_w]; rfl)) | (refine seqL (v := ?_) (a' := ?_) rfl rfl (by kernel_rfl) (fun _ _ _ h => h) (Or.inl ⟨by kernel_rfl, ?_⟩) hHeld ?_ ?_; rotate_left; (rintro w' ⟨s0, s1, s2, s3, s4, s5, s6⟩; go_simp; with_reducible rfl); rotate_left; (simp only [Act.put, sa_, sb_, sc_, i64_w, i32_w]; rfl))
    refine seqG (fn := Tryd.f31) rfl rfl (by kernel_rfl) rfl Tryd.func31 (by kernel_rfl) (by kernel_rfl) #[.agg #[.int .i64 x0, .int .i64 x1, .string x2, .int .i64 x3, .string x4, .bool x5]] (by kernel_rfl) (by (try simp only [List.map_toArray, List.map_cons, List.map_nil]); first | done | rfl) ?_
    with_reducible refine (CM.out _).mono ?_
    rintro e wg ⟨rfl, hb2⟩
    have HB2 := am_ (bt_ HB1.out hb2)
    refine ⟨_, rfl, pinfoldref11_TableMay.S_below hHeld hb2, fun hHeld => ⟨?_, ?_, ?_⟩⟩
    rotate_left
    ·simp only [Act.put, sa_, sb_, sc_, i64_w, i32_w]
     rfl
    clear hb2 HB1 CM
    iterate 2 first | (refine seqP (v := ?_) (a' := ?_) rfl rfl (by kernel_rfl) (fun _ _ _ h => h) (Or.inl ⟨by kernel_rfl, ?_⟩) ?_ ?_; rotate_left; (intro w'; go_simp; with_reducible rfl); rotate_left; (simp only [Act.put, sa_, sb_, sc_, i64_w, i32_w]; rfl)) | (refine seqL (v := ?_) (a' := ?_) rfl rfl (by kernel_rfl) (fun _ _ _ h => h) (Or.inl ⟨by kernel_rfl, ?_⟩) hHeld ?_ ?_; rotate_left; (rintro w' ⟨s0, s1, s2, s3, s4, s5, s6⟩; go_simp; with_reducible rfl); rotate_left; (simp only [Act.put, sa_, sb_, sc_, i64_w, i32_w]; rfl))
    iterate 16 (refine seqP (v := undef) (a' := ?_) rfl rfl (by kernel_rfl) (fun _ _ _ h => h) (Or.inr ⟨by kernel_rfl, rfl⟩) ?_ ?_; rotate_left; (simp only [Act.put, sa_, sb_, sc_, i64_w, i32_w]; rfl))
    iterate 1 first | (refine seqP (v := ?_) (a' := ?_) rfl rfl (by kernel_rfl) (fun _ _ _ h => h) (Or.inl ⟨by kernel_rfl, ?_⟩) ?_ ?_; rotate_left; (intro w'; go_simp; with_reducible rfl); rotate_left; (simp only [Act.put, sa_, sb_, sc_, i64_w, i32_w]; rfl)) | (refine seqL (v := ?_) (a' := ?_) rfl rfl (by kernel_rfl) (fun _ _ _ h => h) (Or.inl ⟨by kernel_rfl, ?_⟩) hHeld ?_ ?_; rotate_left; (rintro w' ⟨s0, s1, s2, s3, s4, s5, s6⟩; go_simp; with_reducible rfl); rotate_left; (simp only [Act.put, sa_, sb_, sc_, i64_w, i32_w]; rfl))
    refine seqE (by kernel_rfl) ?_
    go_wp2
    go_ret
    exact ⟨ret_bool (HF.out), HB2.out⟩
   | true =>
   rw [Bool.true_and] at hst2
   by_cases hp : i = 0
   ·have cp : decide (0 < i) = false := decide_eq_false (by omega)
    have HN := am_ (show (goTab (hostAheadR l0 (i + 1).toNat) (l0.drop (i + 1).toNat) && decide (l0.length ≤ 8)) = r by rw [← hst2, show hostAheadR l0 i.toNat = none by unfold hostAheadR; rw [if_pos (H6.out hp)], show above none x0 = true from rfl, Bool.true_and])
    replace hp := am_ hp
    clear hst2 hpv hi2
    go_wp2_with fail
    have HB1 := am_ (below_drew HB.out)
    refine seqS (S := pinfoldref11_TableMay.S (ad.add (i.toNat * 6)) x0 x1 x2 x3 x4 x5 (ad.add (i.toNat * 6)) x0) 24 (by kernel_rfl) rfl rfl (by unfold pinfoldref11_TableMay.S; exact ⟨(HB1.out.cell (wb_ w _ hw0)).trans hw0, (HB1.out.cell (wb_ w _ hw1)).trans hw1, (HB1.out.cell (wb_ w _ hw2)).trans hw2, (HB1.out.cell (wb_ w _ hw3)).trans hw3, (HB1.out.cell (wb_ w _ hw4)).trans hw4, (HB1.out.cell (wb_ w _ hw5)).trans hw5, (HB1.out.cell (wb_ w _ hw0)).trans hw0⟩) ?_
    intro hHeld
    clear hx0 hx1 hx2 hx3 hx4 hx5 hw0 hw1 hw2 hw3 hw4 hw5 HB
    iterate 4 first | (refine seqP (v := ?_) (a' := ?_) rfl rfl (by kernel_rfl) (fun _ _ _ h => h) (Or.inl ⟨by kernel_rfl, ?_⟩) ?_ ?_; rotate_left; (intro w'; go_simp; with_reducible rfl); rotate_left; (simp only [Act.put, sa_, sb_, sc_, i64_w, i32_w]; rfl)) | (refine seqL (v := ?_) (a' := ?_) rfl rfl (by kernel_rfl) (fun _ _ _ h => h) (Or.inl ⟨by kernel_rfl, ?_⟩) hHeld ?_ ?_; rotate_left; (rintro w' ⟨s0, s1, s2, s3, s4, s5, s6⟩; go_simp; with_reducible rfl); rotate_left; (simp only [Act.put, sa_, sb_, sc_, i64_w, i32_w]; rfl))
    refine seqG (fn := Tryd.f31) rfl rfl (by kernel_rfl) rfl Tryd.func31 (by kernel_rfl) (by kernel_rfl) #[.agg #[.int .i64 x0, .int .i64 x1, .string x2, .int .i64 x3, .string x4, .bool x5]] (by kernel_rfl) (by (try simp only [List.map_toArray, List.map_cons, List.map_nil]); first | done | rfl) ?_
    with_reducible refine (CM.out _).mono ?_
    rintro e wg ⟨rfl, hb2⟩
    have HB2 := am_ (bt_ HB1.out hb2)
    refine ⟨_, rfl, pinfoldref11_TableMay.S_below hHeld hb2, fun hHeld => ⟨?_, ?_, ?_⟩⟩
    rotate_left
    ·simp only [Act.put, sa_, sb_, sc_, i64_w, i32_w]
     rfl
    clear hb2 HB1 CM
    iterate 2 first | (refine seqP (v := ?_) (a' := ?_) rfl rfl (by kernel_rfl) (fun _ _ _ h => h) (Or.inl ⟨by kernel_rfl, ?_⟩) ?_ ?_; rotate_left; (intro w'; go_simp; with_reducible rfl); rotate_left; (simp only [Act.put, sa_, sb_, sc_, i64_w, i32_w]; rfl)) | (refine seqL (v := ?_) (a' := ?_) rfl rfl (by kernel_rfl) (fun _ _ _ h => h) (Or.inl ⟨by kernel_rfl, ?_⟩) hHeld ?_ ?_; rotate_left; (rintro w' ⟨s0, s1, s2, s3, s4, s5, s6⟩; go_simp; with_reducible rfl); rotate_left; (simp only [Act.put, sa_, sb_, sc_, i64_w, i32_w]; rfl))
    iterate 3 first | (refine seqP (v := ?_) (a' := ?_) rfl rfl (by kernel_rfl) (fun _ _ _ h => h) (Or.inl ⟨by kernel_rfl, ?_⟩) ?_ ?_; rotate_left; (intro w'; go_simp; with_reducible rfl); rotate_left; (simp only [Act.put, sa_, sb_, sc_, i64_w, i32_w]; rfl)) | (refine seqL (v := ?_) (a' := ?_) rfl rfl (by kernel_rfl) (fun _ _ _ h => h) (Or.inl ⟨by kernel_rfl, ?_⟩) hHeld ?_ ?_; rotate_left; (rintro w' ⟨s0, s1, s2, s3, s4, s5, s6⟩; go_simp; with_reducible rfl); rotate_left; (simp only [Act.put, sa_, sb_, sc_, i64_w, i32_w]; rfl))
    iterate 12 (refine seqP (v := undef) (a' := ?_) rfl rfl (by kernel_rfl) (fun _ _ _ h => h) (Or.inr ⟨by kernel_rfl, rfl⟩) ?_ ?_; rotate_left; (simp only [Act.put, sa_, sb_, sc_, i64_w, i32_w]; rfl))
    iterate 2 first | (refine seqP (v := ?_) (a' := ?_) rfl rfl (by kernel_rfl) (fun _ _ _ h => h) (Or.inl ⟨by kernel_rfl, ?_⟩) ?_ ?_; rotate_left; (intro w'; go_simp; with_reducible rfl); rotate_left; (simp only [Act.put, sa_, sb_, sc_, i64_w, i32_w]; rfl)) | (refine seqL (v := ?_) (a' := ?_) rfl rfl (by kernel_rfl) (fun _ _ _ h => h) (Or.inl ⟨by kernel_rfl, ?_⟩) hHeld ?_ ?_; rotate_left; (rintro w' ⟨s0, s1, s2, s3, s4, s5, s6⟩; go_simp; with_reducible rfl); rotate_left; (simp only [Act.put, sa_, sb_, sc_, i64_w, i32_w]; rfl))
    refine seqE (by kernel_rfl) ?_
    go_wp2
    go_roundg (l0.length - (i.toNat + 1))
    case measure => exact H3.out
    case rel => exact ⟨i + 1, H1.out, H2.out, by first | rfl | (rw [show wrap64 (i + 1) = i + 1 from (i64_w _).symm.trans H4.out]), HB2, HN⟩
   ·obtain ⟨j, y, hj, hj0, hj1, hay, hwy⟩ := hpv hp
    have cp : decide (0 < i) = true := decide_eq_true (H5.out hp)
    have hjw : IntKind.i64.wrap (i - 1) = j := (i64_w _).trans hj
    have pj0 := eq_true hj0
    have pj1 := eq_true hj1
    have cj0 := decide_eq_true hj0
    have cj1 := decide_eq_true hj1
    rw [hay] at hst2
    replace hp := am_ hp
    replace hj0 := am_ hj0
    replace hj1 := am_ hj1
    by_cases hc : x0 ≤ y
    ·have cc : decide (x0 ≤ y) = true := decide_eq_true hc
     have HF := am_ (show false = r by rw [← hst2, show above (some y) x0 = false from decide_eq_false (by omega)]; simp)
     clear hst2 hpv hi2 hc hay
     go_wp2_with fail
     have HB1 := am_ (below_drew HB.out)
     refine seqS (S := pinfoldref11_TableMay.S (ad.add (i.toNat * 6)) x0 x1 x2 x3 x4 x5 (ad.add (j.toNat * 6)) y) 24 (by kernel_rfl) rfl rfl (by unfold pinfoldref11_TableMay.S; exact ⟨(HB1.out.cell (wb_ w _ hw0)).trans hw0, (HB1.out.cell (wb_ w _ hw1)).trans hw1, (HB1.out.cell (wb_ w _ hw2)).trans hw2, (HB1.out.cell (wb_ w _ hw3)).trans hw3, (HB1.out.cell (wb_ w _ hw4)).trans hw4, (HB1.out.cell (wb_ w _ hw5)).trans hw5, (HB1.out.cell (wb_ w _ hwy)).trans hwy⟩) ?_
     intro hHeld
     clear hx0 hx1 hx2 hx3 hx4 hx5 hw0 hw1 hw2 hw3 hw4 hw5 HB
     iterate 4 first | (refine seqP (v := ?_) (a' := ?_) rfl rfl (by kernel_rfl) (fun _ _ _ h => h) (Or.inl ⟨by kernel_rfl, ?_⟩) ?_ ?_; rotate_left; (intro w'; go_simp; with_reducible rfl); rotate_left; (simp only [Act.put, sa_, sb_, sc_, i64_w, i32_w]; rfl)) | (refine seqL (v := ?_) (a' := ?_) rfl rfl (by kernel_rfl) (fun _ _ _ h => h) (Or.inl ⟨by kernel_rfl, ?_⟩) hHeld ?_ ?_; rotate_left; (rintro w' ⟨s0, s1, s2, s3, s4, s5, s6⟩; go_simp; with_reducible rfl); rotate_left; (simp only [Act.put, sa_, sb_, sc_, i64_w, i32_w]; rfl))
     refine seqG (fn := Tryd.f31) rfl rfl (by kernel_rfl) rfl Tryd.func31 (by kernel_rfl) (by kernel_rfl) #[.agg #[.int .i64 x0, .int .i64 x1, .string x2, .int .i64 x3, .string x4, .bool x5]] (by kernel_rfl) (by (try simp only [List.map_toArray, List.map_cons, List.map_nil]); first | done | rfl) ?_
     with_reducible refine (CM.out _).mono ?_
     rintro e wg ⟨rfl, hb2⟩
     have HB2 := am_ (bt_ HB1.out hb2)
     refine ⟨_, rfl, pinfoldref11_TableMay.S_below hHeld hb2, fun hHeld => ⟨?_, ?_, ?_⟩⟩
     rotate_left
     ·simp only [Act.put, sa_, sb_, sc_, i64_w, i32_w]
      rfl
     clear hb2 HB1 CM
     iterate 2 first | (refine seqP (v := ?_) (a' := ?_) rfl rfl (by kernel_rfl) (fun _ _ _ h => h) (Or.inl ⟨by kernel_rfl, ?_⟩) ?_ ?_; rotate_left; (intro w'; go_simp; with_reducible rfl); rotate_left; (simp only [Act.put, sa_, sb_, sc_, i64_w, i32_w]; rfl)) | (refine seqL (v := ?_) (a' := ?_) rfl rfl (by kernel_rfl) (fun _ _ _ h => h) (Or.inl ⟨by kernel_rfl, ?_⟩) hHeld ?_ ?_; rotate_left; (rintro w' ⟨s0, s1, s2, s3, s4, s5, s6⟩; go_simp; with_reducible rfl); rotate_left; (simp only [Act.put, sa_, sb_, sc_, i64_w, i32_w]; rfl))
     iterate 17 first | (refine seqP (v := ?_) (a' := ?_) rfl rfl (by kernel_rfl) (fun _ _ _ h => h) (Or.inl ⟨by kernel_rfl, ?_⟩) ?_ ?_; rotate_left; (intro w'; go_simp; with_reducible rfl); rotate_left; (simp only [Act.put, sa_, sb_, sc_, i64_w, i32_w]; rfl)) | (refine seqL (v := ?_) (a' := ?_) rfl rfl (by kernel_rfl) (fun _ _ _ h => h) (Or.inl ⟨by kernel_rfl, ?_⟩) hHeld ?_ ?_; rotate_left; (rintro w' ⟨s0, s1, s2, s3, s4, s5, s6⟩; go_simp; with_reducible rfl); rotate_left; (simp only [Act.put, sa_, sb_, sc_, i64_w, i32_w]; rfl))
     refine seqE (by kernel_rfl) ?_
     go_wp2
     go_ret
     exact ⟨ret_bool (HF.out), HB2.out⟩
    ·have cc : decide (x0 ≤ y) = false := decide_eq_false hc
     have HN := am_ (show (goTab (hostAheadR l0 (i + 1).toNat) (l0.drop (i + 1).toNat) && decide (l0.length ≤ 8)) = r by rw [← hst2, show above (some y) x0 = true from decide_eq_true (by omega), Bool.true_and])
     clear hst2 hpv hi2 hc hay
     go_wp2_with fail
     have HB1 := am_ (below_drew HB.out)
     refine seqS (S := pinfoldref11_TableMay.S (ad.add (i.toNat * 6)) x0 x1 x2 x3 x4 x5 (ad.add (j.toNat * 6)) y) 24 (by kernel_rfl) rfl rfl (by unfold pinfoldref11_TableMay.S; exact ⟨(HB1.out.cell (wb_ w _ hw0)).trans hw0, (HB1.out.cell (wb_ w _ hw1)).trans hw1, (HB1.out.cell (wb_ w _ hw2)).trans hw2, (HB1.out.cell (wb_ w _ hw3)).trans hw3, (HB1.out.cell (wb_ w _ hw4)).trans hw4, (HB1.out.cell (wb_ w _ hw5)).trans hw5, (HB1.out.cell (wb_ w _ hwy)).trans hwy⟩) ?_
     intro hHeld
     clear hx0 hx1 hx2 hx3 hx4 hx5 hw0 hw1 hw2 hw3 hw4 hw5 HB
     iterate 4 first | (refine seqP (v := ?_) (a' := ?_) rfl rfl (by kernel_rfl) (fun _ _ _ h => h) (Or.inl ⟨by kernel_rfl, ?_⟩) ?_ ?_; rotate_left; (intro w'; go_simp; with_reducible rfl); rotate_left; (simp only [Act.put, sa_, sb_, sc_, i64_w, i32_w]; rfl)) | (refine seqL (v := ?_) (a' := ?_) rfl rfl (by kernel_rfl) (fun _ _ _ h => h) (Or.inl ⟨by kernel_rfl, ?_⟩) hHeld ?_ ?_; rotate_left; (rintro w' ⟨s0, s1, s2, s3, s4, s5, s6⟩; go_simp; with_reducible rfl); rotate_left; (simp only [Act.put, sa_, sb_, sc_, i64_w, i32_w]; rfl))
     refine seqG (fn := Tryd.f31) rfl rfl (by kernel_rfl) rfl Tryd.func31 (by kernel_rfl) (by kernel_rfl) #[.agg #[.int .i64 x0, .int .i64 x1, .string x2, .int .i64 x3, .string x4, .bool x5]] (by kernel_rfl) (by (try simp only [List.map_toArray, List.map_cons, List.map_nil]); first | done | rfl) ?_
     with_reducible refine (CM.out _).mono ?_
     rintro e wg ⟨rfl, hb2⟩
     have HB2 := am_ (bt_ HB1.out hb2)
     refine ⟨_, rfl, pinfoldref11_TableMay.S_below hHeld hb2, fun hHeld => ⟨?_, ?_, ?_⟩⟩
     rotate_left
     ·simp only [Act.put, sa_, sb_, sc_, i64_w, i32_w]
      rfl
     clear hb2 HB1 CM
     iterate 2 first | (refine seqP (v := ?_) (a' := ?_) rfl rfl (by kernel_rfl) (fun _ _ _ h => h) (Or.inl ⟨by kernel_rfl, ?_⟩) ?_ ?_; rotate_left; (intro w'; go_simp; with_reducible rfl); rotate_left; (simp only [Act.put, sa_, sb_, sc_, i64_w, i32_w]; rfl)) | (refine seqL (v := ?_) (a' := ?_) rfl rfl (by kernel_rfl) (fun _ _ _ h => h) (Or.inl ⟨by kernel_rfl, ?_⟩) hHeld ?_ ?_; rotate_left; (rintro w' ⟨s0, s1, s2, s3, s4, s5, s6⟩; go_simp; with_reducible rfl); rotate_left; (simp only [Act.put, sa_, sb_, sc_, i64_w, i32_w]; rfl))
     iterate 17 first | (refine seqP (v := ?_) (a' := ?_) rfl rfl (by kernel_rfl) (fun _ _ _ h => h) (Or.inl ⟨by kernel_rfl, ?_⟩) ?_ ?_; rotate_left; (intro w'; go_simp; with_reducible rfl); rotate_left; (simp only [Act.put, sa_, sb_, sc_, i64_w, i32_w]; rfl)) | (refine seqL (v := ?_) (a' := ?_) rfl rfl (by kernel_rfl) (fun _ _ _ h => h) (Or.inl ⟨by kernel_rfl, ?_⟩) hHeld ?_ ?_; rotate_left; (rintro w' ⟨s0, s1, s2, s3, s4, s5, s6⟩; go_simp; with_reducible rfl); rotate_left; (simp only [Act.put, sa_, sb_, sc_, i64_w, i32_w]; rfl))
     refine seqE (by kernel_rfl) ?_
     go_wp2
     go_roundg (l0.length - (i.toNat + 1))
     case measure => exact H3.out
     case rel => exact ⟨i + 1, H1.out, H2.out, by first | rfl | (rw [show wrap64 (i + 1) = i + 1 from (i64_w _).symm.trans H4.out]), HB2, HN⟩
  ·have HF := am_ (show decide (l0.length ≤ 8) = r by have h1 := HT.out; rw [List.drop_eq_nil_of_le (by omega)] at h1; rw [← h1, show goTab (hostAheadR l0 i.toNat) [] = true from rfl, Bool.true_and])
   by_cases h8 : l0.length ≤ 8
   ·have c8 : decide ((l0.length : Int) ≤ 8) = true := decide_eq_true (by omega)
    have HG := am_ (show true = r by rw [← HF.out]; exact (decide_eq_true h8).symm)
    clear HT HF
    go_wp2
    go_ret
    exact ⟨ret_bool HG.out, HB.out⟩
   ·have c8 : decide ((l0.length : Int) ≤ 8) = false := decide_eq_false (by omega)
    have HG := am_ (show false = r by rw [← HF.out]; exact (decide_eq_false h8).symm)
    clear HT HF
    go_wp2
    go_ret
    exact ⟨ret_bool HG.out, HB.out⟩

end Go.Proofs.YtibalpbkmgegnaaDoor.PN
