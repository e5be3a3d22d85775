-- Made by wip/pr.py out of the translation (a turned copy of the kit's print; contracts by hand where said).
import Derived.Test.YtibmakpghbinbaaPQx0
import Derived.Test.YtibmakpghbinbaaPQx2
import Derived.Test.YtibmakpghbinbaaPQx3
import Derived.Test.YtibmakpghbinbaaPQx4
import Derived.Test.YtibmakpghbinbaaPQx5
namespace Go.Proofs.Ytibmakpghbinbaa.PQ
open Go.RowKit Go.Proofs.YtibmakpghbinbaaW.PrintWords Go.Proofs.YtibmakpghbinbaaW.PrintLast Go.Proofs.YtibmakpghbinbaaW.PrintMore
-- shrunk
attribute [local go_sem] max2_int min2_int max_two min_two max_three min_three max_four min_four   -- for this text's walks alone
set_option linter.unusedVariables false
set_option linter.unusedSimpArgs false

/-! ### pinfoldlaw13_TableForms: function 6 -/
def pinfoldlaw13_TableForms.l0 : Nat → Int → Int → List (S37) → List (S37) → Int → Option (Bool)
 | 0, _, _, _, _, _ => none
 | k + 1, x0, x5, x6, x7, x8 => if x8 ≤ 8 then (if x7.length < 2199023255552 then (pinfoldlaw13_TableForms.l0 k x0 x5 x6 (x7 ++ [(⟨wrap64 (10 + x8), 0, (⟨#[]⟩ : ByteArray), 0, (⟨#[]⟩ : ByteArray), false⟩ : S37)]) (wrap64 (x8 + 1))) else (none)) else (if 1 < (x6.length : Int) then (if 0 < (x6.length : Int) then ((some (([(([(⟨(rd_T37 x6 1).f0, (rd_T37 x6 1).f1, (rd_T37 x6 1).f2, (rd_T37 x6 1).f3, (rd_T37 x6 1).f4, (rd_T37 x6 1).f5⟩ : S37), (⟨(rd_T37 x6 0).f0, (rd_T37 x6 0).f1, (rd_T37 x6 0).f2, (rd_T37 x6 0).f3, (rd_T37 x6 0).f4, (rd_T37 x6 0).f5⟩ : S37)] : List (S37))), (([(⟨(rd_T37 x6 0).f0, (rd_T37 x6 0).f1, (rd_T37 x6 0).f2, (rd_T37 x6 0).f3, (rd_T37 x6 0).f4, (rd_T37 x6 0).f5⟩ : S37), (⟨(rd_T37 x6 0).f0, (rd_T37 x6 0).f1, (rd_T37 x6 0).f2, (rd_T37 x6 0).f3, (rd_T37 x6 0).f4, (rd_T37 x6 0).f5⟩ : S37)] : List (S37))), (([(⟨1, 0, (⟨#[]⟩ : ByteArray), 0, (⟨#[]⟩ : ByteArray), false⟩ : S37)] : List (S37))), (([(⟨wrap64 (254 + x5), 0, (⟨#[]⟩ : ByteArray), 0, (⟨#[]⟩ : ByteArray), false⟩ : S37)] : List (S37))), x7, (([(⟨(rd_T37 x6 0).f0, (rd_T37 x6 0).f1, (rd_T37 x6 0).f2, (rd_T37 x6 0).f3, (rd_T37 x6 0).f4, (rd_T37 x6 0).f5⟩ : S37), (⟨11, 2, (⟨#[]⟩ : ByteArray), 0, (⟨#[]⟩ : ByteArray), false⟩ : S37)] : List (S37)))] : List (List (S37))) : List (List (S37)))).bind fun y188 => (if 0 ≤ (wrap64 (Int.tmod (IntKind.u64.wrap (x0)) 6)) then (if (wrap64 (Int.tmod (IntKind.u64.wrap (x0)) 6)) < (y188.length : Int) then ((table_With.f (rd_L4 y188 (wrap64 (Int.tmod (IntKind.u64.wrap (x0)) 6))) ((rd_T37 x6 0).f0) ((rd_T37 x6 0).f1) ((rd_T37 x6 0).f2) ((rd_T37 x6 0).f3) ((rd_T37 x6 0).f4) ((rd_T37 x6 0).f5)).bind fun bt193 => ((table_With.f x6 11 (wrap64 (-x5)) (⟨#[]⟩ : ByteArray) 0 (⟨#[]⟩ : ByteArray) false).bind fun bt197 => (if 8 ≤ (x7.length : Int) then ((table_With.f (x7.take 8) 200 0 (⟨#[]⟩ : ByteArray) 0 (⟨#[]⟩ : ByteArray) false).bind fun bt206 => ((table_With.f (x7.take 8) 10 0 (⟨#[]⟩ : ByteArray) x5 (⟨#[]⟩ : ByteArray) false).bind fun bt215 => ((table_Of.f (rd_L4 y188 (wrap64 (Int.tmod (IntKind.u64.wrap (x0)) 6))) (⟨#[109, 101]⟩ : ByteArray) 0).bind fun bt219 => ((table_May_c.f (rd_L4 y188 (wrap64 (Int.tmod (IntKind.u64.wrap (x0)) 6)))).bind fun t227 => (if t227 = true then (none) else ((table_May_c.f x6).bind fun t228 => (if t228 = true then ((pinfoldlaw0_Num.f bt193.2).bind fun t229 => (if t229 = 1300 then ((pinfoldlaw0_Num.f bt197.2).bind fun t230 => (if t230 = 1300 then ((pinfoldlaw0_Num.f bt206.2).bind fun t231 => (if t231 = 1300 then ((pinfoldlaw0_Num.f bt215.2).bind fun t232 => (if t232 = 0 then (some (!bt219.2.2.2.2.2.2)) else (none))) else (none))) else (none))) else (none))) else (none)))))))) else (none)))) else (none)) else (none))) else (none)) else (none))
def pinfoldlaw13_TableForms.f (k : Nat) (a0 : Int) (a1 : Int) : Option (Bool) := (pinfoldlaw13_awake.f k).bind fun t161 => (if t161 = true then (pinfoldlaw13_TableForms.l0 k a0 (wrap64 (1 + (Go.bits .and .i64 a1 63))) (([(⟨10, 2, (⟨#[109, 101]⟩ : ByteArray), 9, (⟨#[]⟩ : ByteArray), false⟩ : S37), (⟨12, 0, (⟨#[]⟩ : ByteArray), 0, (⟨#[]⟩ : ByteArray), false⟩ : S37)] : List (S37))) ([] : List (S37)) 0) else (none))
theorem pinfoldlaw13_TableForms.mono_l : ∀ k, (∀ y0 y1 y2 y3 y4, LeO (pinfoldlaw13_TableForms.l0 k y0 y1 y2 y3 y4) (pinfoldlaw13_TableForms.l0 (k + 1) y0 y1 y2 y3 y4))
 | 0 => fun _ _ _ _ _ r h => by simp [pinfoldlaw13_TableForms.l0] at h
 | k + 1 => by
  have ih0 := pinfoldlaw13_TableForms.mono_l k
  ·intro y0 y1 y2 y3 y4
   unfold pinfoldlaw13_TableForms.l0
   repeat' first
   | (with_reducible exact ih0 _ _ _ _ _)
   | (with_reducible exact pinfoldlaw13_awake.mono _)
   | (with_reducible exact LeO.refl _)
   | (with_reducible exact LeO.none _)
   | (with_reducible refine LeO.ite ?_ ?_)
   | (with_reducible refine LeO.bind ?_ (fun _ => ?_))
   | exact ih0 _ _ _ _ _
   | exact pinfoldlaw13_awake.mono _
   | exact LeO.none _
   | refine LeO.ite ?_ ?_
   | refine LeO.bind ?_ (fun _ => ?_)
theorem pinfoldlaw13_TableForms.mono : ∀ a0 a1 k, LeO (pinfoldlaw13_TableForms.f k a0 a1) (pinfoldlaw13_TableForms.f (k + 1) a0 a1) := by
 intro a0 a1 k
 have ih0 := pinfoldlaw13_TableForms.mono_l k
 unfold pinfoldlaw13_TableForms.f
 repeat' first
   | (with_reducible exact ih0 _ _ _ _ _)
   | (with_reducible exact pinfoldlaw13_awake.mono _)
   | (with_reducible exact LeO.refl _)
   | (with_reducible exact LeO.none _)
   | (with_reducible refine LeO.ite ?_ ?_)
   | (with_reducible refine LeO.bind ?_ (fun _ => ?_))
   | exact ih0 _ _ _ _ _
   | exact pinfoldlaw13_awake.mono _
   | exact LeO.none _
   | refine LeO.ite ?_ ?_
   | refine LeO.bind ?_ (fun _ => ?_)
def pinfoldlaw13_TableForms.T10 : Bool × List (List Nat × List Nat) := (true, [([], []), ([0], [0]), ([1], [1]), ([], []), ([3], [3]), ([4], [4]), ([2, 5], [2, 5]), ([], []), ([7], [7]), ([8], [8]), ([], []), ([10], [10]), ([11], [11]), ([9, 12], [9, 12]), ([], []), ([14], [14]), ([], []), ([16], [16]), ([17], [17]), ([18], [18]), ([], []), ([], []), ([21], [21]), ([22], [22]), ([], []), ([23, 24], [23, 24]), ([6, 13, 15, 19, 20, 25], [6, 13, 15, 19, 20, 25]), ([26, 0, 1, 2, 3, 4, 5, 6, 7, 8, 9, 10, 11, 12, 13, 14, 15, 16, 17, 18, 19, 20, 21, 22, 23, 24, 25, 26], [26])])
def pinfoldlaw13_TableForms.B10 : List Nat := [0, 1, 3, 0, 8, 24, 63, 0, 128, 384, 0, 1024, 3072, 8064, 0, 16384, 0, 65536, 196608, 458752, 0, 0, 2097152, 6291456, 0, 31457280, 67108863, 134217727]
theorem pinfoldlaw13_TableForms.tab10 : rtab .any (opsOf Try.f6 10) = pinfoldlaw13_TableForms.T10 := by kernel_rfl
theorem pinfoldlaw13_TableForms.bits10 : waitsOk pinfoldlaw13_TableForms.T10.2 pinfoldlaw13_TableForms.B10 = true := by kernel_rfl
set_option maxHeartbeats 8000000 in
set_option maxRecDepth 100000 in
theorem pinfoldlaw13_TableForms.calls (k : Nat) (a0 : Int) (a1 : Int) (r : Bool) (w : World) (h : pinfoldlaw13_TableForms.f k a0 a1 = some r) :
  Calls Try.prog 6 #[.int .i64 a0, .int .i64 a1] w fun e w' => e = .returned (.bool r) ∧ Below w.heap.size w w' := by
 have hu37 := Try.underlying37
 have HB := am_ (Below.refl w.heap.size w)
 have H : ((pinfoldlaw13_awake.f k).bind fun t161 => (if t161 = true then (pinfoldlaw13_TableForms.l0 k a0 (wrap64 (1 + (Go.bits .and .i64 a1 63))) (([(⟨10, 2, (⟨#[109, 101]⟩ : ByteArray), 9, (⟨#[]⟩ : ByteArray), false⟩ : S37), (⟨12, 0, (⟨#[]⟩ : ByteArray), 0, (⟨#[]⟩ : ByteArray), false⟩ : S37)] : List (S37))) ([] : List (S37)) 0) else (none))) = some r := h
 clear h
 replace H := e4_ H
 obtain ⟨t161, A30, H⟩ := H
 replace H : (if t161 = true then (pinfoldlaw13_TableForms.l0 k a0 (wrap64 (1 + (Go.bits .and .i64 a1 63))) (([(⟨10, 2, (⟨#[109, 101]⟩ : ByteArray), 9, (⟨#[]⟩ : ByteArray), false⟩ : S37), (⟨12, 0, (⟨#[]⟩ : ByteArray), 0, (⟨#[]⟩ : ByteArray), false⟩ : S37)] : List (S37))) ([] : List (S37)) 0) else (none)) = some r := H
 have A3 := am_ A30
 clear A30
 by_cases c4 : t161 = true
 ·subst c4
  have H1 : (pinfoldlaw13_TableForms.l0 k a0 (wrap64 (1 + (Go.bits .and .i64 a1 63))) (([(⟨10, 2, (⟨#[109, 101]⟩ : ByteArray), 9, (⟨#[]⟩ : ByteArray), false⟩ : S37), (⟨12, 0, (⟨#[]⟩ : ByteArray), 0, (⟨#[]⟩ : ByteArray), false⟩ : S37)] : List (S37))) ([] : List (S37)) 0) = some r := by rw [if_pos rfl] at H; exact H
  clear H
  have H := H1
  clear H1
  obtain ⟨y162, hy162⟩ : ∃ y_ : List (S37), y_ = (([(⟨10, 2, (⟨#[109, 101]⟩ : ByteArray), 9, (⟨#[]⟩ : ByteArray), false⟩ : S37), (⟨12, 0, (⟨#[]⟩ : ByteArray), 0, (⟨#[]⟩ : ByteArray), false⟩ : S37)] : List (S37))) := ⟨_, rfl⟩
  replace H : (pinfoldlaw13_TableForms.l0 k a0 (wrap64 (1 + (Go.bits .and .i64 a1 63))) y162 ([] : List (S37)) 0) = some r := by first | (rw [hy162]; with_reducible exact H) | (have H2_ := (Option.bind_some _ _).symm.trans H; rw [hy162]; with_reducible exact H2_) | (have H2_ := (Option.bind_some _ _).symm.trans H; with_reducible exact H2_) | with_reducible exact H | (rw [hy162]; exact H) | exact H
  have Ny162 := am_ hy162
  clear hy162
  have H' := am_ H
  clear H
  go_enter Try.func6, Try.ntmps6
  go_wp2_with (first | ((with_reducible refine gate_callee (f := 29) rfl ?_); refine goesL_ (some 21) rfl rfl Try.func29 (by kernel_rfl) rfl #[] rfl (by (try simp only [List.map_toArray, List.map_cons, List.map_nil]); first | done | rfl | (simp only [List.length_drop, List.length_take]; rfl)) ?_; (with_reducible refine (pinfoldlaw13_awake.calls k  true _ A3.out).mono ?_); rintro e w5 ⟨rfl, hb⟩; refine ⟨_, rfl, ?_⟩; have n0_ := am_ (bt_ (by repeat (with_reducible first | exact HB.out | apply p3_ | apply p1_ | apply p2_)) hb); clear HB; have HB := n0_; clear n0_; (try clear hb)) | ((with_reducible refine gate_dst (N := 28) rfl ?_); refine Kd.R_lit k37 _ 37 ?hg (N := 28) ?hd (xs := ([(⟨10, 2, (⟨#[109, 101]⟩ : ByteArray), 9, (⟨#[]⟩ : ByteArray), false⟩ : S37), (⟨12, 0, (⟨#[]⟩ : ByteArray), 0, (⟨#[]⟩ : ByteArray), false⟩ : S37)] : List (S37))) (inner := [.int .i64 10, .int .i64 2, .string (⟨#[109, 101]⟩ : ByteArray), .int .i64 9, .string (⟨#[]⟩ : ByteArray), .bool false, .int .i64 12, .int .i64 0, .string (⟨#[]⟩ : ByteArray), .int .i64 0, .string (⟨#[]⟩ : ByteArray), .bool false]) (ok := fun _ => True) (okp := fun _ => True) ?hr ?hp (fun _ hk => hk) trivial (Below.refl _ _) (Nat.le_refl _) (by simp) ?_; (case hd => rfl); (case hg => rfl); (case hr => first | (go_simp; done) | (go_simp; rfl)); (case hp => exact (Reps.c6 (show Kd.M k37 _ _ _ (⟨10, 2, (⟨#[109, 101]⟩ : ByteArray), 9, (⟨#[]⟩ : ByteArray), false⟩ : S37) [.int .i64 10, .int .i64 2, .string (⟨#[109, 101]⟩ : ByteArray), .int .i64 9, .string (⟨#[]⟩ : ByteArray), .bool false] from (k37_mkM _ _ _ (⟨10, 2, (⟨#[109, 101]⟩ : ByteArray), 9, (⟨#[]⟩ : ByteArray), false⟩ : S37) )) (Reps.c6 (show Kd.M k37 _ _ _ (⟨12, 0, (⟨#[]⟩ : ByteArray), 0, (⟨#[]⟩ : ByteArray), false⟩ : S37) [.int .i64 12, .int .i64 0, .string (⟨#[]⟩ : ByteArray), .int .i64 0, .string (⟨#[]⟩ : ByteArray), .bool false] from (k37_mkM _ _ _ (⟨12, 0, (⟨#[]⟩ : ByteArray), 0, (⟨#[]⟩ : ByteArray), false⟩ : S37) )) (Reps.none _ _)))); intro v163 w6 ho7 hb hg_ hnew_; clear hg_ hnew_; (first | rw [← Ny162.out] at ho7 | (simp only [Int.reduceToNat] at ho7; rw [← Ny162.out] at ho7)); have n0_ := am_ (Kd.R_lower ho7 (bz_ (by repeat (with_reducible first | exact HB.out | apply p3_ | apply p1_ | apply p2_)))); have n1_ := am_ (bt_ (by repeat (with_reducible first | exact HB.out | apply p3_ | apply p1_ | apply p2_)) hb); clear HB; have HO164 := n0_; have HB := n1_; clear n0_ n1_; clear hb ho7))
  go_loopg [7, 8] k (fun kq v7 v8 w' => ∃ (x7_1 : List (S37)) (x8_1 : Int), v8 = .int .i64 x8_1 ∧ Aside0 (pinfoldlaw13_TableForms.l0 kq a0 (wrap64 (1 + (Go.bits .and .i64 a1 63))) y162 x7_1 x8_1 = some r) ∧ Aside0 (kq ≤ k) ∧ Aside0 (Kd.R k37 37 w' w.heap.size (fun k_ => some k_ ≠ (v7 : Value).ownBlock) v163 y162) ∧ Aside0 (Kd.R k37 37 w' w.heap.size (fun k_ => some k_ ≠ (v163 : Value).ownBlock) v7 x7_1) ∧ Aside0 (Below w.heap.size w w'))
  case atStart => exact ⟨(([] : List (S37))), (0), (by first | rfl | (simp; done) | (simp [*]; done)), H', ⟨Nat.le_refl _⟩, ⟨by (with_reducible repeat (first | apply r1_ | apply r2_ | apply r3_)); exact Kd.R_mono HO164.out (fun _ hk => (by simp [Value.ownBlock]))⟩, ⟨by first | exact Kd.R_nil _ _ _ _ _ | exact Kd.N_nil _ _ _ _ _ | exact Kd.V_nil _ _ _ _ _ | exact Kd.Q_nil _ _ _ _ _ | exact Kd.S_nil _ _ _ _ _⟩, ⟨by repeat (with_reducible first | exact HB.out | apply p3_ | apply p1_ | apply p2_)⟩⟩
  case round =>
   clear H'
   (try clear c4); (try clear c6)
   obtain ⟨x7_1, x8_1, rfl, HA, HK1, HO_6, HO_7, HB⟩ := hrel
   cases gk with
   | zero => exact absurd HA.out (by simp [pinfoldlaw13_TableForms.l0])
   | succ k1 =>
    have H := HA.out
    clear HA
    simp only [pinfoldlaw13_TableForms.l0] at H
    by_cases c8 : x8_1 ≤ 8
    ·rw [if_pos c8] at H
     have c8b0 : decide (x8_1 ≤ 8) = true := decide_eq_true c8
     clear c8
     by_cases c9 : x7_1.length < 2199023255552
     rotate_left
     ·rw [if_neg c9] at H
      exact absurd H (by simp)
     rw [if_pos c9] at H
     have LMc9 := am_ c9
     clear c9
     obtain ⟨y165, hy165⟩ : ∃ y_ : List (S37), y_ = (x7_1 ++ [(⟨wrap64 (10 + x8_1), 0, (⟨#[]⟩ : ByteArray), 0, (⟨#[]⟩ : ByteArray), false⟩ : S37)]) := ⟨_, rfl⟩
     replace H : (pinfoldlaw13_TableForms.l0 k1 a0 (wrap64 (1 + (Go.bits .and .i64 a1 63))) y162 y165 (wrap64 (x8_1 + 1))) = some r := by first | (rw [hy165]; with_reducible exact H) | (have H2_ := (Option.bind_some _ _).symm.trans H; rw [hy165]; with_reducible exact H2_) | (have H2_ := (Option.bind_some _ _).symm.trans H; with_reducible exact H2_) | with_reducible exact H | (rw [hy165]; exact H) | exact H
     have Ny165 := am_ hy165
     clear hy165
     have H' := am_ H
     clear H
     go_wp2_with (first | ((with_reducible refine gate_builtin (b := .append) (xs := #[.tmp 33, .tmp 37]) rfl ?_); at_builtin; refine Kd.R_append k37 (w0 := w) w.heap.size rfl (.tmp 33) (.tmp 37) 27 37 (.agg #[(.int .i64 0), (.int .i64 0), (.string ⟨#[]⟩), (.int .i64 0), (.string ⟨#[]⟩), (.bool false)]) 64 rfl Try.underlying27 info37 rfl (by decide) (by omega) u7 x7_1 (⟨wrap64 (10 + x8_1), 0, (⟨#[]⟩ : ByteArray), 0, (⟨#[]⟩ : ByteArray), false⟩ : S37) [.int .i64 (wrap64 (10 + x8_1)), .int .i64 0, .string (⟨#[]⟩ : ByteArray), .int .i64 0, .string (⟨#[]⟩ : ByteArray), .bool false] (fun k_ => some k_ ≠ (v163 : Value).ownBlock) (fun _ => False) rfl rfl ?aP (fun _ hk => hk.elim) ?aF ?aO ?aB ?aS ?aL ?_; (case aP => exact k37_mkM _ _ _ (⟨wrap64 (10 + x8_1), 0, (⟨#[]⟩ : ByteArray), 0, (⟨#[]⟩ : ByteArray), false⟩ : S37)); (case aB => exact (by repeat (with_reducible first | exact HB.out | apply p3_ | apply p1_ | apply p2_))); (case aF => exact (fun k_ hk => Kd.fresh' (Kd.R_lt (by (with_reducible repeat (first | apply r1_ | apply r2_ | apply r3_)); exact HO_6.out)) k_ hk)); (case aO => exact (by (with_reducible repeat (first | apply r1_ | apply r2_ | apply r3_)); exact HO_7.out)); (case aS => exact (bz_ (by repeat (with_reducible first | exact HB.out | apply p3_ | apply p1_ | apply p2_)))); (case aL => have := LMc9.out; omega); intro v166 w10 ho hb hg hat; rw [← Ny165.out] at ho; have n0_ := am_ (Kd.R_after (ok := (fun _ => True)) (by (with_reducible repeat (first | apply r1_ | apply r2_ | apply r3_)); exact Kd.R_mono HO_6.out (fun _ hk => ⟨trivial, hk⟩)) hg hat); have n1_ := am_ (hb); have n2_ := am_ (ho); clear HO_6; clear HB; clear HO_7; have HO_6 := n0_; have HB := n1_; have HO167 := n2_; clear n0_ n1_ n2_; clear ho hb hg hat))
     go_roundg k1
     case measure => have := HK1.out; omega
     case rel => exact ⟨(y165), (wrap64 (x8_1 + 1)), (by first | rfl | (simp; done) | (simp [*]; done)), H', ⟨by have := HK1.out; omega⟩, ⟨by (with_reducible repeat (first | apply r1_ | apply r2_ | apply r3_)); exact Kd.R_mono HO_6.out (fun _ hk => by ((repeat' apply And.intro) <;> (first | trivial | exact hk | exact hk.1 | exact hk.2 | exact hk.2.1 | exact hk.2.2 | exact hk.2.2.1 | exact hk.2.2.2 | exact hk.2.2.2.1 | exact hk.2.2.2.2 | exact hk.2.2.2.2.1 | exact hk.2.2.2.2.2 | exact hk.2.2.2.2.2.1 | exact hk.2.2.2.2.2.2 | exact hk.1.1 | exact hk.1.2)))⟩, ⟨by (with_reducible repeat (first | apply r1_ | apply r2_ | apply r3_)); exact HO167.out⟩, ⟨by repeat (with_reducible first | exact HB.out | apply p3_ | apply p1_ | apply p2_)⟩⟩
    rw [if_neg c8] at H
    have c8b0 : decide (x8_1 ≤ 8) = false := decide_eq_false c8
    clear c8
    by_cases c11 : 1 < (y162.length : Int)
    rotate_left
    ·rw [if_neg c11] at H
     exact absurd H (by simp)
    rw [if_pos c11] at H
    have c11b0 : decide (1 < (y162.length : Int)) = true := decide_eq_true c11
    have c11b1 : decide (1 < y162.length) = true := decide_eq_true (by omega)
    clear c11
    by_cases c12 : 0 < (y162.length : Int)
    rotate_left
    ·rw [if_neg c12] at H
     exact absurd H (by simp)
    rw [if_pos c12] at H
    have c12b0 : decide (0 < (y162.length : Int)) = true := decide_eq_true c12
    have c12b1 : decide (0 < y162.length) = true := decide_eq_true (by omega)
    clear c12
    obtain ⟨y170, hy170⟩ : ∃ y_ : List (S37), y_ = (([(⟨(rd_T37 y162 1).f0, (rd_T37 y162 1).f1, (rd_T37 y162 1).f2, (rd_T37 y162 1).f3, (rd_T37 y162 1).f4, (rd_T37 y162 1).f5⟩ : S37), (⟨(rd_T37 y162 0).f0, (rd_T37 y162 0).f1, (rd_T37 y162 0).f2, (rd_T37 y162 0).f3, (rd_T37 y162 0).f4, (rd_T37 y162 0).f5⟩ : S37)] : List (S37))) := ⟨_, rfl⟩
    replace H : ((some (([y170, (([(⟨(rd_T37 y162 0).f0, (rd_T37 y162 0).f1, (rd_T37 y162 0).f2, (rd_T37 y162 0).f3, (rd_T37 y162 0).f4, (rd_T37 y162 0).f5⟩ : S37), (⟨(rd_T37 y162 0).f0, (rd_T37 y162 0).f1, (rd_T37 y162 0).f2, (rd_T37 y162 0).f3, (rd_T37 y162 0).f4, (rd_T37 y162 0).f5⟩ : S37)] : List (S37))), (([(⟨1, 0, (⟨#[]⟩ : ByteArray), 0, (⟨#[]⟩ : ByteArray), false⟩ : S37)] : List (S37))), (([(⟨wrap64 (254 + (wrap64 (1 + (Go.bits .and .i64 a1 63)))), 0, (⟨#[]⟩ : ByteArray), 0, (⟨#[]⟩ : ByteArray), false⟩ : S37)] : List (S37))), x7_1, (([(⟨(rd_T37 y162 0).f0, (rd_T37 y162 0).f1, (rd_T37 y162 0).f2, (rd_T37 y162 0).f3, (rd_T37 y162 0).f4, (rd_T37 y162 0).f5⟩ : S37), (⟨11, 2, (⟨#[]⟩ : ByteArray), 0, (⟨#[]⟩ : ByteArray), false⟩ : S37)] : List (S37)))] : List (List (S37))) : List (List (S37)))).bind fun y188 => (if 0 ≤ (wrap64 (Int.tmod (IntKind.u64.wrap (a0)) 6)) then (if (wrap64 (Int.tmod (IntKind.u64.wrap (a0)) 6)) < (y188.length : Int) then ((table_With.f (rd_L4 y188 (wrap64 (Int.tmod (IntKind.u64.wrap (a0)) 6))) ((rd_T37 y162 0).f0) ((rd_T37 y162 0).f1) ((rd_T37 y162 0).f2) ((rd_T37 y162 0).f3) ((rd_T37 y162 0).f4) ((rd_T37 y162 0).f5)).bind fun bt193 => ((table_With.f y162 11 (wrap64 (-(wrap64 (1 + (Go.bits .and .i64 a1 63))))) (⟨#[]⟩ : ByteArray) 0 (⟨#[]⟩ : ByteArray) false).bind fun bt197 => (if 8 ≤ (x7_1.length : Int) then ((table_With.f (x7_1.take 8) 200 0 (⟨#[]⟩ : ByteArray) 0 (⟨#[]⟩ : ByteArray) false).bind fun bt206 => ((table_With.f (x7_1.take 8) 10 0 (⟨#[]⟩ : ByteArray) (wrap64 (1 + (Go.bits .and .i64 a1 63))) (⟨#[]⟩ : ByteArray) false).bind fun bt215 => ((table_Of.f (rd_L4 y188 (wrap64 (Int.tmod (IntKind.u64.wrap (a0)) 6))) (⟨#[109, 101]⟩ : ByteArray) 0).bind fun bt219 => ((table_May_c.f (rd_L4 y188 (wrap64 (Int.tmod (IntKind.u64.wrap (a0)) 6)))).bind fun t227 => (if t227 = true then (none) else ((table_May_c.f y162).bind fun t228 => (if t228 = true then ((pinfoldlaw0_Num.f bt193.2).bind fun t229 => (if t229 = 1300 then ((pinfoldlaw0_Num.f bt197.2).bind fun t230 => (if t230 = 1300 then ((pinfoldlaw0_Num.f bt206.2).bind fun t231 => (if t231 = 1300 then ((pinfoldlaw0_Num.f bt215.2).bind fun t232 => (if t232 = 0 then (some (!bt219.2.2.2.2.2.2)) else (none))) else (none))) else (none))) else (none))) else (none)))))))) else (none)))) else (none)) else (none))) = some r := by first | (rw [hy170]; with_reducible exact H) | (have H2_ := (Option.bind_some _ _).symm.trans H; rw [hy170]; with_reducible exact H2_) | (have H2_ := (Option.bind_some _ _).symm.trans H; with_reducible exact H2_) | with_reducible exact H | (rw [hy170]; exact H) | exact H
    have Ny170 := am_ hy170
    clear hy170
    obtain ⟨y175, hy175⟩ : ∃ y_ : List (S37), y_ = (([(⟨(rd_T37 y162 0).f0, (rd_T37 y162 0).f1, (rd_T37 y162 0).f2, (rd_T37 y162 0).f3, (rd_T37 y162 0).f4, (rd_T37 y162 0).f5⟩ : S37), (⟨(rd_T37 y162 0).f0, (rd_T37 y162 0).f1, (rd_T37 y162 0).f2, (rd_T37 y162 0).f3, (rd_T37 y162 0).f4, (rd_T37 y162 0).f5⟩ : S37)] : List (S37))) := ⟨_, rfl⟩
    replace H : ((some (([y170, y175, (([(⟨1, 0, (⟨#[]⟩ : ByteArray), 0, (⟨#[]⟩ : ByteArray), false⟩ : S37)] : List (S37))), (([(⟨wrap64 (254 + (wrap64 (1 + (Go.bits .and .i64 a1 63)))), 0, (⟨#[]⟩ : ByteArray), 0, (⟨#[]⟩ : ByteArray), false⟩ : S37)] : List (S37))), x7_1, (([(⟨(rd_T37 y162 0).f0, (rd_T37 y162 0).f1, (rd_T37 y162 0).f2, (rd_T37 y162 0).f3, (rd_T37 y162 0).f4, (rd_T37 y162 0).f5⟩ : S37), (⟨11, 2, (⟨#[]⟩ : ByteArray), 0, (⟨#[]⟩ : ByteArray), false⟩ : S37)] : List (S37)))] : List (List (S37))) : List (List (S37)))).bind fun y188 => (if 0 ≤ (wrap64 (Int.tmod (IntKind.u64.wrap (a0)) 6)) then (if (wrap64 (Int.tmod (IntKind.u64.wrap (a0)) 6)) < (y188.length : Int) then ((table_With.f (rd_L4 y188 (wrap64 (Int.tmod (IntKind.u64.wrap (a0)) 6))) ((rd_T37 y162 0).f0) ((rd_T37 y162 0).f1) ((rd_T37 y162 0).f2) ((rd_T37 y162 0).f3) ((rd_T37 y162 0).f4) ((rd_T37 y162 0).f5)).bind fun bt193 => ((table_With.f y162 11 (wrap64 (-(wrap64 (1 + (Go.bits .and .i64 a1 63))))) (⟨#[]⟩ : ByteArray) 0 (⟨#[]⟩ : ByteArray) false).bind fun bt197 => (if 8 ≤ (x7_1.length : Int) then ((table_With.f (x7_1.take 8) 200 0 (⟨#[]⟩ : ByteArray) 0 (⟨#[]⟩ : ByteArray) false).bind fun bt206 => ((table_With.f (x7_1.take 8) 10 0 (⟨#[]⟩ : ByteArray) (wrap64 (1 + (Go.bits .and .i64 a1 63))) (⟨#[]⟩ : ByteArray) false).bind fun bt215 => ((table_Of.f (rd_L4 y188 (wrap64 (Int.tmod (IntKind.u64.wrap (a0)) 6))) (⟨#[109, 101]⟩ : ByteArray) 0).bind fun bt219 => ((table_May_c.f (rd_L4 y188 (wrap64 (Int.tmod (IntKind.u64.wrap (a0)) 6)))).bind fun t227 => (if t227 = true then (none) else ((table_May_c.f y162).bind fun t228 => (if t228 = true then ((pinfoldlaw0_Num.f bt193.2).bind fun t229 => (if t229 = 1300 then ((pinfoldlaw0_Num.f bt197.2).bind fun t230 => (if t230 = 1300 then ((pinfoldlaw0_Num.f bt206.2).bind fun t231 => (if t231 = 1300 then ((pinfoldlaw0_Num.f bt215.2).bind fun t232 => (if t232 = 0 then (some (!bt219.2.2.2.2.2.2)) else (none))) else (none))) else (none))) else (none))) else (none)))))))) else (none)))) else (none)) else (none))) = some r := by first | (rw [hy175]; with_reducible exact H) | (have H2_ := (Option.bind_some _ _).symm.trans H; rw [hy175]; with_reducible exact H2_) | (have H2_ := (Option.bind_some _ _).symm.trans H; with_reducible exact H2_) | with_reducible exact H | (rw [hy175]; exact H) | exact H
    have Ny175 := am_ hy175
    clear hy175
    obtain ⟨y178, hy178⟩ : ∃ y_ : List (S37), y_ = (([(⟨1, 0, (⟨#[]⟩ : ByteArray), 0, (⟨#[]⟩ : ByteArray), false⟩ : S37)] : List (S37))) := ⟨_, rfl⟩
    replace H : ((some (([y170, y175, y178, (([(⟨wrap64 (254 + (wrap64 (1 + (Go.bits .and .i64 a1 63)))), 0, (⟨#[]⟩ : ByteArray), 0, (⟨#[]⟩ : ByteArray), false⟩ : S37)] : List (S37))), x7_1, (([(⟨(rd_T37 y162 0).f0, (rd_T37 y162 0).f1, (rd_T37 y162 0).f2, (rd_T37 y162 0).f3, (rd_T37 y162 0).f4, (rd_T37 y162 0).f5⟩ : S37), (⟨11, 2, (⟨#[]⟩ : ByteArray), 0, (⟨#[]⟩ : ByteArray), false⟩ : S37)] : List (S37)))] : List (List (S37))) : List (List (S37)))).bind fun y188 => (if 0 ≤ (wrap64 (Int.tmod (IntKind.u64.wrap (a0)) 6)) then (if (wrap64 (Int.tmod (IntKind.u64.wrap (a0)) 6)) < (y188.length : Int) then ((table_With.f (rd_L4 y188 (wrap64 (Int.tmod (IntKind.u64.wrap (a0)) 6))) ((rd_T37 y162 0).f0) ((rd_T37 y162 0).f1) ((rd_T37 y162 0).f2) ((rd_T37 y162 0).f3) ((rd_T37 y162 0).f4) ((rd_T37 y162 0).f5)).bind fun bt193 => ((table_With.f y162 11 (wrap64 (-(wrap64 (1 + (Go.bits .and .i64 a1 63))))) (⟨#[]⟩ : ByteArray) 0 (⟨#[]⟩ : ByteArray) false).bind fun bt197 => (if 8 ≤ (x7_1.length : Int) then ((table_With.f (x7_1.take 8) 200 0 (⟨#[]⟩ : ByteArray) 0 (⟨#[]⟩ : ByteArray) false).bind fun bt206 => ((table_With.f (x7_1.take 8) 10 0 (⟨#[]⟩ : ByteArray) (wrap64 (1 + (Go.bits .and .i64 a1 63))) (⟨#[]⟩ : ByteArray) false).bind fun bt215 => ((table_Of.f (rd_L4 y188 (wrap64 (Int.tmod (IntKind.u64.wrap (a0)) 6))) (⟨#[109, 101]⟩ : ByteArray) 0).bind fun bt219 => ((table_May_c.f (rd_L4 y188 (wrap64 (Int.tmod (IntKind.u64.wrap (a0)) 6)))).bind fun t227 => (if t227 = true then (none) else ((table_May_c.f y162).bind fun t228 => (if t228 = true then ((pinfoldlaw0_Num.f bt193.2).bind fun t229 => (if t229 = 1300 then ((pinfoldlaw0_Num.f bt197.2).bind fun t230 => (if t230 = 1300 then ((pinfoldlaw0_Num.f bt206.2).bind fun t231 => (if t231 = 1300 then ((pinfoldlaw0_Num.f bt215.2).bind fun t232 => (if t232 = 0 then (some (!bt219.2.2.2.2.2.2)) else (none))) else (none))) else (none))) else (none))) else (none)))))))) else (none)))) else (none)) else (none))) = some r := by first | (rw [hy178]; with_reducible exact H) | (have H2_ := (Option.bind_some _ _).symm.trans H; rw [hy178]; with_reducible exact H2_) | (have H2_ := (Option.bind_some _ _).symm.trans H; with_reducible exact H2_) | with_reducible exact H | (rw [hy178]; exact H) | exact H
    have Ny178 := am_ hy178
    clear hy178
    obtain ⟨y181, hy181⟩ : ∃ y_ : List (S37), y_ = (([(⟨wrap64 (254 + (wrap64 (1 + (Go.bits .and .i64 a1 63)))), 0, (⟨#[]⟩ : ByteArray), 0, (⟨#[]⟩ : ByteArray), false⟩ : S37)] : List (S37))) := ⟨_, rfl⟩
    replace H : ((some (([y170, y175, y178, y181, x7_1, (([(⟨(rd_T37 y162 0).f0, (rd_T37 y162 0).f1, (rd_T37 y162 0).f2, (rd_T37 y162 0).f3, (rd_T37 y162 0).f4, (rd_T37 y162 0).f5⟩ : S37), (⟨11, 2, (⟨#[]⟩ : ByteArray), 0, (⟨#[]⟩ : ByteArray), false⟩ : S37)] : List (S37)))] : List (List (S37))) : List (List (S37)))).bind fun y188 => (if 0 ≤ (wrap64 (Int.tmod (IntKind.u64.wrap (a0)) 6)) then (if (wrap64 (Int.tmod (IntKind.u64.wrap (a0)) 6)) < (y188.length : Int) then ((table_With.f (rd_L4 y188 (wrap64 (Int.tmod (IntKind.u64.wrap (a0)) 6))) ((rd_T37 y162 0).f0) ((rd_T37 y162 0).f1) ((rd_T37 y162 0).f2) ((rd_T37 y162 0).f3) ((rd_T37 y162 0).f4) ((rd_T37 y162 0).f5)).bind fun bt193 => ((table_With.f y162 11 (wrap64 (-(wrap64 (1 + (Go.bits .and .i64 a1 63))))) (⟨#[]⟩ : ByteArray) 0 (⟨#[]⟩ : ByteArray) false).bind fun bt197 => (if 8 ≤ (x7_1.length : Int) then ((table_With.f (x7_1.take 8) 200 0 (⟨#[]⟩ : ByteArray) 0 (⟨#[]⟩ : ByteArray) false).bind fun bt206 => ((table_With.f (x7_1.take 8) 10 0 (⟨#[]⟩ : ByteArray) (wrap64 (1 + (Go.bits .and .i64 a1 63))) (⟨#[]⟩ : ByteArray) false).bind fun bt215 => ((table_Of.f (rd_L4 y188 (wrap64 (Int.tmod (IntKind.u64.wrap (a0)) 6))) (⟨#[109, 101]⟩ : ByteArray) 0).bind fun bt219 => ((table_May_c.f (rd_L4 y188 (wrap64 (Int.tmod (IntKind.u64.wrap (a0)) 6)))).bind fun t227 => (if t227 = true then (none) else ((table_May_c.f y162).bind fun t228 => (if t228 = true then ((pinfoldlaw0_Num.f bt193.2).bind fun t229 => (if t229 = 1300 then ((pinfoldlaw0_Num.f bt197.2).bind fun t230 => (if t230 = 1300 then ((pinfoldlaw0_Num.f bt206.2).bind fun t231 => (if t231 = 1300 then ((pinfoldlaw0_Num.f bt215.2).bind fun t232 => (if t232 = 0 then (some (!bt219.2.2.2.2.2.2)) else (none))) else (none))) else (none))) else (none))) else (none)))))))) else (none)))) else (none)) else (none))) = some r := by first | (rw [hy181]; with_reducible exact H) | (have H2_ := (Option.bind_some _ _).symm.trans H; rw [hy181]; with_reducible exact H2_) | (have H2_ := (Option.bind_some _ _).symm.trans H; with_reducible exact H2_) | with_reducible exact H | (rw [hy181]; exact H) | exact H
    have Ny181 := am_ hy181
    clear hy181
    obtain ⟨y185, hy185⟩ : ∃ y_ : List (S37), y_ = (([(⟨(rd_T37 y162 0).f0, (rd_T37 y162 0).f1, (rd_T37 y162 0).f2, (rd_T37 y162 0).f3, (rd_T37 y162 0).f4, (rd_T37 y162 0).f5⟩ : S37), (⟨11, 2, (⟨#[]⟩ : ByteArray), 0, (⟨#[]⟩ : ByteArray), false⟩ : S37)] : List (S37))) := ⟨_, rfl⟩
    replace H : ((some (([y170, y175, y178, y181, x7_1, y185] : List (List (S37))) : List (List (S37)))).bind fun y188 => (if 0 ≤ (wrap64 (Int.tmod (IntKind.u64.wrap (a0)) 6)) then (if (wrap64 (Int.tmod (IntKind.u64.wrap (a0)) 6)) < (y188.length : Int) then ((table_With.f (rd_L4 y188 (wrap64 (Int.tmod (IntKind.u64.wrap (a0)) 6))) ((rd_T37 y162 0).f0) ((rd_T37 y162 0).f1) ((rd_T37 y162 0).f2) ((rd_T37 y162 0).f3) ((rd_T37 y162 0).f4) ((rd_T37 y162 0).f5)).bind fun bt193 => ((table_With.f y162 11 (wrap64 (-(wrap64 (1 + (Go.bits .and .i64 a1 63))))) (⟨#[]⟩ : ByteArray) 0 (⟨#[]⟩ : ByteArray) false).bind fun bt197 => (if 8 ≤ (x7_1.length : Int) then ((table_With.f (x7_1.take 8) 200 0 (⟨#[]⟩ : ByteArray) 0 (⟨#[]⟩ : ByteArray) false).bind fun bt206 => ((table_With.f (x7_1.take 8) 10 0 (⟨#[]⟩ : ByteArray) (wrap64 (1 + (Go.bits .and .i64 a1 63))) (⟨#[]⟩ : ByteArray) false).bind fun bt215 => ((table_Of.f (rd_L4 y188 (wrap64 (Int.tmod (IntKind.u64.wrap (a0)) 6))) (⟨#[109, 101]⟩ : ByteArray) 0).bind fun bt219 => ((table_May_c.f (rd_L4 y188 (wrap64 (Int.tmod (IntKind.u64.wrap (a0)) 6)))).bind fun t227 => (if t227 = true then (none) else ((table_May_c.f y162).bind fun t228 => (if t228 = true then ((pinfoldlaw0_Num.f bt193.2).bind fun t229 => (if t229 = 1300 then ((pinfoldlaw0_Num.f bt197.2).bind fun t230 => (if t230 = 1300 then ((pinfoldlaw0_Num.f bt206.2).bind fun t231 => (if t231 = 1300 then ((pinfoldlaw0_Num.f bt215.2).bind fun t232 => (if t232 = 0 then (some (!bt219.2.2.2.2.2.2)) else (none))) else (none))) else (none))) else (none))) else (none)))))))) else (none)))) else (none)) else (none))) = some r := by first | (rw [hy185]; with_reducible exact H) | (have H2_ := (Option.bind_some _ _).symm.trans H; rw [hy185]; with_reducible exact H2_) | (have H2_ := (Option.bind_some _ _).symm.trans H; with_reducible exact H2_) | with_reducible exact H | (rw [hy185]; exact H) | exact H
    have Ny185 := am_ hy185
    clear hy185
    obtain ⟨y188, hy188⟩ : ∃ y_ : List (List (S37)), y_ = (([y170, y175, y178, y181, x7_1, y185] : List (List (S37)))) := ⟨_, rfl⟩
    replace H : (if 0 ≤ (wrap64 (Int.tmod (IntKind.u64.wrap (a0)) 6)) then (if (wrap64 (Int.tmod (IntKind.u64.wrap (a0)) 6)) < (y188.length : Int) then ((table_With.f (rd_L4 y188 (wrap64 (Int.tmod (IntKind.u64.wrap (a0)) 6))) ((rd_T37 y162 0).f0) ((rd_T37 y162 0).f1) ((rd_T37 y162 0).f2) ((rd_T37 y162 0).f3) ((rd_T37 y162 0).f4) ((rd_T37 y162 0).f5)).bind fun bt193 => ((table_With.f y162 11 (wrap64 (-(wrap64 (1 + (Go.bits .and .i64 a1 63))))) (⟨#[]⟩ : ByteArray) 0 (⟨#[]⟩ : ByteArray) false).bind fun bt197 => (if 8 ≤ (x7_1.length : Int) then ((table_With.f (x7_1.take 8) 200 0 (⟨#[]⟩ : ByteArray) 0 (⟨#[]⟩ : ByteArray) false).bind fun bt206 => ((table_With.f (x7_1.take 8) 10 0 (⟨#[]⟩ : ByteArray) (wrap64 (1 + (Go.bits .and .i64 a1 63))) (⟨#[]⟩ : ByteArray) false).bind fun bt215 => ((table_Of.f (rd_L4 y188 (wrap64 (Int.tmod (IntKind.u64.wrap (a0)) 6))) (⟨#[109, 101]⟩ : ByteArray) 0).bind fun bt219 => ((table_May_c.f (rd_L4 y188 (wrap64 (Int.tmod (IntKind.u64.wrap (a0)) 6)))).bind fun t227 => (if t227 = true then (none) else ((table_May_c.f y162).bind fun t228 => (if t228 = true then ((pinfoldlaw0_Num.f bt193.2).bind fun t229 => (if t229 = 1300 then ((pinfoldlaw0_Num.f bt197.2).bind fun t230 => (if t230 = 1300 then ((pinfoldlaw0_Num.f bt206.2).bind fun t231 => (if t231 = 1300 then ((pinfoldlaw0_Num.f bt215.2).bind fun t232 => (if t232 = 0 then (some (!bt219.2.2.2.2.2.2)) else (none))) else (none))) else (none))) else (none))) else (none)))))))) else (none)))) else (none)) else (none)) = some r := by first | (rw [hy188]; with_reducible exact H) | (have H2_ := (Option.bind_some _ _).symm.trans H; rw [hy188]; with_reducible exact H2_) | (have H2_ := (Option.bind_some _ _).symm.trans H; with_reducible exact H2_) | with_reducible exact H | (rw [hy188]; exact H) | exact H
    have Ny188 := am_ hy188
    clear hy188
    obtain ⟨ji13, hji13⟩ : ∃ j_ : Int, (wrap64 (Int.tmod (IntKind.u64.wrap (a0)) 6)) = j_ := ⟨_, rfl⟩
    replace H : (if 0 ≤ (ji13) then (if (ji13) < (y188.length : Int) then ((table_With.f (rd_L4 y188 (ji13)) ((rd_T37 y162 0).f0) ((rd_T37 y162 0).f1) ((rd_T37 y162 0).f2) ((rd_T37 y162 0).f3) ((rd_T37 y162 0).f4) ((rd_T37 y162 0).f5)).bind fun bt193 => ((table_With.f y162 11 (wrap64 (-(wrap64 (1 + (Go.bits .and .i64 a1 63))))) (⟨#[]⟩ : ByteArray) 0 (⟨#[]⟩ : ByteArray) false).bind fun bt197 => (if 8 ≤ (x7_1.length : Int) then ((table_With.f (x7_1.take 8) 200 0 (⟨#[]⟩ : ByteArray) 0 (⟨#[]⟩ : ByteArray) false).bind fun bt206 => ((table_With.f (x7_1.take 8) 10 0 (⟨#[]⟩ : ByteArray) (wrap64 (1 + (Go.bits .and .i64 a1 63))) (⟨#[]⟩ : ByteArray) false).bind fun bt215 => ((table_Of.f (rd_L4 y188 (ji13)) (⟨#[109, 101]⟩ : ByteArray) 0).bind fun bt219 => ((table_May_c.f (rd_L4 y188 (ji13))).bind fun t227 => (if t227 = true then (none) else ((table_May_c.f y162).bind fun t228 => (if t228 = true then ((pinfoldlaw0_Num.f bt193.2).bind fun t229 => (if t229 = 1300 then ((pinfoldlaw0_Num.f bt197.2).bind fun t230 => (if t230 = 1300 then ((pinfoldlaw0_Num.f bt206.2).bind fun t231 => (if t231 = 1300 then ((pinfoldlaw0_Num.f bt215.2).bind fun t232 => (if t232 = 0 then (some (!bt219.2.2.2.2.2.2)) else (none))) else (none))) else (none))) else (none))) else (none)))))))) else (none)))) else (none)) else (none)) = some r := by first | (rw [hji13] at H; exact H) | (simp only [hji13] at H ⊢; exact H)
    have hji13w : (IntKind.i64.wrap (Int.tmod (IntKind.u64.wrap (a0)) 6)) = ji13 := (i64_w _).trans hji13
    by_cases c14 : 0 ≤ (ji13)
    rotate_left
    ·rw [if_neg c14] at H
     exact absurd H (by simp)
    rw [if_pos c14] at H
    have c14b0 : decide (0 ≤ (ji13)) = true := decide_eq_true c14
    clear c14
    by_cases c15 : (ji13) < (y188.length : Int)
    rotate_left
    ·rw [if_neg c15] at H
     exact absurd H (by simp)
    rw [if_pos c15] at H
    have c15b0 : decide ((ji13) < (y188.length : Int)) = true := decide_eq_true c15
    clear c15
    replace H := e4_ H
    obtain ⟨⟨t193, t196⟩, A160, H⟩ := H
    replace H : ((table_With.f y162 11 (wrap64 (-(wrap64 (1 + (Go.bits .and .i64 a1 63))))) (⟨#[]⟩ : ByteArray) 0 (⟨#[]⟩ : ByteArray) false).bind fun bt197 => (if 8 ≤ (x7_1.length : Int) then ((table_With.f (x7_1.take 8) 200 0 (⟨#[]⟩ : ByteArray) 0 (⟨#[]⟩ : ByteArray) false).bind fun bt206 => ((table_With.f (x7_1.take 8) 10 0 (⟨#[]⟩ : ByteArray) (wrap64 (1 + (Go.bits .and .i64 a1 63))) (⟨#[]⟩ : ByteArray) false).bind fun bt215 => ((table_Of.f (rd_L4 y188 (ji13)) (⟨#[109, 101]⟩ : ByteArray) 0).bind fun bt219 => ((table_May_c.f (rd_L4 y188 (ji13))).bind fun t227 => (if t227 = true then (none) else ((table_May_c.f y162).bind fun t228 => (if t228 = true then ((pinfoldlaw0_Num.f t196).bind fun t229 => (if t229 = 1300 then ((pinfoldlaw0_Num.f bt197.2).bind fun t230 => (if t230 = 1300 then ((pinfoldlaw0_Num.f bt206.2).bind fun t231 => (if t231 = 1300 then ((pinfoldlaw0_Num.f bt215.2).bind fun t232 => (if t232 = 0 then (some (!bt219.2.2.2.2.2.2)) else (none))) else (none))) else (none))) else (none))) else (none)))))))) else (none))) = some r := H
    have A16 := am_ A160
    clear A160
    replace H := e4_ H
    obtain ⟨⟨t197, t200⟩, A170, H⟩ := H
    replace H : (if 8 ≤ (x7_1.length : Int) then ((table_With.f (x7_1.take 8) 200 0 (⟨#[]⟩ : ByteArray) 0 (⟨#[]⟩ : ByteArray) false).bind fun bt206 => ((table_With.f (x7_1.take 8) 10 0 (⟨#[]⟩ : ByteArray) (wrap64 (1 + (Go.bits .and .i64 a1 63))) (⟨#[]⟩ : ByteArray) false).bind fun bt215 => ((table_Of.f (rd_L4 y188 (ji13)) (⟨#[109, 101]⟩ : ByteArray) 0).bind fun bt219 => ((table_May_c.f (rd_L4 y188 (ji13))).bind fun t227 => (if t227 = true then (none) else ((table_May_c.f y162).bind fun t228 => (if t228 = true then ((pinfoldlaw0_Num.f t196).bind fun t229 => (if t229 = 1300 then ((pinfoldlaw0_Num.f t200).bind fun t230 => (if t230 = 1300 then ((pinfoldlaw0_Num.f bt206.2).bind fun t231 => (if t231 = 1300 then ((pinfoldlaw0_Num.f bt215.2).bind fun t232 => (if t232 = 0 then (some (!bt219.2.2.2.2.2.2)) else (none))) else (none))) else (none))) else (none))) else (none)))))))) else (none)) = some r := H
    have A17 := am_ A170
    clear A170
    by_cases c18 : 8 ≤ (x7_1.length : Int)
    rotate_left
    ·rw [if_neg c18] at H
     exact absurd H (by simp)
    rw [if_pos c18] at H
    have c18b0 := eq_true c18
    have c18b1 : decide (8 ≤ (x7_1.length : Int)) = true := decide_eq_true c18
    clear c18
    obtain ⟨y201, hy201⟩ : ∃ y_ : List (S37), y_ = (x7_1.take 8) := ⟨_, rfl⟩
    replace H : ((table_With.f y201 200 0 (⟨#[]⟩ : ByteArray) 0 (⟨#[]⟩ : ByteArray) false).bind fun bt206 => ((table_With.f (x7_1.take 8) 10 0 (⟨#[]⟩ : ByteArray) (wrap64 (1 + (Go.bits .and .i64 a1 63))) (⟨#[]⟩ : ByteArray) false).bind fun bt215 => ((table_Of.f (rd_L4 y188 (ji13)) (⟨#[109, 101]⟩ : ByteArray) 0).bind fun bt219 => ((table_May_c.f (rd_L4 y188 (ji13))).bind fun t227 => (if t227 = true then (none) else ((table_May_c.f y162).bind fun t228 => (if t228 = true then ((pinfoldlaw0_Num.f t196).bind fun t229 => (if t229 = 1300 then ((pinfoldlaw0_Num.f t200).bind fun t230 => (if t230 = 1300 then ((pinfoldlaw0_Num.f bt206.2).bind fun t231 => (if t231 = 1300 then ((pinfoldlaw0_Num.f bt215.2).bind fun t232 => (if t232 = 0 then (some (!bt219.2.2.2.2.2.2)) else (none))) else (none))) else (none))) else (none))) else (none)))))))) = some r := by first | (rw [hy201]; with_reducible exact H) | (have H2_ := (Option.bind_some _ _).symm.trans H; rw [hy201]; with_reducible exact H2_) | (have H2_ := (Option.bind_some _ _).symm.trans H; with_reducible exact H2_) | with_reducible exact H | (rw [hy201]; exact H) | exact H
    have Ny201 := am_ hy201
    clear hy201
    replace H := e4_ H
    obtain ⟨⟨t206, t209⟩, A190, H⟩ := H
    replace H : ((table_With.f (x7_1.take 8) 10 0 (⟨#[]⟩ : ByteArray) (wrap64 (1 + (Go.bits .and .i64 a1 63))) (⟨#[]⟩ : ByteArray) false).bind fun bt215 => ((table_Of.f (rd_L4 y188 (ji13)) (⟨#[109, 101]⟩ : ByteArray) 0).bind fun bt219 => ((table_May_c.f (rd_L4 y188 (ji13))).bind fun t227 => (if t227 = true then (none) else ((table_May_c.f y162).bind fun t228 => (if t228 = true then ((pinfoldlaw0_Num.f t196).bind fun t229 => (if t229 = 1300 then ((pinfoldlaw0_Num.f t200).bind fun t230 => (if t230 = 1300 then ((pinfoldlaw0_Num.f t209).bind fun t231 => (if t231 = 1300 then ((pinfoldlaw0_Num.f bt215.2).bind fun t232 => (if t232 = 0 then (some (!bt219.2.2.2.2.2.2)) else (none))) else (none))) else (none))) else (none))) else (none))))))) = some r := H
    have A19 := am_ A190
    clear A190
    have c20b0 := eq_true (of_decide_eq_true (by first | (with_reducible assumption) | assumption) : 8 ≤ (x7_1.length : Int))
    obtain ⟨y210, hy210⟩ : ∃ y_ : List (S37), y_ = (x7_1.take 8) := ⟨_, rfl⟩
    replace H : ((table_With.f y210 10 0 (⟨#[]⟩ : ByteArray) (wrap64 (1 + (Go.bits .and .i64 a1 63))) (⟨#[]⟩ : ByteArray) false).bind fun bt215 => ((table_Of.f (rd_L4 y188 (ji13)) (⟨#[109, 101]⟩ : ByteArray) 0).bind fun bt219 => ((table_May_c.f (rd_L4 y188 (ji13))).bind fun t227 => (if t227 = true then (none) else ((table_May_c.f y162).bind fun t228 => (if t228 = true then ((pinfoldlaw0_Num.f t196).bind fun t229 => (if t229 = 1300 then ((pinfoldlaw0_Num.f t200).bind fun t230 => (if t230 = 1300 then ((pinfoldlaw0_Num.f t209).bind fun t231 => (if t231 = 1300 then ((pinfoldlaw0_Num.f bt215.2).bind fun t232 => (if t232 = 0 then (some (!bt219.2.2.2.2.2.2)) else (none))) else (none))) else (none))) else (none))) else (none))))))) = some r := by first | (rw [hy210]; with_reducible exact H) | (have H2_ := (Option.bind_some _ _).symm.trans H; rw [hy210]; with_reducible exact H2_) | (have H2_ := (Option.bind_some _ _).symm.trans H; with_reducible exact H2_) | with_reducible exact H | (rw [hy210]; exact H) | exact H
    have Ny210 := am_ hy210
    clear hy210
    replace H := e4_ H
    obtain ⟨⟨t215, t218⟩, A210, H⟩ := H
    replace H : ((table_Of.f (rd_L4 y188 (ji13)) (⟨#[109, 101]⟩ : ByteArray) 0).bind fun bt219 => ((table_May_c.f (rd_L4 y188 (ji13))).bind fun t227 => (if t227 = true then (none) else ((table_May_c.f y162).bind fun t228 => (if t228 = true then ((pinfoldlaw0_Num.f t196).bind fun t229 => (if t229 = 1300 then ((pinfoldlaw0_Num.f t200).bind fun t230 => (if t230 = 1300 then ((pinfoldlaw0_Num.f t209).bind fun t231 => (if t231 = 1300 then ((pinfoldlaw0_Num.f t218).bind fun t232 => (if t232 = 0 then (some (!bt219.2.2.2.2.2.2)) else (none))) else (none))) else (none))) else (none))) else (none)))))) = some r := H
    have A21 := am_ A210
    clear A210
    replace H := e4_ H
    obtain ⟨⟨t219, t220, t221, t222, t223, t224, t225⟩, A220, H⟩ := H
    replace H : ((table_May_c.f (rd_L4 y188 (ji13))).bind fun t227 => (if t227 = true then (none) else ((table_May_c.f y162).bind fun t228 => (if t228 = true then ((pinfoldlaw0_Num.f t196).bind fun t229 => (if t229 = 1300 then ((pinfoldlaw0_Num.f t200).bind fun t230 => (if t230 = 1300 then ((pinfoldlaw0_Num.f t209).bind fun t231 => (if t231 = 1300 then ((pinfoldlaw0_Num.f t218).bind fun t232 => (if t232 = 0 then (some (!t225)) else (none))) else (none))) else (none))) else (none))) else (none))))) = some r := H
    have A22 := am_ A220
    clear A220
    replace H := e4_ H
    obtain ⟨t227, A230, H⟩ := H
    replace H : (if t227 = true then (none) else ((table_May_c.f y162).bind fun t228 => (if t228 = true then ((pinfoldlaw0_Num.f t196).bind fun t229 => (if t229 = 1300 then ((pinfoldlaw0_Num.f t200).bind fun t230 => (if t230 = 1300 then ((pinfoldlaw0_Num.f t209).bind fun t231 => (if t231 = 1300 then ((pinfoldlaw0_Num.f t218).bind fun t232 => (if t232 = 0 then (some (!t225)) else (none))) else (none))) else (none))) else (none))) else (none)))) = some r := H
    have A23 := am_ A230
    clear A230
    by_cases c24 : t227 = true
    ·subst c24
     have H1 : (none) = some r := by rw [if_pos rfl] at H; exact H
     clear H
     have H := H1
     clear H1
     exact absurd H (by simp)
    replace c24 := e3_ c24
    subst c24
    have H1 : ((table_May_c.f y162).bind fun t228 => (if t228 = true then ((pinfoldlaw0_Num.f t196).bind fun t229 => (if t229 = 1300 then ((pinfoldlaw0_Num.f t200).bind fun t230 => (if t230 = 1300 then ((pinfoldlaw0_Num.f t209).bind fun t231 => (if t231 = 1300 then ((pinfoldlaw0_Num.f t218).bind fun t232 => (if t232 = 0 then (some (!t225)) else (none))) else (none))) else (none))) else (none))) else (none))) = some r := by rw [if_neg (show ¬ (false = true) by decide)] at H; exact H
    clear H
    have H := H1
    clear H1
    replace H := e4_ H
    obtain ⟨t228, A250, H⟩ := H
    replace H : (if t228 = true then ((pinfoldlaw0_Num.f t196).bind fun t229 => (if t229 = 1300 then ((pinfoldlaw0_Num.f t200).bind fun t230 => (if t230 = 1300 then ((pinfoldlaw0_Num.f t209).bind fun t231 => (if t231 = 1300 then ((pinfoldlaw0_Num.f t218).bind fun t232 => (if t232 = 0 then (some (!t225)) else (none))) else (none))) else (none))) else (none))) else (none)) = some r := H
    have A25 := am_ A250
    clear A250
    by_cases c26 : t228 = true
    ·subst c26
     have H1 : ((pinfoldlaw0_Num.f t196).bind fun t229 => (if t229 = 1300 then ((pinfoldlaw0_Num.f t200).bind fun t230 => (if t230 = 1300 then ((pinfoldlaw0_Num.f t209).bind fun t231 => (if t231 = 1300 then ((pinfoldlaw0_Num.f t218).bind fun t232 => (if t232 = 0 then (some (!t225)) else (none))) else (none))) else (none))) else (none))) = some r := by rw [if_pos rfl] at H; exact H
     clear H
     have H := H1
     clear H1
     replace H := e4_ H
     obtain ⟨t229, A270, H⟩ := H
     replace H : (if t229 = 1300 then ((pinfoldlaw0_Num.f t200).bind fun t230 => (if t230 = 1300 then ((pinfoldlaw0_Num.f t209).bind fun t231 => (if t231 = 1300 then ((pinfoldlaw0_Num.f t218).bind fun t232 => (if t232 = 0 then (some (!t225)) else (none))) else (none))) else (none))) else (none)) = some r := H
     have A27 := am_ A270
     clear A270
     by_cases c28 : t229 = 1300
     rotate_left
     ·rw [if_neg c28] at H
      exact absurd H (by simp)
     rw [if_pos c28] at H
     have c28b0 : (t229 == 1300) = true := beq_iff_eq.mpr c28
     have c28b1 : (t229 != 1300) = false := e1_ c28
     clear c28
     replace H := e4_ H
     obtain ⟨t230, A290, H⟩ := H
     replace H : (if t230 = 1300 then ((pinfoldlaw0_Num.f t209).bind fun t231 => (if t231 = 1300 then ((pinfoldlaw0_Num.f t218).bind fun t232 => (if t232 = 0 then (some (!t225)) else (none))) else (none))) else (none)) = some r := H
     have A29 := am_ A290
     clear A290
     by_cases c30 : t230 = 1300
     rotate_left
     ·rw [if_neg c30] at H
      exact absurd H (by simp)
     rw [if_pos c30] at H
     have c30b0 : (t230 == 1300) = true := beq_iff_eq.mpr c30
     have c30b1 : (t230 != 1300) = false := e1_ c30
     clear c30
     replace H := e4_ H
     obtain ⟨t231, A310, H⟩ := H
     replace H : (if t231 = 1300 then ((pinfoldlaw0_Num.f t218).bind fun t232 => (if t232 = 0 then (some (!t225)) else (none))) else (none)) = some r := H
     have A31 := am_ A310
     clear A310
     by_cases c32 : t231 = 1300
     rotate_left
     ·rw [if_neg c32] at H
      exact absurd H (by simp)
     rw [if_pos c32] at H
     have c32b0 : (t231 == 1300) = true := beq_iff_eq.mpr c32
     have c32b1 : (t231 != 1300) = false := e1_ c32
     clear c32
     replace H := e4_ H
     obtain ⟨t232, A330, H⟩ := H
     replace H : (if t232 = 0 then (some (!t225)) else (none)) = some r := H
     have A33 := am_ A330
     clear A330
     by_cases c34 : t232 = 0
     rotate_left
     ·rw [if_neg c34] at H
      exact absurd H (by simp)
     rw [if_pos c34] at H
     have c34b0 : (t232 == 0) = true := beq_iff_eq.mpr c34
     have c34b1 : (t232 != 0) = false := e1_ c34
     clear c34
     obtain rfl := e5_ H
     try go_wp2
     have n0_ := am_ (r3_ HO_6.out)
     have n1_ := am_ (r3_ HO_7.out)
     have n2_ := am_ (p2_ HB.out)
     clear HO_6
     clear HO_7
     clear HB
     have HO_6 := n0_
     have HO_7 := n1_
     have HB := n2_
     clear n0_ n1_ n2_
     obtain ⟨Ao36, co36, eo36⟩ := Kd.R_slice HO_6.out
     (first | subst eo36 | (injection eo36 with f1_ f2_ f3_; have f4_ := f1_.symm; have f5_ := f3_.symm; clear f1_ f2_ f3_; subst f4_; subst f5_))
     have p168 : 0 ≤ (1 : Int) := (by omega)
     have q168 : 1 < (y162.length : Int) := of_decide_eq_true (by first | (with_reducible assumption) | assumption)
     obtain ⟨ad168, e168, hx168_0, hx168_1, hx168_2, hx168_3, hx168_4, hx168_5⟩ := at_T37 (Kd.R_reads' HO_6.out).2.2 1 p168 q168
     cases e168
     (try simp only [show (1 : Int).toNat = 1 from rfl, Nat.reduceMul, Nat.reduceEqDiff, Go.Addr.add, ↓reduceIte] at hx168_0)
     (try simp only [show (1 : Int).toNat = 1 from rfl, Nat.reduceMul, Nat.reduceEqDiff, Go.Addr.add, ↓reduceIte] at hx168_1)
     (try simp only [show (1 : Int).toNat = 1 from rfl, Nat.reduceMul, Nat.reduceEqDiff, Go.Addr.add, ↓reduceIte] at hx168_2)
     (try simp only [show (1 : Int).toNat = 1 from rfl, Nat.reduceMul, Nat.reduceEqDiff, Go.Addr.add, ↓reduceIte] at hx168_3)
     (try simp only [show (1 : Int).toNat = 1 from rfl, Nat.reduceMul, Nat.reduceEqDiff, Go.Addr.add, ↓reduceIte] at hx168_4)
     (try simp only [show (1 : Int).toNat = 1 from rfl, Nat.reduceMul, Nat.reduceEqDiff, Go.Addr.add, ↓reduceIte] at hx168_5)
     have qi168 : (1 < y162.length) = True := eq_true (by omega)
     (try rw [show ((1 : Int)).toNat = 1 from rfl] at hx168_0)
     (try rw [show 1 * 6 = 6 from rfl] at hx168_0)
     (try rw [show ((1 : Int)).toNat = 1 from rfl] at hx168_1)
     (try rw [show 1 * 6 = 6 from rfl] at hx168_1)
     (try rw [show ((1 : Int)).toNat = 1 from rfl] at hx168_2)
     (try rw [show 1 * 6 = 6 from rfl] at hx168_2)
     (try rw [show ((1 : Int)).toNat = 1 from rfl] at hx168_3)
     (try rw [show 1 * 6 = 6 from rfl] at hx168_3)
     (try rw [show ((1 : Int)).toNat = 1 from rfl] at hx168_4)
     (try rw [show 1 * 6 = 6 from rfl] at hx168_4)
     (try rw [show ((1 : Int)).toNat = 1 from rfl] at hx168_5)
     (try rw [show 1 * 6 = 6 from rfl] at hx168_5)
     replace p168 := eq_true p168
     replace q168 := eq_true q168
     have p169 : 0 ≤ (0 : Int) := (by omega)
     have q169 : 0 < (y162.length : Int) := of_decide_eq_true (by first | (with_reducible assumption) | assumption)
     obtain ⟨ad169, e169, hx169_0, hx169_1, hx169_2, hx169_3, hx169_4, hx169_5⟩ := at_T37 (Kd.R_reads' HO_6.out).2.2 0 p169 q169
     obtain rfl : ad168 = ad169 := (by injection e169)
     have qi169 : (0 < y162.length) = True := eq_true (by omega)
     (try rw [show ((0 : Int)).toNat = 0 from rfl] at hx169_0)
     (try rw [show 0 * 6 = 0 from rfl] at hx169_0)
     (try rw [z0_] at hx169_0)
     (try rw [show ((0 : Int)).toNat = 0 from rfl] at hx169_1)
     (try rw [show 0 * 6 = 0 from rfl] at hx169_1)
     (try rw [z0_] at hx169_1)
     (try rw [show ((0 : Int)).toNat = 0 from rfl] at hx169_2)
     (try rw [show 0 * 6 = 0 from rfl] at hx169_2)
     (try rw [z0_] at hx169_2)
     (try rw [show ((0 : Int)).toNat = 0 from rfl] at hx169_3)
     (try rw [show 0 * 6 = 0 from rfl] at hx169_3)
     (try rw [z0_] at hx169_3)
     (try rw [show ((0 : Int)).toNat = 0 from rfl] at hx169_4)
     (try rw [show 0 * 6 = 0 from rfl] at hx169_4)
     (try rw [z0_] at hx169_4)
     (try rw [show ((0 : Int)).toNat = 0 from rfl] at hx169_5)
     (try rw [show 0 * 6 = 0 from rfl] at hx169_5)
     (try rw [z0_] at hx169_5)
     replace p169 := eq_true p169
     replace q169 := eq_true q169
     have p173 : 0 ≤ (0 : Int) := (by omega)
     have q173 : 0 < (y162.length : Int) := of_decide_eq_true (by first | (with_reducible assumption) | assumption)
     obtain ⟨ad173, e173, hx173_0, hx173_1, hx173_2, hx173_3, hx173_4, hx173_5⟩ := at_T37 (Kd.R_reads' HO_6.out).2.2 0 p173 q173
     obtain rfl : ad168 = ad173 := (by injection e173)
     have qi173 : (0 < y162.length) = True := eq_true (by omega)
     (try rw [show ((0 : Int)).toNat = 0 from rfl] at hx173_0)
     (try rw [show 0 * 6 = 0 from rfl] at hx173_0)
     (try rw [z0_] at hx173_0)
     (try rw [show ((0 : Int)).toNat = 0 from rfl] at hx173_1)
     (try rw [show 0 * 6 = 0 from rfl] at hx173_1)
     (try rw [z0_] at hx173_1)
     (try rw [show ((0 : Int)).toNat = 0 from rfl] at hx173_2)
     (try rw [show 0 * 6 = 0 from rfl] at hx173_2)
     (try rw [z0_] at hx173_2)
     (try rw [show ((0 : Int)).toNat = 0 from rfl] at hx173_3)
     (try rw [show 0 * 6 = 0 from rfl] at hx173_3)
     (try rw [z0_] at hx173_3)
     (try rw [show ((0 : Int)).toNat = 0 from rfl] at hx173_4)
     (try rw [show 0 * 6 = 0 from rfl] at hx173_4)
     (try rw [z0_] at hx173_4)
     (try rw [show ((0 : Int)).toNat = 0 from rfl] at hx173_5)
     (try rw [show 0 * 6 = 0 from rfl] at hx173_5)
     (try rw [z0_] at hx173_5)
     replace p173 := eq_true p173
     replace q173 := eq_true q173
     have p174 : 0 ≤ (0 : Int) := (by omega)
     have q174 : 0 < (y162.length : Int) := of_decide_eq_true (by first | (with_reducible assumption) | assumption)
     obtain ⟨ad174, e174, hx174_0, hx174_1, hx174_2, hx174_3, hx174_4, hx174_5⟩ := at_T37 (Kd.R_reads' HO_6.out).2.2 0 p174 q174
     obtain rfl : ad168 = ad174 := (by injection e174)
     have qi174 : (0 < y162.length) = True := eq_true (by omega)
     (try rw [show ((0 : Int)).toNat = 0 from rfl] at hx174_0)
     (try rw [show 0 * 6 = 0 from rfl] at hx174_0)
     (try rw [z0_] at hx174_0)
     (try rw [show ((0 : Int)).toNat = 0 from rfl] at hx174_1)
     (try rw [show 0 * 6 = 0 from rfl] at hx174_1)
     (try rw [z0_] at hx174_1)
     (try rw [show ((0 : Int)).toNat = 0 from rfl] at hx174_2)
     (try rw [show 0 * 6 = 0 from rfl] at hx174_2)
     (try rw [z0_] at hx174_2)
     (try rw [show ((0 : Int)).toNat = 0 from rfl] at hx174_3)
     (try rw [show 0 * 6 = 0 from rfl] at hx174_3)
     (try rw [z0_] at hx174_3)
     (try rw [show ((0 : Int)).toNat = 0 from rfl] at hx174_4)
     (try rw [show 0 * 6 = 0 from rfl] at hx174_4)
     (try rw [z0_] at hx174_4)
     (try rw [show ((0 : Int)).toNat = 0 from rfl] at hx174_5)
     (try rw [show 0 * 6 = 0 from rfl] at hx174_5)
     (try rw [z0_] at hx174_5)
     replace p174 := eq_true p174
     replace q174 := eq_true q174
     have p184 : 0 ≤ (0 : Int) := (by omega)
     have q184 : 0 < (y162.length : Int) := of_decide_eq_true (by first | (with_reducible assumption) | assumption)
     obtain ⟨ad184, e184, hx184_0, hx184_1, hx184_2, hx184_3, hx184_4, hx184_5⟩ := at_T37 (Kd.R_reads' HO_6.out).2.2 0 p184 q184
     obtain rfl : ad168 = ad184 := (by injection e184)
     have qi184 : (0 < y162.length) = True := eq_true (by omega)
     (try rw [show ((0 : Int)).toNat = 0 from rfl] at hx184_0)
     (try rw [show 0 * 6 = 0 from rfl] at hx184_0)
     (try rw [z0_] at hx184_0)
     (try rw [show ((0 : Int)).toNat = 0 from rfl] at hx184_1)
     (try rw [show 0 * 6 = 0 from rfl] at hx184_1)
     (try rw [z0_] at hx184_1)
     (try rw [show ((0 : Int)).toNat = 0 from rfl] at hx184_2)
     (try rw [show 0 * 6 = 0 from rfl] at hx184_2)
     (try rw [z0_] at hx184_2)
     (try rw [show ((0 : Int)).toNat = 0 from rfl] at hx184_3)
     (try rw [show 0 * 6 = 0 from rfl] at hx184_3)
     (try rw [z0_] at hx184_3)
     (try rw [show ((0 : Int)).toNat = 0 from rfl] at hx184_4)
     (try rw [show 0 * 6 = 0 from rfl] at hx184_4)
     (try rw [z0_] at hx184_4)
     (try rw [show ((0 : Int)).toNat = 0 from rfl] at hx184_5)
     (try rw [show 0 * 6 = 0 from rfl] at hx184_5)
     (try rw [z0_] at hx184_5)
     replace p184 := eq_true p184
     replace q184 := eq_true q184
     obtain ⟨AoM_, coM_, eoM_⟩ := Kd.R_slice HO_7.out
     subst eoM_
     refine start_ (n := 28) (S := fun w' => True) (ds := []) #[false, false, false, false, false, false, false, false, false, false, false, false, false, false, false, false, false, false, false, false, false, false, false, false, false, false, false, false] (by kernel_rfl) rfl rfl trivial (fun hHeld => ?_); refine with_tabW pinfoldlaw13_TableForms.tab10 pinfoldlaw13_TableForms.bits10 (fun HT_ HW_ => ?_)
     generalize wr.drew = w35 at HO_6 HO_7 HB hx168_0 hx168_1 hx168_2 hx168_3 hx168_4 hx168_5 hx169_0 hx169_1 hx169_2 hx169_3 hx169_4 hx169_5 hx173_0 hx173_1 hx173_2 hx173_3 hx173_4 hx173_5 hx174_0 hx174_1 hx174_2 hx174_3 hx174_4 hx174_5 hx184_0 hx184_1 hx184_2 hx184_3 hx184_4 hx184_5 hHeld ⊢
     refine pure_ (i := 0) (N := some 39) (v := ?_) (a' := ?_) #[true, false, false, false, false, false, false, false, false, false, false, false, false, false, false, false, false, false, false, false, false, false, false, false, false, false, false, false] rfl rfl (any_of HT_.out (by kernel_rfl)) (fun _ _ _ h => h) (Or.inl ⟨by rfl, ?_⟩) ?_ ?_
     rotate_left
     ·intro w'
      go_simp
      with_reducible rfl
     rotate_left
     ·simp only [Act.put, sa_, sb_, sc_, i64_w, i32_w]
      rfl
     refine pure_ (i := 3) (N := some 42) (v := ?_) (a' := ?_) #[true, false, false, true, false, false, false, false, false, false, false, false, false, false, false, false, false, false, false, false, false, false, false, false, false, false, false, false] rfl rfl (any_of HT_.out (by kernel_rfl)) (fun _ _ _ h => h) (Or.inl ⟨by rfl, ?_⟩) ?_ ?_
     rotate_left
     ·intro w'
      go_simp
      with_reducible rfl
     rotate_left
     ·simp only [Act.put, sa_, sb_, sc_, i64_w, i32_w]
      rfl
     refine pure_ (i := 7) (N := some 46) (v := ?_) (a' := ?_) #[true, false, false, true, false, false, false, true, false, false, false, false, false, false, false, false, false, false, false, false, false, false, false, false, false, false, false, false] rfl rfl (any_of HT_.out (by kernel_rfl)) (fun _ _ _ h => h) (Or.inl ⟨by rfl, ?_⟩) ?_ ?_
     rotate_left
     ·intro w'
      go_simp
      with_reducible rfl
     rotate_left
     ·simp only [Act.put, sa_, sb_, sc_, i64_w, i32_w]
      rfl
     refine pure_ (i := 10) (N := some 49) (v := ?_) (a' := ?_) #[true, false, false, true, false, false, false, true, false, false, true, false, false, false, false, false, false, false, false, false, false, false, false, false, false, false, false, false] rfl rfl (any_of HT_.out (by kernel_rfl)) (fun _ _ _ h => h) (Or.inl ⟨by rfl, ?_⟩) ?_ ?_
     rotate_left
     ·intro w'
      go_simp
      with_reducible rfl
     rotate_left
     ·simp only [Act.put, sa_, sb_, sc_, i64_w, i32_w]
      rfl
     refine pure_ (i := 16) (N := some 55) (v := ?_) (a' := ?_) #[true, false, false, true, false, false, false, true, false, false, true, false, false, false, false, false, true, false, false, false, false, false, false, false, false, false, false, false] rfl rfl (any_of HT_.out (by kernel_rfl)) (fun _ _ _ h => h) (Or.inl ⟨by rfl, ?_⟩) ?_ ?_
     rotate_left
     ·intro w'
      go_simp
      with_reducible rfl
     rotate_left
     ·simp only [Act.put, sa_, sb_, sc_, i64_w, i32_w]
      rfl
     refine pure_ (i := 20) (N := some 59) (v := ?_) (a' := ?_) #[true, false, false, true, false, false, false, true, false, false, true, false, false, false, false, false, true, false, false, false, true, false, false, false, false, false, false, false] rfl rfl (any_of HT_.out (by kernel_rfl)) (fun _ _ _ h => h) (Or.inl ⟨by rfl, ?_⟩) ?_ ?_
     rotate_left
     ·intro w'
      go_simp
      with_reducible rfl
     rotate_left
     ·simp only [Act.put, sa_, sb_, sc_, i64_w, i32_w]
      rfl
     refine pure_ (i := 21) (N := some 60) (v := ?_) (a' := ?_) #[true, false, false, true, false, false, false, true, false, false, true, false, false, false, false, false, true, false, false, false, true, true, false, false, false, false, false, false] rfl rfl (any_of HT_.out (by kernel_rfl)) (fun _ _ _ h => h) (Or.inl ⟨by rfl, ?_⟩) ?_ ?_
     rotate_left
     ·intro w'
      go_simp
      with_reducible rfl
     rotate_left
     ·simp only [Act.put, sa_, sb_, sc_, i64_w, i32_w]
      rfl
     refine inv_at [1, 2, 4, 5, 6, 8, 9, 11, 12, 13, 14, 15, 17, 18, 19, 22, 23, 24, 25, 26, 27] (fun a0_ b a w' => ∃ (v171 : Value) (v176 : Value) (v179 : Value) (v182 : Value) (v186 : Value) (v189 : Value) (m27_ : Value), a = putSel a0_ b [(1, 40, .pointer (some (ad168.add 6))), (2, 41, .agg #[.int .i64 ((rd_T37 y162 1).f0), .int .i64 ((rd_T37 y162 1).f1), .string ((rd_T37 y162 1).f2), .int .i64 ((rd_T37 y162 1).f3), .string ((rd_T37 y162 1).f4), .bool ((rd_T37 y162 1).f5)]), (4, 43, .pointer (some ad168)), (5, 44, .agg #[.int .i64 ((rd_T37 y162 0).f0), .int .i64 ((rd_T37 y162 0).f1), .string ((rd_T37 y162 0).f2), .int .i64 ((rd_T37 y162 0).f3), .string ((rd_T37 y162 0).f4), .bool ((rd_T37 y162 0).f5)]), (6, 45, v171), (8, 47, .pointer (some ad168)), (9, 48, .agg #[.int .i64 ((rd_T37 y162 0).f0), .int .i64 ((rd_T37 y162 0).f1), .string ((rd_T37 y162 0).f2), .int .i64 ((rd_T37 y162 0).f3), .string ((rd_T37 y162 0).f4), .bool ((rd_T37 y162 0).f5)]), (11, 50, .pointer (some ad168)), (12, 51, .agg #[.int .i64 ((rd_T37 y162 0).f0), .int .i64 ((rd_T37 y162 0).f1), .string ((rd_T37 y162 0).f2), .int .i64 ((rd_T37 y162 0).f3), .string ((rd_T37 y162 0).f4), .bool ((rd_T37 y162 0).f5)]), (13, 52, v176), (14, 53, .agg #[.int .i64 1, .int .i64 0, .string (⟨#[]⟩ : ByteArray), .int .i64 0, .string (⟨#[]⟩ : ByteArray), .bool false]), (15, 54, v179), (17, 56, .int .i64 (wrap64 (254 + (wrap64 (1 + (Go.bits .and .i64 a1 63)))))), (18, 57, .agg #[.int .i64 (wrap64 (254 + (wrap64 (1 + (Go.bits .and .i64 a1 63))))), .int .i64 0, .string (⟨#[]⟩ : ByteArray), .int .i64 0, .string (⟨#[]⟩ : ByteArray), .bool false]), (19, 58, v182), (22, 61, .pointer (some ad168)), (23, 62, .agg #[.int .i64 ((rd_T37 y162 0).f0), .int .i64 ((rd_T37 y162 0).f1), .string ((rd_T37 y162 0).f2), .int .i64 ((rd_T37 y162 0).f3), .string ((rd_T37 y162 0).f4), .bool ((rd_T37 y162 0).f5)]), (24, 63, .agg #[.int .i64 11, .int .i64 2, .string (⟨#[]⟩ : ByteArray), .int .i64 0, .string (⟨#[]⟩ : ByteArray), .bool false]), (25, 64, v186), (26, 65, v189), (27, 9, m27_)] ∧ (b 26 = false → Kd.R k37 37 w' w.heap.size (fun k_ => some k_ ≠ (.slice AoM_ x7_1.length coM_ : Value).ownBlock) (.slice (some ad168) y162.length co36) y162) ∧ (b 26 = false → Kd.R k37 37 w' w.heap.size (fun k_ => some k_ ≠ (.slice (some ad168) y162.length co36 : Value).ownBlock) (.slice AoM_ x7_1.length coM_) x7_1) ∧ (Below w.heap.size w w') ∧ (b 6 = true → b 26 = false → Kd.R k37 37 w' w.heap.size (fun k_ => some k_ ≠ (.slice (some ad168) y162.length co36 : Value).ownBlock ∧ some k_ ≠ (.slice AoM_ x7_1.length coM_ : Value).ownBlock) v171 y170) ∧ (b 13 = true → b 26 = false → Kd.R k37 37 w' w.heap.size (fun k_ => some k_ ≠ (.slice (some ad168) y162.length co36 : Value).ownBlock ∧ some k_ ≠ (.slice AoM_ x7_1.length coM_ : Value).ownBlock) v176 y175) ∧ (b 15 = true → b 26 = false → Kd.R k37 37 w' w.heap.size (fun k_ => some k_ ≠ (.slice (some ad168) y162.length co36 : Value).ownBlock ∧ some k_ ≠ (.slice AoM_ x7_1.length coM_ : Value).ownBlock) v179 y178) ∧ (b 19 = true → b 26 = false → Kd.R k37 37 w' w.heap.size (fun k_ => some k_ ≠ (.slice (some ad168) y162.length co36 : Value).ownBlock ∧ some k_ ≠ (.slice AoM_ x7_1.length coM_ : Value).ownBlock) v182 y181) ∧ (b 25 = true → b 26 = false → Kd.R k37 37 w' w.heap.size (fun k_ => some k_ ≠ (.slice (some ad168) y162.length co36 : Value).ownBlock ∧ some k_ ≠ (.slice AoM_ x7_1.length coM_ : Value).ownBlock) v186 y185) ∧ (b 26 = true → Kd.N (Kd.slice 37 k37) 27 w' w.heap.size (fun k_ => some k_ ≠ (.slice (some ad168) y162.length co36 : Value).ownBlock) v189 y188) ∧ (b 26 = true → Kd.R k37 37 w' w.heap.size (fun k_ => some k_ ≠ (.slice AoM_ x7_1.length coM_ : Value).ownBlock) (.slice (some ad168) y162.length co36) y162) ∧ (b 26 = true → Kd.R k37 37 w' w.heap.size (fun k_ => some k_ ≠ (.slice (some ad168) y162.length co36 : Value).ownBlock) (.slice AoM_ x7_1.length coM_) x7_1) ∧ (b 27 = true → (m27_ : Value) = v189)) HT_.out HW_.out (by kernel_rfl) (by kernel_rfl) ?_ ?_ ?_
     ·exact ⟨.bool false, .bool false, .bool false, .bool false, .bool false, .bool false, .bool false, by simp only [putSel, Bool.false_eq_true, if_false], fun _ => HO_6.out, fun _ => HO_7.out, HB.out, fun h_ => absurd h_ (by decide), fun h_ => absurd h_ (by decide), fun h_ => absurd h_ (by decide), fun h_ => absurd h_ (by decide), fun h_ => absurd h_ (by decide), fun h_ => absurd h_ (by decide), fun h_ => absurd h_ (by decide), fun h_ => absurd h_ (by decide), fun h_ => absurd h_ (by decide)⟩
     ·skip
      clear HB HO_6 HO_7
      refine steps_cons ?_ ?_
      ·rintro b a w' ⟨v171, v176, v179, v182, v186, v189, m27_, ha, Q_HO_6, Q_HO_7, Q_HB, Q_HO172, Q_HO177, Q_HO180, Q_HO183, Q_HO187, Q_HO190, Q_HO_6_e26, Q_HO_7_e26, Q_X27_⟩ hb_ hon hoff
       refine ⟨_, rfl, fun K hK => ?_⟩
       have e39 : a.tmps[39]? = some (.slice (some ad168) y162.length co36) := by rw [ha]; exact (putSel_off rfl).trans rfl
       replace ha := am_ ha
       have HO_6 := am_ (Q_HO_6 (hoff 26 (by kernel_rfl)))
       have HO_7 := am_ (Q_HO_7 (hoff 26 (by kernel_rfl)))
       have HB := am_ Q_HB
       refine value_ (w1 := w') (v := .pointer (some (ad168.add 6))) (by rfl) rfl ?_ ?_
       ·go_simp
        (try simp only [i64_w])
        try rfl
       refine hK.out _ _ ⟨v171, v176, v179, v182, v186, v189, m27_, (by rw [ha.out]; exact putSel_upk 0 hb_ rfl rfl rfl), Q_HO_6, Q_HO_7, Q_HB, fun h0_ _ => absurd ((hoff 6 (by kernel_rfl)).symm.trans h0_) (by decide), Q_HO177, Q_HO180, Q_HO183, Q_HO187, fun h0_ => absurd ((hoff 26 (by kernel_rfl)).symm.trans h0_) (by decide), fun h0_ => absurd ((hoff 26 (by kernel_rfl)).symm.trans h0_) (by decide), fun h0_ => absurd ((hoff 26 (by kernel_rfl)).symm.trans h0_) (by decide), fun h0_ => absurd ((hoff 27 (by kernel_rfl)).symm.trans h0_) (by decide)⟩
      refine steps_cons ?_ ?_
      ·rintro b a w' ⟨v171, v176, v179, v182, v186, v189, m27_, ha, Q_HO_6, Q_HO_7, Q_HB, Q_HO172, Q_HO177, Q_HO180, Q_HO183, Q_HO187, Q_HO190, Q_HO_6_e26, Q_HO_7_e26, Q_X27_⟩ hb_ hon hoff
       refine ⟨_, rfl, fun K hK => ?_⟩
       have e40 : a.tmps[40]? = some (.pointer (some (ad168.add 6))) := by rw [ha]; exact putSel_on (e := (1, 40, .pointer (some (ad168.add 6)))) 0 rfl rfl (hon 1 (by kernel_rfl)) rfl
       replace ha := am_ ha
       have HO_6 := am_ (Q_HO_6 (hoff 26 (by kernel_rfl)))
       have HO_7 := am_ (Q_HO_7 (hoff 26 (by kernel_rfl)))
       have HB := am_ Q_HB
       obtain ⟨ad168_z, e168_z, hx168_0_z, hx168_1_z, hx168_2_z, hx168_3_z, hx168_4_z, hx168_5_z⟩ := at_T37 (Kd.R_reads' HO_6.out).2.2 1 (of_eq_true p168) (of_eq_true q168)
       cases e168_z
       have hs0_ : w'.cell? ⟨ad168.block, ad168.off + 6, none⟩ = some (.int .i64 ((rd_T37 y162 1).f0)) := (by first | exact hx168_0_z | (have h_ := hx168_0_z; (try simp only [Int.reduceToNat, Nat.zero_mul, Nat.reduceMul, Nat.reduceEqDiff, Go.Addr.add, ↓reduceIte, z0_] at h_); exact h_))
       have hs1_ : w'.cell? ⟨ad168.block, ad168.off + 6 + 1, none⟩ = some (.int .i64 ((rd_T37 y162 1).f1)) := (by first | exact hx168_1_z | (have h_ := hx168_1_z; (try simp only [Int.reduceToNat, Nat.zero_mul, Nat.reduceMul, Nat.reduceEqDiff, Go.Addr.add, ↓reduceIte, z0_] at h_); exact h_))
       have hs2_ : w'.cell? ⟨ad168.block, ad168.off + 6 + 2, none⟩ = some (.string ((rd_T37 y162 1).f2)) := (by first | exact hx168_2_z | (have h_ := hx168_2_z; (try simp only [Int.reduceToNat, Nat.zero_mul, Nat.reduceMul, Nat.reduceEqDiff, Go.Addr.add, ↓reduceIte, z0_] at h_); exact h_))
       have hs3_ : w'.cell? ⟨ad168.block, ad168.off + 6 + 3, none⟩ = some (.int .i64 ((rd_T37 y162 1).f3)) := (by first | exact hx168_3_z | (have h_ := hx168_3_z; (try simp only [Int.reduceToNat, Nat.zero_mul, Nat.reduceMul, Nat.reduceEqDiff, Go.Addr.add, ↓reduceIte, z0_] at h_); exact h_))
       have hs4_ : w'.cell? ⟨ad168.block, ad168.off + 6 + 4, none⟩ = some (.string ((rd_T37 y162 1).f4)) := (by first | exact hx168_4_z | (have h_ := hx168_4_z; (try simp only [Int.reduceToNat, Nat.zero_mul, Nat.reduceMul, Nat.reduceEqDiff, Go.Addr.add, ↓reduceIte, z0_] at h_); exact h_))
       have hs5_ : w'.cell? ⟨ad168.block, ad168.off + 6 + 5, none⟩ = some (.bool ((rd_T37 y162 1).f5)) := (by first | exact hx168_5_z | (have h_ := hx168_5_z; (try simp only [Int.reduceToNat, Nat.zero_mul, Nat.reduceMul, Nat.reduceEqDiff, Go.Addr.add, ↓reduceIte, z0_] at h_); exact h_))
       refine value_ (w1 := w') (v := .agg #[.int .i64 ((rd_T37 y162 1).f0), .int .i64 ((rd_T37 y162 1).f1), .string ((rd_T37 y162 1).f2), .int .i64 ((rd_T37 y162 1).f3), .string ((rd_T37 y162 1).f4), .bool ((rd_T37 y162 1).f5)]) (by rfl) rfl ?_ ?_
       ·go_simp
        (try simp only [i64_w])
        try rfl
       refine hK.out _ _ ⟨v171, v176, v179, v182, v186, v189, m27_, (by rw [ha.out]; exact putSel_upk 1 hb_ rfl rfl rfl), Q_HO_6, Q_HO_7, Q_HB, fun h0_ _ => absurd ((hoff 6 (by kernel_rfl)).symm.trans h0_) (by decide), Q_HO177, Q_HO180, Q_HO183, Q_HO187, fun h0_ => absurd ((hoff 26 (by kernel_rfl)).symm.trans h0_) (by decide), fun h0_ => absurd ((hoff 26 (by kernel_rfl)).symm.trans h0_) (by decide), fun h0_ => absurd ((hoff 26 (by kernel_rfl)).symm.trans h0_) (by decide), fun h0_ => absurd ((hoff 27 (by kernel_rfl)).symm.trans h0_) (by decide)⟩
      refine steps_cons ?_ ?_
      ·rintro b a w' ⟨v171, v176, v179, v182, v186, v189, m27_, ha, Q_HO_6, Q_HO_7, Q_HB, Q_HO172, Q_HO177, Q_HO180, Q_HO183, Q_HO187, Q_HO190, Q_HO_6_e26, Q_HO_7_e26, Q_X27_⟩ hb_ hon hoff
       refine ⟨_, rfl, fun K hK => ?_⟩
       have e42 : a.tmps[42]? = some (.slice (some ad168) y162.length co36) := by rw [ha]; exact (putSel_off rfl).trans rfl
       replace ha := am_ ha
       have HO_6 := am_ (Q_HO_6 (hoff 26 (by kernel_rfl)))
       have HO_7 := am_ (Q_HO_7 (hoff 26 (by kernel_rfl)))
       have HB := am_ Q_HB
       refine value_ (w1 := w') (v := .pointer (some ad168)) (by rfl) rfl ?_ ?_
       ·go_simp
        (try simp only [i64_w])
        try rfl
       refine hK.out _ _ ⟨v171, v176, v179, v182, v186, v189, m27_, (by rw [ha.out]; exact putSel_upk 2 hb_ rfl rfl rfl), Q_HO_6, Q_HO_7, Q_HB, fun h0_ _ => absurd ((hoff 6 (by kernel_rfl)).symm.trans h0_) (by decide), Q_HO177, Q_HO180, Q_HO183, Q_HO187, fun h0_ => absurd ((hoff 26 (by kernel_rfl)).symm.trans h0_) (by decide), fun h0_ => absurd ((hoff 26 (by kernel_rfl)).symm.trans h0_) (by decide), fun h0_ => absurd ((hoff 26 (by kernel_rfl)).symm.trans h0_) (by decide), fun h0_ => absurd ((hoff 27 (by kernel_rfl)).symm.trans h0_) (by decide)⟩
      refine steps_cons ?_ ?_
      ·rintro b a w' ⟨v171, v176, v179, v182, v186, v189, m27_, ha, Q_HO_6, Q_HO_7, Q_HB, Q_HO172, Q_HO177, Q_HO180, Q_HO183, Q_HO187, Q_HO190, Q_HO_6_e26, Q_HO_7_e26, Q_X27_⟩ hb_ hon hoff
       refine ⟨_, rfl, fun K hK => ?_⟩
       have e43 : a.tmps[43]? = some (.pointer (some ad168)) := by rw [ha]; exact putSel_on (e := (4, 43, .pointer (some ad168))) 2 rfl rfl (hon 4 (by kernel_rfl)) rfl
       replace ha := am_ ha
       have HO_6 := am_ (Q_HO_6 (hoff 26 (by kernel_rfl)))
       have HO_7 := am_ (Q_HO_7 (hoff 26 (by kernel_rfl)))
       have HB := am_ Q_HB
       obtain ⟨ad169_z, e169_z, hx169_0_z, hx169_1_z, hx169_2_z, hx169_3_z, hx169_4_z, hx169_5_z⟩ := at_T37 (Kd.R_reads' HO_6.out).2.2 0 (of_eq_true p169) (of_eq_true q169)
       cases e169_z
       have hs6_ : w'.cell? ad168 = some (.int .i64 ((rd_T37 y162 0).f0)) := (by first | exact hx169_0_z | (have h_ := hx169_0_z; (try simp only [Int.reduceToNat, Nat.zero_mul, Nat.reduceMul, Nat.reduceEqDiff, Go.Addr.add, ↓reduceIte, z0_] at h_); exact h_))
       have hs7_ : w'.cell? ⟨ad168.block, ad168.off + 1, none⟩ = some (.int .i64 ((rd_T37 y162 0).f1)) := (by first | exact hx169_1_z | (have h_ := hx169_1_z; (try simp only [Int.reduceToNat, Nat.zero_mul, Nat.reduceMul, Nat.reduceEqDiff, Go.Addr.add, ↓reduceIte, z0_] at h_); exact h_))
       have hs8_ : w'.cell? ⟨ad168.block, ad168.off + 2, none⟩ = some (.string ((rd_T37 y162 0).f2)) := (by first | exact hx169_2_z | (have h_ := hx169_2_z; (try simp only [Int.reduceToNat, Nat.zero_mul, Nat.reduceMul, Nat.reduceEqDiff, Go.Addr.add, ↓reduceIte, z0_] at h_); exact h_))
       have hs9_ : w'.cell? ⟨ad168.block, ad168.off + 3, none⟩ = some (.int .i64 ((rd_T37 y162 0).f3)) := (by first | exact hx169_3_z | (have h_ := hx169_3_z; (try simp only [Int.reduceToNat, Nat.zero_mul, Nat.reduceMul, Nat.reduceEqDiff, Go.Addr.add, ↓reduceIte, z0_] at h_); exact h_))
       have hs10_ : w'.cell? ⟨ad168.block, ad168.off + 4, none⟩ = some (.string ((rd_T37 y162 0).f4)) := (by first | exact hx169_4_z | (have h_ := hx169_4_z; (try simp only [Int.reduceToNat, Nat.zero_mul, Nat.reduceMul, Nat.reduceEqDiff, Go.Addr.add, ↓reduceIte, z0_] at h_); exact h_))
       have hs11_ : w'.cell? ⟨ad168.block, ad168.off + 5, none⟩ = some (.bool ((rd_T37 y162 0).f5)) := (by first | exact hx169_5_z | (have h_ := hx169_5_z; (try simp only [Int.reduceToNat, Nat.zero_mul, Nat.reduceMul, Nat.reduceEqDiff, Go.Addr.add, ↓reduceIte, z0_] at h_); exact h_))
       refine value_ (w1 := w') (v := .agg #[.int .i64 ((rd_T37 y162 0).f0), .int .i64 ((rd_T37 y162 0).f1), .string ((rd_T37 y162 0).f2), .int .i64 ((rd_T37 y162 0).f3), .string ((rd_T37 y162 0).f4), .bool ((rd_T37 y162 0).f5)]) (by rfl) rfl ?_ ?_
       ·go_simp
        (try simp only [i64_w])
        try rfl
       refine hK.out _ _ ⟨v171, v176, v179, v182, v186, v189, m27_, (by rw [ha.out]; exact putSel_upk 3 hb_ rfl rfl rfl), Q_HO_6, Q_HO_7, Q_HB, fun h0_ _ => absurd ((hoff 6 (by kernel_rfl)).symm.trans h0_) (by decide), Q_HO177, Q_HO180, Q_HO183, Q_HO187, fun h0_ => absurd ((hoff 26 (by kernel_rfl)).symm.trans h0_) (by decide), fun h0_ => absurd ((hoff 26 (by kernel_rfl)).symm.trans h0_) (by decide), fun h0_ => absurd ((hoff 26 (by kernel_rfl)).symm.trans h0_) (by decide), fun h0_ => absurd ((hoff 27 (by kernel_rfl)).symm.trans h0_) (by decide)⟩
      refine steps_cons ?_ ?_
      ·rintro b a w' ⟨v171, v176, v179, v182, v186, v189, m27_, ha, Q_HO_6, Q_HO_7, Q_HB, Q_HO172, Q_HO177, Q_HO180, Q_HO183, Q_HO187, Q_HO190, Q_HO_6_e26, Q_HO_7_e26, Q_X27_⟩ hb_ hon hoff
       refine ⟨_, rfl, fun K hK => ?_⟩
       have e41 : a.tmps[41]? = some (.agg #[.int .i64 ((rd_T37 y162 1).f0), .int .i64 ((rd_T37 y162 1).f1), .string ((rd_T37 y162 1).f2), .int .i64 ((rd_T37 y162 1).f3), .string ((rd_T37 y162 1).f4), .bool ((rd_T37 y162 1).f5)]) := by rw [ha]; exact putSel_on (e := (2, 41, .agg #[.int .i64 ((rd_T37 y162 1).f0), .int .i64 ((rd_T37 y162 1).f1), .string ((rd_T37 y162 1).f2), .int .i64 ((rd_T37 y162 1).f3), .string ((rd_T37 y162 1).f4), .bool ((rd_T37 y162 1).f5)])) 1 rfl rfl (hon 2 (by kernel_rfl)) rfl
       have e44 : a.tmps[44]? = some (.agg #[.int .i64 ((rd_T37 y162 0).f0), .int .i64 ((rd_T37 y162 0).f1), .string ((rd_T37 y162 0).f2), .int .i64 ((rd_T37 y162 0).f3), .string ((rd_T37 y162 0).f4), .bool ((rd_T37 y162 0).f5)]) := by rw [ha]; exact putSel_on (e := (5, 44, .agg #[.int .i64 ((rd_T37 y162 0).f0), .int .i64 ((rd_T37 y162 0).f1), .string ((rd_T37 y162 0).f2), .int .i64 ((rd_T37 y162 0).f3), .string ((rd_T37 y162 0).f4), .bool ((rd_T37 y162 0).f5)])) 3 rfl rfl (hon 5 (by kernel_rfl)) rfl
       replace ha := am_ ha
       have HO_6 := am_ (Q_HO_6 (hoff 26 (by kernel_rfl)))
       have HO_7 := am_ (Q_HO_7 (hoff 26 (by kernel_rfl)))
       have HB := am_ Q_HB
       refine Kd.R_lit_step k37 _ 37 ?hg (N := 45) ?hd (xs := ([(⟨(rd_T37 y162 1).f0, (rd_T37 y162 1).f1, (rd_T37 y162 1).f2, (rd_T37 y162 1).f3, (rd_T37 y162 1).f4, (rd_T37 y162 1).f5⟩ : S37), (⟨(rd_T37 y162 0).f0, (rd_T37 y162 0).f1, (rd_T37 y162 0).f2, (rd_T37 y162 0).f3, (rd_T37 y162 0).f4, (rd_T37 y162 0).f5⟩ : S37)] : List (S37))) (inner := [.int .i64 ((rd_T37 y162 1).f0), .int .i64 ((rd_T37 y162 1).f1), .string ((rd_T37 y162 1).f2), .int .i64 ((rd_T37 y162 1).f3), .string ((rd_T37 y162 1).f4), .bool ((rd_T37 y162 1).f5), .int .i64 ((rd_T37 y162 0).f0), .int .i64 ((rd_T37 y162 0).f1), .string ((rd_T37 y162 0).f2), .int .i64 ((rd_T37 y162 0).f3), .string ((rd_T37 y162 0).f4), .bool ((rd_T37 y162 0).f5)]) (ok := fun _ => True) (okp := fun _ => True) ?hr ?hp (fun _ hk => hk) trivial (Below.refl _ _) (Nat.le_refl _) (by simp) ?_; (case hd => rfl); (case hg => rfl); (case hr => first | (go_simp; done) | (go_simp; rfl)); (case hp => exact (Reps.c6 (show Kd.M k37 _ _ _ (⟨(rd_T37 y162 1).f0, (rd_T37 y162 1).f1, (rd_T37 y162 1).f2, (rd_T37 y162 1).f3, (rd_T37 y162 1).f4, (rd_T37 y162 1).f5⟩ : S37) [.int .i64 ((rd_T37 y162 1).f0), .int .i64 ((rd_T37 y162 1).f1), .string ((rd_T37 y162 1).f2), .int .i64 ((rd_T37 y162 1).f3), .string ((rd_T37 y162 1).f4), .bool ((rd_T37 y162 1).f5)] from (k37_mkM _ _ _ (⟨(rd_T37 y162 1).f0, (rd_T37 y162 1).f1, (rd_T37 y162 1).f2, (rd_T37 y162 1).f3, (rd_T37 y162 1).f4, (rd_T37 y162 1).f5⟩ : S37) )) (Reps.c6 (show Kd.M k37 _ _ _ (⟨(rd_T37 y162 0).f0, (rd_T37 y162 0).f1, (rd_T37 y162 0).f2, (rd_T37 y162 0).f3, (rd_T37 y162 0).f4, (rd_T37 y162 0).f5⟩ : S37) [.int .i64 ((rd_T37 y162 0).f0), .int .i64 ((rd_T37 y162 0).f1), .string ((rd_T37 y162 0).f2), .int .i64 ((rd_T37 y162 0).f3), .string ((rd_T37 y162 0).f4), .bool ((rd_T37 y162 0).f5)] from (k37_mkM _ _ _ (⟨(rd_T37 y162 0).f0, (rd_T37 y162 0).f1, (rd_T37 y162 0).f2, (rd_T37 y162 0).f3, (rd_T37 y162 0).f4, (rd_T37 y162 0).f5⟩ : S37) )) (Reps.none _ _))))
       intro v171 w37 ho38 hb hg_ hnew_
       clear hg_ hnew_
       (first | rw [← Ny170.out] at ho38 | (simp only [Int.reduceToNat] at ho38; rw [← Ny170.out] at ho38))
       have n0_ := am_ (r5_ (by (with_reducible repeat (first | apply r1_ | apply r2_ | apply r3_)); exact HO_6.out) (r4_ ho38) hb)
       have n1_ := am_ (r5_ (by (with_reducible repeat (first | apply r1_ | apply r2_ | apply r3_)); exact HO_7.out) (r4_ ho38) hb)
       have n2_ := am_ (Kd.R_lower (Kd.R_new' (Kd.R_new' ho38 (Kd.R_lt (by (with_reducible repeat (first | apply r1_ | apply r2_ | apply r3_)); exact HO_6.out))) (Kd.R_lt (by (with_reducible repeat (first | apply r1_ | apply r2_ | apply r3_)); exact HO_7.out))) (bz_ (by repeat (with_reducible first | exact HB.out | apply p3_ | apply p1_ | apply p2_))))
       have n3_ := am_ (bt_ (by repeat (with_reducible first | exact HB.out | apply p3_ | apply p1_ | apply p2_)) hb)
       have z_HO177 := fun (h0_ : b 13 = true) (h1_ : b 26 = false) => (show Kd.R k37 37 w37 w.heap.size (fun k_ => some k_ ≠ (.slice (some ad168) y162.length co36 : Value).ownBlock ∧ some k_ ≠ (.slice AoM_ x7_1.length coM_ : Value).ownBlock) v176 y175 from by first | exact (r5_ (by (with_reducible repeat (first | apply r1_ | apply r2_ | apply r3_)); exact (Q_HO177 h0_ h1_)) (r4_ ho38) hb) | exact Kd.R_mono (r5_ (by (with_reducible repeat (first | apply r1_ | apply r2_ | apply r3_)); exact (Q_HO177 h0_ h1_)) (r4_ ho38) hb) (fun _ h_ => by first | trivial | exact h_ | exact h_.1))
       have z_HO180 := fun (h0_ : b 15 = true) (h1_ : b 26 = false) => (show Kd.R k37 37 w37 w.heap.size (fun k_ => some k_ ≠ (.slice (some ad168) y162.length co36 : Value).ownBlock ∧ some k_ ≠ (.slice AoM_ x7_1.length coM_ : Value).ownBlock) v179 y178 from by first | exact (r5_ (by (with_reducible repeat (first | apply r1_ | apply r2_ | apply r3_)); exact (Q_HO180 h0_ h1_)) (r4_ ho38) hb) | exact Kd.R_mono (r5_ (by (with_reducible repeat (first | apply r1_ | apply r2_ | apply r3_)); exact (Q_HO180 h0_ h1_)) (r4_ ho38) hb) (fun _ h_ => by first | trivial | exact h_ | exact h_.1))
       have z_HO183 := fun (h0_ : b 19 = true) (h1_ : b 26 = false) => (show Kd.R k37 37 w37 w.heap.size (fun k_ => some k_ ≠ (.slice (some ad168) y162.length co36 : Value).ownBlock ∧ some k_ ≠ (.slice AoM_ x7_1.length coM_ : Value).ownBlock) v182 y181 from by first | exact (r5_ (by (with_reducible repeat (first | apply r1_ | apply r2_ | apply r3_)); exact (Q_HO183 h0_ h1_)) (r4_ ho38) hb) | exact Kd.R_mono (r5_ (by (with_reducible repeat (first | apply r1_ | apply r2_ | apply r3_)); exact (Q_HO183 h0_ h1_)) (r4_ ho38) hb) (fun _ h_ => by first | trivial | exact h_ | exact h_.1))
       have z_HO187 := fun (h0_ : b 25 = true) (h1_ : b 26 = false) => (show Kd.R k37 37 w37 w.heap.size (fun k_ => some k_ ≠ (.slice (some ad168) y162.length co36 : Value).ownBlock ∧ some k_ ≠ (.slice AoM_ x7_1.length coM_ : Value).ownBlock) v186 y185 from by first | exact (r5_ (by (with_reducible repeat (first | apply r1_ | apply r2_ | apply r3_)); exact (Q_HO187 h0_ h1_)) (r4_ ho38) hb) | exact Kd.R_mono (r5_ (by (with_reducible repeat (first | apply r1_ | apply r2_ | apply r3_)); exact (Q_HO187 h0_ h1_)) (r4_ ho38) hb) (fun _ h_ => by first | trivial | exact h_ | exact h_.1))
       clear HO_6
       clear HO_7
       clear HB
       have HO_6 := n0_
       have HO_7 := n1_
       have HO172 := n2_
       have HB := n3_
       clear n0_ n1_ n2_ n3_
       clear hb ho38
       refine hK.out _ _ ⟨v171, v176, v179, v182, v186, v189, m27_, (by rw [ha.out]; exact putSel_upk 4 hb_ rfl rfl rfl), fun _ => (by (with_reducible repeat (first | apply r1_ | apply r2_ | apply r3_)); exact Kd.R_mono HO_6.out (fun _ hk => by ((repeat' apply And.intro) <;> (first | trivial | exact hk | exact hk.1 | exact hk.2 | exact hk.2.1 | exact hk.2.2 | exact hk.2.2.1 | exact hk.2.2.2 | exact hk.2.2.2.1 | exact hk.2.2.2.2 | exact hk.2.2.2.2.1 | exact hk.2.2.2.2.2 | exact hk.2.2.2.2.2.1 | exact hk.2.2.2.2.2.2 | exact hk.1.1 | exact hk.1.2)))), fun _ => (by (with_reducible repeat (first | apply r1_ | apply r2_ | apply r3_)); exact Kd.R_mono HO_7.out (fun _ hk => by ((repeat' apply And.intro) <;> (first | trivial | exact hk | exact hk.1 | exact hk.2 | exact hk.2.1 | exact hk.2.2 | exact hk.2.2.1 | exact hk.2.2.2 | exact hk.2.2.2.1 | exact hk.2.2.2.2 | exact hk.2.2.2.2.1 | exact hk.2.2.2.2.2 | exact hk.2.2.2.2.2.1 | exact hk.2.2.2.2.2.2 | exact hk.1.1 | exact hk.1.2)))), (by repeat (with_reducible first | exact HB.out | apply p3_ | apply p1_ | apply p2_)), fun _ _ => (by (with_reducible repeat (first | apply r1_ | apply r2_ | apply r3_)); exact Kd.R_mono HO172.out (fun _ hk => by ((repeat' apply And.intro) <;> (first | trivial | exact hk | exact hk.1 | exact hk.2 | exact hk.2.1 | exact hk.2.2 | exact hk.2.2.1 | exact hk.2.2.2 | exact hk.2.2.2.1 | exact hk.2.2.2.2 | exact hk.2.2.2.2.1 | exact hk.2.2.2.2.2 | exact hk.2.2.2.2.2.1 | exact hk.2.2.2.2.2.2 | exact hk.1.1 | exact hk.1.2)))), z_HO177, z_HO180, z_HO183, z_HO187, fun h0_ => absurd ((hoff 26 (by kernel_rfl)).symm.trans h0_) (by decide), fun h0_ => absurd ((hoff 26 (by kernel_rfl)).symm.trans h0_) (by decide), fun h0_ => absurd ((hoff 26 (by kernel_rfl)).symm.trans h0_) (by decide), fun h0_ => absurd ((hoff 27 (by kernel_rfl)).symm.trans h0_) (by decide)⟩
      refine steps_cons ?_ ?_
      ·rintro b a w' ⟨v171, v176, v179, v182, v186, v189, m27_, ha, Q_HO_6, Q_HO_7, Q_HB, Q_HO172, Q_HO177, Q_HO180, Q_HO183, Q_HO187, Q_HO190, Q_HO_6_e26, Q_HO_7_e26, Q_X27_⟩ hb_ hon hoff
       refine ⟨_, rfl, fun K hK => ?_⟩
       have e46 : a.tmps[46]? = some (.slice (some ad168) y162.length co36) := by rw [ha]; exact (putSel_off rfl).trans rfl
       replace ha := am_ ha
       have HO_6 := am_ (Q_HO_6 (hoff 26 (by kernel_rfl)))
       have HO_7 := am_ (Q_HO_7 (hoff 26 (by kernel_rfl)))
       have HB := am_ Q_HB
       refine value_ (w1 := w') (v := .pointer (some ad168)) (by rfl) rfl ?_ ?_
       ·go_simp
        (try simp only [i64_w])
        try rfl
       refine hK.out _ _ ⟨v171, v176, v179, v182, v186, v189, m27_, (by rw [ha.out]; exact putSel_upk 5 hb_ rfl rfl rfl), Q_HO_6, Q_HO_7, Q_HB, Q_HO172, fun h0_ _ => absurd ((hoff 13 (by kernel_rfl)).symm.trans h0_) (by decide), Q_HO180, Q_HO183, Q_HO187, fun h0_ => absurd ((hoff 26 (by kernel_rfl)).symm.trans h0_) (by decide), fun h0_ => absurd ((hoff 26 (by kernel_rfl)).symm.trans h0_) (by decide), fun h0_ => absurd ((hoff 26 (by kernel_rfl)).symm.trans h0_) (by decide), fun h0_ => absurd ((hoff 27 (by kernel_rfl)).symm.trans h0_) (by decide)⟩
      refine steps_cons ?_ ?_
      ·rintro b a w' ⟨v171, v176, v179, v182, v186, v189, m27_, ha, Q_HO_6, Q_HO_7, Q_HB, Q_HO172, Q_HO177, Q_HO180, Q_HO183, Q_HO187, Q_HO190, Q_HO_6_e26, Q_HO_7_e26, Q_X27_⟩ hb_ hon hoff
       refine ⟨_, rfl, fun K hK => ?_⟩
       have e47 : a.tmps[47]? = some (.pointer (some ad168)) := by rw [ha]; exact putSel_on (e := (8, 47, .pointer (some ad168))) 5 rfl rfl (hon 8 (by kernel_rfl)) rfl
       replace ha := am_ ha
       have HO_6 := am_ (Q_HO_6 (hoff 26 (by kernel_rfl)))
       have HO_7 := am_ (Q_HO_7 (hoff 26 (by kernel_rfl)))
       have HB := am_ Q_HB
       obtain ⟨ad173_z, e173_z, hx173_0_z, hx173_1_z, hx173_2_z, hx173_3_z, hx173_4_z, hx173_5_z⟩ := at_T37 (Kd.R_reads' HO_6.out).2.2 0 (of_eq_true p173) (of_eq_true q173)
       cases e173_z
       have hs12_ : w'.cell? ad168 = some (.int .i64 ((rd_T37 y162 0).f0)) := (by first | exact hx173_0_z | (have h_ := hx173_0_z; (try simp only [Int.reduceToNat, Nat.zero_mul, Nat.reduceMul, Nat.reduceEqDiff, Go.Addr.add, ↓reduceIte, z0_] at h_); exact h_))
       have hs13_ : w'.cell? ⟨ad168.block, ad168.off + 1, none⟩ = some (.int .i64 ((rd_T37 y162 0).f1)) := (by first | exact hx173_1_z | (have h_ := hx173_1_z; (try simp only [Int.reduceToNat, Nat.zero_mul, Nat.reduceMul, Nat.reduceEqDiff, Go.Addr.add, ↓reduceIte, z0_] at h_); exact h_))
       have hs14_ : w'.cell? ⟨ad168.block, ad168.off + 2, none⟩ = some (.string ((rd_T37 y162 0).f2)) := (by first | exact hx173_2_z | (have h_ := hx173_2_z; (try simp only [Int.reduceToNat, Nat.zero_mul, Nat.reduceMul, Nat.reduceEqDiff, Go.Addr.add, ↓reduceIte, z0_] at h_); exact h_))
       have hs15_ : w'.cell? ⟨ad168.block, ad168.off + 3, none⟩ = some (.int .i64 ((rd_T37 y162 0).f3)) := (by first | exact hx173_3_z | (have h_ := hx173_3_z; (try simp only [Int.reduceToNat, Nat.zero_mul, Nat.reduceMul, Nat.reduceEqDiff, Go.Addr.add, ↓reduceIte, z0_] at h_); exact h_))
       have hs16_ : w'.cell? ⟨ad168.block, ad168.off + 4, none⟩ = some (.string ((rd_T37 y162 0).f4)) := (by first | exact hx173_4_z | (have h_ := hx173_4_z; (try simp only [Int.reduceToNat, Nat.zero_mul, Nat.reduceMul, Nat.reduceEqDiff, Go.Addr.add, ↓reduceIte, z0_] at h_); exact h_))
       have hs17_ : w'.cell? ⟨ad168.block, ad168.off + 5, none⟩ = some (.bool ((rd_T37 y162 0).f5)) := (by first | exact hx173_5_z | (have h_ := hx173_5_z; (try simp only [Int.reduceToNat, Nat.zero_mul, Nat.reduceMul, Nat.reduceEqDiff, Go.Addr.add, ↓reduceIte, z0_] at h_); exact h_))
       refine value_ (w1 := w') (v := .agg #[.int .i64 ((rd_T37 y162 0).f0), .int .i64 ((rd_T37 y162 0).f1), .string ((rd_T37 y162 0).f2), .int .i64 ((rd_T37 y162 0).f3), .string ((rd_T37 y162 0).f4), .bool ((rd_T37 y162 0).f5)]) (by rfl) rfl ?_ ?_
       ·go_simp
        (try simp only [i64_w])
        try rfl
       refine hK.out _ _ ⟨v171, v176, v179, v182, v186, v189, m27_, (by rw [ha.out]; exact putSel_upk 6 hb_ rfl rfl rfl), Q_HO_6, Q_HO_7, Q_HB, Q_HO172, fun h0_ _ => absurd ((hoff 13 (by kernel_rfl)).symm.trans h0_) (by decide), Q_HO180, Q_HO183, Q_HO187, fun h0_ => absurd ((hoff 26 (by kernel_rfl)).symm.trans h0_) (by decide), fun h0_ => absurd ((hoff 26 (by kernel_rfl)).symm.trans h0_) (by decide), fun h0_ => absurd ((hoff 26 (by kernel_rfl)).symm.trans h0_) (by decide), fun h0_ => absurd ((hoff 27 (by kernel_rfl)).symm.trans h0_) (by decide)⟩
      refine steps_cons ?_ ?_
      ·rintro b a w' ⟨v171, v176, v179, v182, v186, v189, m27_, ha, Q_HO_6, Q_HO_7, Q_HB, Q_HO172, Q_HO177, Q_HO180, Q_HO183, Q_HO187, Q_HO190, Q_HO_6_e26, Q_HO_7_e26, Q_X27_⟩ hb_ hon hoff
       refine ⟨_, rfl, fun K hK => ?_⟩
       have e49 : a.tmps[49]? = some (.slice (some ad168) y162.length co36) := by rw [ha]; exact (putSel_off rfl).trans rfl
       replace ha := am_ ha
       have HO_6 := am_ (Q_HO_6 (hoff 26 (by kernel_rfl)))
       have HO_7 := am_ (Q_HO_7 (hoff 26 (by kernel_rfl)))
       have HB := am_ Q_HB
       refine value_ (w1 := w') (v := .pointer (some ad168)) (by rfl) rfl ?_ ?_
       ·go_simp
        (try simp only [i64_w])
        try rfl
       refine hK.out _ _ ⟨v171, v176, v179, v182, v186, v189, m27_, (by rw [ha.out]; exact putSel_upk 7 hb_ rfl rfl rfl), Q_HO_6, Q_HO_7, Q_HB, Q_HO172, fun h0_ _ => absurd ((hoff 13 (by kernel_rfl)).symm.trans h0_) (by decide), Q_HO180, Q_HO183, Q_HO187, fun h0_ => absurd ((hoff 26 (by kernel_rfl)).symm.trans h0_) (by decide), fun h0_ => absurd ((hoff 26 (by kernel_rfl)).symm.trans h0_) (by decide), fun h0_ => absurd ((hoff 26 (by kernel_rfl)).symm.trans h0_) (by decide), fun h0_ => absurd ((hoff 27 (by kernel_rfl)).symm.trans h0_) (by decide)⟩
      refine steps_cons ?_ ?_
      ·rintro b a w' ⟨v171, v176, v179, v182, v186, v189, m27_, ha, Q_HO_6, Q_HO_7, Q_HB, Q_HO172, Q_HO177, Q_HO180, Q_HO183, Q_HO187, Q_HO190, Q_HO_6_e26, Q_HO_7_e26, Q_X27_⟩ hb_ hon hoff
       refine ⟨_, rfl, fun K hK => ?_⟩
       have e50 : a.tmps[50]? = some (.pointer (some ad168)) := by rw [ha]; exact putSel_on (e := (11, 50, .pointer (some ad168))) 7 rfl rfl (hon 11 (by kernel_rfl)) rfl
       replace ha := am_ ha
       have HO_6 := am_ (Q_HO_6 (hoff 26 (by kernel_rfl)))
       have HO_7 := am_ (Q_HO_7 (hoff 26 (by kernel_rfl)))
       have HB := am_ Q_HB
       obtain ⟨ad174_z, e174_z, hx174_0_z, hx174_1_z, hx174_2_z, hx174_3_z, hx174_4_z, hx174_5_z⟩ := at_T37 (Kd.R_reads' HO_6.out).2.2 0 (of_eq_true p174) (of_eq_true q174)
       cases e174_z
       have hs18_ : w'.cell? ad168 = some (.int .i64 ((rd_T37 y162 0).f0)) := (by first | exact hx174_0_z | (have h_ := hx174_0_z; (try simp only [Int.reduceToNat, Nat.zero_mul, Nat.reduceMul, Nat.reduceEqDiff, Go.Addr.add, ↓reduceIte, z0_] at h_); exact h_))
       have hs19_ : w'.cell? ⟨ad168.block, ad168.off + 1, none⟩ = some (.int .i64 ((rd_T37 y162 0).f1)) := (by first | exact hx174_1_z | (have h_ := hx174_1_z; (try simp only [Int.reduceToNat, Nat.zero_mul, Nat.reduceMul, Nat.reduceEqDiff, Go.Addr.add, ↓reduceIte, z0_] at h_); exact h_))
       have hs20_ : w'.cell? ⟨ad168.block, ad168.off + 2, none⟩ = some (.string ((rd_T37 y162 0).f2)) := (by first | exact hx174_2_z | (have h_ := hx174_2_z; (try simp only [Int.reduceToNat, Nat.zero_mul, Nat.reduceMul, Nat.reduceEqDiff, Go.Addr.add, ↓reduceIte, z0_] at h_); exact h_))
       have hs21_ : w'.cell? ⟨ad168.block, ad168.off + 3, none⟩ = some (.int .i64 ((rd_T37 y162 0).f3)) := (by first | exact hx174_3_z | (have h_ := hx174_3_z; (try simp only [Int.reduceToNat, Nat.zero_mul, Nat.reduceMul, Nat.reduceEqDiff, Go.Addr.add, ↓reduceIte, z0_] at h_); exact h_))
       have hs22_ : w'.cell? ⟨ad168.block, ad168.off + 4, none⟩ = some (.string ((rd_T37 y162 0).f4)) := (by first | exact hx174_4_z | (have h_ := hx174_4_z; (try simp only [Int.reduceToNat, Nat.zero_mul, Nat.reduceMul, Nat.reduceEqDiff, Go.Addr.add, ↓reduceIte, z0_] at h_); exact h_))
       have hs23_ : w'.cell? ⟨ad168.block, ad168.off + 5, none⟩ = some (.bool ((rd_T37 y162 0).f5)) := (by first | exact hx174_5_z | (have h_ := hx174_5_z; (try simp only [Int.reduceToNat, Nat.zero_mul, Nat.reduceMul, Nat.reduceEqDiff, Go.Addr.add, ↓reduceIte, z0_] at h_); exact h_))
       refine value_ (w1 := w') (v := .agg #[.int .i64 ((rd_T37 y162 0).f0), .int .i64 ((rd_T37 y162 0).f1), .string ((rd_T37 y162 0).f2), .int .i64 ((rd_T37 y162 0).f3), .string ((rd_T37 y162 0).f4), .bool ((rd_T37 y162 0).f5)]) (by rfl) rfl ?_ ?_
       ·go_simp
        (try simp only [i64_w])
        try rfl
       refine hK.out _ _ ⟨v171, v176, v179, v182, v186, v189, m27_, (by rw [ha.out]; exact putSel_upk 8 hb_ rfl rfl rfl), Q_HO_6, Q_HO_7, Q_HB, Q_HO172, fun h0_ _ => absurd ((hoff 13 (by kernel_rfl)).symm.trans h0_) (by decide), Q_HO180, Q_HO183, Q_HO187, fun h0_ => absurd ((hoff 26 (by kernel_rfl)).symm.trans h0_) (by decide), fun h0_ => absurd ((hoff 26 (by kernel_rfl)).symm.trans h0_) (by decide), fun h0_ => absurd ((hoff 26 (by kernel_rfl)).symm.trans h0_) (by decide), fun h0_ => absurd ((hoff 27 (by kernel_rfl)).symm.trans h0_) (by decide)⟩
      refine steps_cons ?_ ?_
      ·rintro b a w' ⟨v171, v176, v179, v182, v186, v189, m27_, ha, Q_HO_6, Q_HO_7, Q_HB, Q_HO172, Q_HO177, Q_HO180, Q_HO183, Q_HO187, Q_HO190, Q_HO_6_e26, Q_HO_7_e26, Q_X27_⟩ hb_ hon hoff
       refine ⟨_, rfl, fun K hK => ?_⟩
       have e48 : a.tmps[48]? = some (.agg #[.int .i64 ((rd_T37 y162 0).f0), .int .i64 ((rd_T37 y162 0).f1), .string ((rd_T37 y162 0).f2), .int .i64 ((rd_T37 y162 0).f3), .string ((rd_T37 y162 0).f4), .bool ((rd_T37 y162 0).f5)]) := by rw [ha]; exact putSel_on (e := (9, 48, .agg #[.int .i64 ((rd_T37 y162 0).f0), .int .i64 ((rd_T37 y162 0).f1), .string ((rd_T37 y162 0).f2), .int .i64 ((rd_T37 y162 0).f3), .string ((rd_T37 y162 0).f4), .bool ((rd_T37 y162 0).f5)])) 6 rfl rfl (hon 9 (by kernel_rfl)) rfl
       have e51 : a.tmps[51]? = some (.agg #[.int .i64 ((rd_T37 y162 0).f0), .int .i64 ((rd_T37 y162 0).f1), .string ((rd_T37 y162 0).f2), .int .i64 ((rd_T37 y162 0).f3), .string ((rd_T37 y162 0).f4), .bool ((rd_T37 y162 0).f5)]) := by rw [ha]; exact putSel_on (e := (12, 51, .agg #[.int .i64 ((rd_T37 y162 0).f0), .int .i64 ((rd_T37 y162 0).f1), .string ((rd_T37 y162 0).f2), .int .i64 ((rd_T37 y162 0).f3), .string ((rd_T37 y162 0).f4), .bool ((rd_T37 y162 0).f5)])) 8 rfl rfl (hon 12 (by kernel_rfl)) rfl
       replace ha := am_ ha
       have HO_6 := am_ (Q_HO_6 (hoff 26 (by kernel_rfl)))
       have HO_7 := am_ (Q_HO_7 (hoff 26 (by kernel_rfl)))
       have HB := am_ Q_HB
       refine Kd.R_lit_step k37 _ 37 ?hg (N := 52) ?hd (xs := ([(⟨(rd_T37 y162 0).f0, (rd_T37 y162 0).f1, (rd_T37 y162 0).f2, (rd_T37 y162 0).f3, (rd_T37 y162 0).f4, (rd_T37 y162 0).f5⟩ : S37), (⟨(rd_T37 y162 0).f0, (rd_T37 y162 0).f1, (rd_T37 y162 0).f2, (rd_T37 y162 0).f3, (rd_T37 y162 0).f4, (rd_T37 y162 0).f5⟩ : S37)] : List (S37))) (inner := [.int .i64 ((rd_T37 y162 0).f0), .int .i64 ((rd_T37 y162 0).f1), .string ((rd_T37 y162 0).f2), .int .i64 ((rd_T37 y162 0).f3), .string ((rd_T37 y162 0).f4), .bool ((rd_T37 y162 0).f5), .int .i64 ((rd_T37 y162 0).f0), .int .i64 ((rd_T37 y162 0).f1), .string ((rd_T37 y162 0).f2), .int .i64 ((rd_T37 y162 0).f3), .string ((rd_T37 y162 0).f4), .bool ((rd_T37 y162 0).f5)]) (ok := fun _ => True) (okp := fun _ => True) ?hr ?hp (fun _ hk => hk) trivial (Below.refl _ _) (Nat.le_refl _) (by simp) ?_; (case hd => rfl); (case hg => rfl); (case hr => first | (go_simp; done) | (go_simp; rfl)); (case hp => exact (Reps.c6 (show Kd.M k37 _ _ _ (⟨(rd_T37 y162 0).f0, (rd_T37 y162 0).f1, (rd_T37 y162 0).f2, (rd_T37 y162 0).f3, (rd_T37 y162 0).f4, (rd_T37 y162 0).f5⟩ : S37) [.int .i64 ((rd_T37 y162 0).f0), .int .i64 ((rd_T37 y162 0).f1), .string ((rd_T37 y162 0).f2), .int .i64 ((rd_T37 y162 0).f3), .string ((rd_T37 y162 0).f4), .bool ((rd_T37 y162 0).f5)] from (k37_mkM _ _ _ (⟨(rd_T37 y162 0).f0, (rd_T37 y162 0).f1, (rd_T37 y162 0).f2, (rd_T37 y162 0).f3, (rd_T37 y162 0).f4, (rd_T37 y162 0).f5⟩ : S37) )) (Reps.c6 (show Kd.M k37 _ _ _ (⟨(rd_T37 y162 0).f0, (rd_T37 y162 0).f1, (rd_T37 y162 0).f2, (rd_T37 y162 0).f3, (rd_T37 y162 0).f4, (rd_T37 y162 0).f5⟩ : S37) [.int .i64 ((rd_T37 y162 0).f0), .int .i64 ((rd_T37 y162 0).f1), .string ((rd_T37 y162 0).f2), .int .i64 ((rd_T37 y162 0).f3), .string ((rd_T37 y162 0).f4), .bool ((rd_T37 y162 0).f5)] from (k37_mkM _ _ _ (⟨(rd_T37 y162 0).f0, (rd_T37 y162 0).f1, (rd_T37 y162 0).f2, (rd_T37 y162 0).f3, (rd_T37 y162 0).f4, (rd_T37 y162 0).f5⟩ : S37) )) (Reps.none _ _))))
       intro v176 w37 ho38 hb hg_ hnew_
       clear hg_ hnew_
       (first | rw [← Ny175.out] at ho38 | (simp only [Int.reduceToNat] at ho38; rw [← Ny175.out] at ho38))
       have n0_ := am_ (r5_ (by (with_reducible repeat (first | apply r1_ | apply r2_ | apply r3_)); exact HO_6.out) (r4_ ho38) hb)
       have n1_ := am_ (r5_ (by (with_reducible repeat (first | apply r1_ | apply r2_ | apply r3_)); exact HO_7.out) (r4_ ho38) hb)
       have n2_ := am_ (Kd.R_lower (Kd.R_new' (Kd.R_new' ho38 (Kd.R_lt (by (with_reducible repeat (first | apply r1_ | apply r2_ | apply r3_)); exact HO_6.out))) (Kd.R_lt (by (with_reducible repeat (first | apply r1_ | apply r2_ | apply r3_)); exact HO_7.out))) (bz_ (by repeat (with_reducible first | exact HB.out | apply p3_ | apply p1_ | apply p2_))))
       have n3_ := am_ (bt_ (by repeat (with_reducible first | exact HB.out | apply p3_ | apply p1_ | apply p2_)) hb)
       have z_HO172 := fun (h0_ : b 6 = true) (h1_ : b 26 = false) => (show Kd.R k37 37 w37 w.heap.size (fun k_ => some k_ ≠ (.slice (some ad168) y162.length co36 : Value).ownBlock ∧ some k_ ≠ (.slice AoM_ x7_1.length coM_ : Value).ownBlock) v171 y170 from by first | exact (r5_ (by (with_reducible repeat (first | apply r1_ | apply r2_ | apply r3_)); exact (Q_HO172 h0_ h1_)) (r4_ ho38) hb) | exact Kd.R_mono (r5_ (by (with_reducible repeat (first | apply r1_ | apply r2_ | apply r3_)); exact (Q_HO172 h0_ h1_)) (r4_ ho38) hb) (fun _ h_ => by first | trivial | exact h_ | exact h_.1))
       have z_HO180 := fun (h0_ : b 15 = true) (h1_ : b 26 = false) => (show Kd.R k37 37 w37 w.heap.size (fun k_ => some k_ ≠ (.slice (some ad168) y162.length co36 : Value).ownBlock ∧ some k_ ≠ (.slice AoM_ x7_1.length coM_ : Value).ownBlock) v179 y178 from by first | exact (r5_ (by (with_reducible repeat (first | apply r1_ | apply r2_ | apply r3_)); exact (Q_HO180 h0_ h1_)) (r4_ ho38) hb) | exact Kd.R_mono (r5_ (by (with_reducible repeat (first | apply r1_ | apply r2_ | apply r3_)); exact (Q_HO180 h0_ h1_)) (r4_ ho38) hb) (fun _ h_ => by first | trivial | exact h_ | exact h_.1))
       have z_HO183 := fun (h0_ : b 19 = true) (h1_ : b 26 = false) => (show Kd.R k37 37 w37 w.heap.size (fun k_ => some k_ ≠ (.slice (some ad168) y162.length co36 : Value).ownBlock ∧ some k_ ≠ (.slice AoM_ x7_1.length coM_ : Value).ownBlock) v182 y181 from by first | exact (r5_ (by (with_reducible repeat (first | apply r1_ | apply r2_ | apply r3_)); exact (Q_HO183 h0_ h1_)) (r4_ ho38) hb) | exact Kd.R_mono (r5_ (by (with_reducible repeat (first | apply r1_ | apply r2_ | apply r3_)); exact (Q_HO183 h0_ h1_)) (r4_ ho38) hb) (fun _ h_ => by first | trivial | exact h_ | exact h_.1))
       have z_HO187 := fun (h0_ : b 25 = true) (h1_ : b 26 = false) => (show Kd.R k37 37 w37 w.heap.size (fun k_ => some k_ ≠ (.slice (some ad168) y162.length co36 : Value).ownBlock ∧ some k_ ≠ (.slice AoM_ x7_1.length coM_ : Value).ownBlock) v186 y185 from by first | exact (r5_ (by (with_reducible repeat (first | apply r1_ | apply r2_ | apply r3_)); exact (Q_HO187 h0_ h1_)) (r4_ ho38) hb) | exact Kd.R_mono (r5_ (by (with_reducible repeat (first | apply r1_ | apply r2_ | apply r3_)); exact (Q_HO187 h0_ h1_)) (r4_ ho38) hb) (fun _ h_ => by first | trivial | exact h_ | exact h_.1))
       clear HO_6
       clear HO_7
       clear HB
       have HO_6 := n0_
       have HO_7 := n1_
       have HO177 := n2_
       have HB := n3_
       clear n0_ n1_ n2_ n3_
       clear hb ho38
       refine hK.out _ _ ⟨v171, v176, v179, v182, v186, v189, m27_, (by rw [ha.out]; exact putSel_upk 9 hb_ rfl rfl rfl), fun _ => (by (with_reducible repeat (first | apply r1_ | apply r2_ | apply r3_)); exact Kd.R_mono HO_6.out (fun _ hk => by ((repeat' apply And.intro) <;> (first | trivial | exact hk | exact hk.1 | exact hk.2 | exact hk.2.1 | exact hk.2.2 | exact hk.2.2.1 | exact hk.2.2.2 | exact hk.2.2.2.1 | exact hk.2.2.2.2 | exact hk.2.2.2.2.1 | exact hk.2.2.2.2.2 | exact hk.2.2.2.2.2.1 | exact hk.2.2.2.2.2.2 | exact hk.1.1 | exact hk.1.2)))), fun _ => (by (with_reducible repeat (first | apply r1_ | apply r2_ | apply r3_)); exact Kd.R_mono HO_7.out (fun _ hk => by ((repeat' apply And.intro) <;> (first | trivial | exact hk | exact hk.1 | exact hk.2 | exact hk.2.1 | exact hk.2.2 | exact hk.2.2.1 | exact hk.2.2.2 | exact hk.2.2.2.1 | exact hk.2.2.2.2 | exact hk.2.2.2.2.1 | exact hk.2.2.2.2.2 | exact hk.2.2.2.2.2.1 | exact hk.2.2.2.2.2.2 | exact hk.1.1 | exact hk.1.2)))), (by repeat (with_reducible first | exact HB.out | apply p3_ | apply p1_ | apply p2_)), z_HO172, fun _ _ => (by (with_reducible repeat (first | apply r1_ | apply r2_ | apply r3_)); exact Kd.R_mono HO177.out (fun _ hk => by ((repeat' apply And.intro) <;> (first | trivial | exact hk | exact hk.1 | exact hk.2 | exact hk.2.1 | exact hk.2.2 | exact hk.2.2.1 | exact hk.2.2.2 | exact hk.2.2.2.1 | exact hk.2.2.2.2 | exact hk.2.2.2.2.1 | exact hk.2.2.2.2.2 | exact hk.2.2.2.2.2.1 | exact hk.2.2.2.2.2.2 | exact hk.1.1 | exact hk.1.2)))), z_HO180, z_HO183, z_HO187, fun h0_ => absurd ((hoff 26 (by kernel_rfl)).symm.trans h0_) (by decide), fun h0_ => absurd ((hoff 26 (by kernel_rfl)).symm.trans h0_) (by decide), fun h0_ => absurd ((hoff 26 (by kernel_rfl)).symm.trans h0_) (by decide), fun h0_ => absurd ((hoff 27 (by kernel_rfl)).symm.trans h0_) (by decide)⟩
      refine steps_cons ?_ ?_
      ·rintro b a w' ⟨v171, v176, v179, v182, v186, v189, m27_, ha, Q_HO_6, Q_HO_7, Q_HB, Q_HO172, Q_HO177, Q_HO180, Q_HO183, Q_HO187, Q_HO190, Q_HO_6_e26, Q_HO_7_e26, Q_X27_⟩ hb_ hon hoff
       refine ⟨_, rfl, fun K hK => ?_⟩
       replace ha := am_ ha
       have HO_6 := am_ (Q_HO_6 (hoff 26 (by kernel_rfl)))
       have HO_7 := am_ (Q_HO_7 (hoff 26 (by kernel_rfl)))
       have HB := am_ Q_HB
       refine value_ (w1 := w') (v := .agg #[.int .i64 1, .int .i64 0, .string (⟨#[]⟩ : ByteArray), .int .i64 0, .string (⟨#[]⟩ : ByteArray), .bool false]) (by rfl) rfl ?_ ?_
       ·go_simp
        (try simp only [i64_w])
        try rfl
       refine hK.out _ _ ⟨v171, v176, v179, v182, v186, v189, m27_, (by rw [ha.out]; exact putSel_upk 10 hb_ rfl rfl rfl), Q_HO_6, Q_HO_7, Q_HB, Q_HO172, Q_HO177, fun h0_ _ => absurd ((hoff 15 (by kernel_rfl)).symm.trans h0_) (by decide), Q_HO183, Q_HO187, fun h0_ => absurd ((hoff 26 (by kernel_rfl)).symm.trans h0_) (by decide), fun h0_ => absurd ((hoff 26 (by kernel_rfl)).symm.trans h0_) (by decide), fun h0_ => absurd ((hoff 26 (by kernel_rfl)).symm.trans h0_) (by decide), fun h0_ => absurd ((hoff 27 (by kernel_rfl)).symm.trans h0_) (by decide)⟩
      refine steps_cons ?_ ?_
      ·rintro b a w' ⟨v171, v176, v179, v182, v186, v189, m27_, ha, Q_HO_6, Q_HO_7, Q_HB, Q_HO172, Q_HO177, Q_HO180, Q_HO183, Q_HO187, Q_HO190, Q_HO_6_e26, Q_HO_7_e26, Q_X27_⟩ hb_ hon hoff
       refine ⟨_, rfl, fun K hK => ?_⟩
       have e53 : a.tmps[53]? = some (.agg #[.int .i64 1, .int .i64 0, .string (⟨#[]⟩ : ByteArray), .int .i64 0, .string (⟨#[]⟩ : ByteArray), .bool false]) := by rw [ha]; exact putSel_on (e := (14, 53, .agg #[.int .i64 1, .int .i64 0, .string (⟨#[]⟩ : ByteArray), .int .i64 0, .string (⟨#[]⟩ : ByteArray), .bool false])) 10 rfl rfl (hon 14 (by kernel_rfl)) rfl
       replace ha := am_ ha
       have HO_6 := am_ (Q_HO_6 (hoff 26 (by kernel_rfl)))
       have HO_7 := am_ (Q_HO_7 (hoff 26 (by kernel_rfl)))
       have HB := am_ Q_HB
       refine Kd.R_lit_step k37 _ 37 ?hg (N := 54) ?hd (xs := ([(⟨1, 0, (⟨#[]⟩ : ByteArray), 0, (⟨#[]⟩ : ByteArray), false⟩ : S37)] : List (S37))) (inner := [.int .i64 1, .int .i64 0, .string (⟨#[]⟩ : ByteArray), .int .i64 0, .string (⟨#[]⟩ : ByteArray), .bool false]) (ok := fun _ => True) (okp := fun _ => True) ?hr ?hp (fun _ hk => hk) trivial (Below.refl _ _) (Nat.le_refl _) (by simp) ?_; (case hd => rfl); (case hg => rfl); (case hr => first | (go_simp; done) | (go_simp; rfl)); (case hp => exact (Reps.c6 (show Kd.M k37 _ _ _ (⟨1, 0, (⟨#[]⟩ : ByteArray), 0, (⟨#[]⟩ : ByteArray), false⟩ : S37) [.int .i64 1, .int .i64 0, .string (⟨#[]⟩ : ByteArray), .int .i64 0, .string (⟨#[]⟩ : ByteArray), .bool false] from (k37_mkM _ _ _ (⟨1, 0, (⟨#[]⟩ : ByteArray), 0, (⟨#[]⟩ : ByteArray), false⟩ : S37) )) (Reps.none _ _)))
       intro v179 w37 ho38 hb hg_ hnew_
       clear hg_ hnew_
       (first | rw [← Ny178.out] at ho38 | (simp only [Int.reduceToNat] at ho38; rw [← Ny178.out] at ho38))
       have n0_ := am_ (r5_ (by (with_reducible repeat (first | apply r1_ | apply r2_ | apply r3_)); exact HO_6.out) (r4_ ho38) hb)
       have n1_ := am_ (r5_ (by (with_reducible repeat (first | apply r1_ | apply r2_ | apply r3_)); exact HO_7.out) (r4_ ho38) hb)
       have n2_ := am_ (Kd.R_lower (Kd.R_new' (Kd.R_new' ho38 (Kd.R_lt (by (with_reducible repeat (first | apply r1_ | apply r2_ | apply r3_)); exact HO_6.out))) (Kd.R_lt (by (with_reducible repeat (first | apply r1_ | apply r2_ | apply r3_)); exact HO_7.out))) (bz_ (by repeat (with_reducible first | exact HB.out | apply p3_ | apply p1_ | apply p2_))))
       have n3_ := am_ (bt_ (by repeat (with_reducible first | exact HB.out | apply p3_ | apply p1_ | apply p2_)) hb)
       have z_HO172 := fun (h0_ : b 6 = true) (h1_ : b 26 = false) => (show Kd.R k37 37 w37 w.heap.size (fun k_ => some k_ ≠ (.slice (some ad168) y162.length co36 : Value).ownBlock ∧ some k_ ≠ (.slice AoM_ x7_1.length coM_ : Value).ownBlock) v171 y170 from by first | exact (r5_ (by (with_reducible repeat (first | apply r1_ | apply r2_ | apply r3_)); exact (Q_HO172 h0_ h1_)) (r4_ ho38) hb) | exact Kd.R_mono (r5_ (by (with_reducible repeat (first | apply r1_ | apply r2_ | apply r3_)); exact (Q_HO172 h0_ h1_)) (r4_ ho38) hb) (fun _ h_ => by first | trivial | exact h_ | exact h_.1))
       have z_HO177 := fun (h0_ : b 13 = true) (h1_ : b 26 = false) => (show Kd.R k37 37 w37 w.heap.size (fun k_ => some k_ ≠ (.slice (some ad168) y162.length co36 : Value).ownBlock ∧ some k_ ≠ (.slice AoM_ x7_1.length coM_ : Value).ownBlock) v176 y175 from by first | exact (r5_ (by (with_reducible repeat (first | apply r1_ | apply r2_ | apply r3_)); exact (Q_HO177 h0_ h1_)) (r4_ ho38) hb) | exact Kd.R_mono (r5_ (by (with_reducible repeat (first | apply r1_ | apply r2_ | apply r3_)); exact (Q_HO177 h0_ h1_)) (r4_ ho38) hb) (fun _ h_ => by first | trivial | exact h_ | exact h_.1))
       have z_HO183 := fun (h0_ : b 19 = true) (h1_ : b 26 = false) => (show Kd.R k37 37 w37 w.heap.size (fun k_ => some k_ ≠ (.slice (some ad168) y162.length co36 : Value).ownBlock ∧ some k_ ≠ (.slice AoM_ x7_1.length coM_ : Value).ownBlock) v182 y181 from by first | exact (r5_ (by (with_reducible repeat (first | apply r1_ | apply r2_ | apply r3_)); exact (Q_HO183 h0_ h1_)) (r4_ ho38) hb) | exact Kd.R_mono (r5_ (by (with_reducible repeat (first | apply r1_ | apply r2_ | apply r3_)); exact (Q_HO183 h0_ h1_)) (r4_ ho38) hb) (fun _ h_ => by first | trivial | exact h_ | exact h_.1))
       have z_HO187 := fun (h0_ : b 25 = true) (h1_ : b 26 = false) => (show Kd.R k37 37 w37 w.heap.size (fun k_ => some k_ ≠ (.slice (some ad168) y162.length co36 : Value).ownBlock ∧ some k_ ≠ (.slice AoM_ x7_1.length coM_ : Value).ownBlock) v186 y185 from by first | exact (r5_ (by (with_reducible repeat (first | apply r1_ | apply r2_ | apply r3_)); exact (Q_HO187 h0_ h1_)) (r4_ ho38) hb) | exact Kd.R_mono (r5_ (by (with_reducible repeat (first | apply r1_ | apply r2_ | apply r3_)); exact (Q_HO187 h0_ h1_)) (r4_ ho38) hb) (fun _ h_ => by first | trivial | exact h_ | exact h_.1))
       clear HO_6
       clear HO_7
       clear HB
       have HO_6 := n0_
       have HO_7 := n1_
       have HO180 := n2_
       have HB := n3_
       clear n0_ n1_ n2_ n3_
       clear hb ho38
       refine hK.out _ _ ⟨v171, v176, v179, v182, v186, v189, m27_, (by rw [ha.out]; exact putSel_upk 11 hb_ rfl rfl rfl), fun _ => (by (with_reducible repeat (first | apply r1_ | apply r2_ | apply r3_)); exact Kd.R_mono HO_6.out (fun _ hk => by ((repeat' apply And.intro) <;> (first | trivial | exact hk | exact hk.1 | exact hk.2 | exact hk.2.1 | exact hk.2.2 | exact hk.2.2.1 | exact hk.2.2.2 | exact hk.2.2.2.1 | exact hk.2.2.2.2 | exact hk.2.2.2.2.1 | exact hk.2.2.2.2.2 | exact hk.2.2.2.2.2.1 | exact hk.2.2.2.2.2.2 | exact hk.1.1 | exact hk.1.2)))), fun _ => (by (with_reducible repeat (first | apply r1_ | apply r2_ | apply r3_)); exact Kd.R_mono HO_7.out (fun _ hk => by ((repeat' apply And.intro) <;> (first | trivial | exact hk | exact hk.1 | exact hk.2 | exact hk.2.1 | exact hk.2.2 | exact hk.2.2.1 | exact hk.2.2.2 | exact hk.2.2.2.1 | exact hk.2.2.2.2 | exact hk.2.2.2.2.1 | exact hk.2.2.2.2.2 | exact hk.2.2.2.2.2.1 | exact hk.2.2.2.2.2.2 | exact hk.1.1 | exact hk.1.2)))), (by repeat (with_reducible first | exact HB.out | apply p3_ | apply p1_ | apply p2_)), z_HO172, z_HO177, fun _ _ => (by (with_reducible repeat (first | apply r1_ | apply r2_ | apply r3_)); exact Kd.R_mono HO180.out (fun _ hk => by ((repeat' apply And.intro) <;> (first | trivial | exact hk | exact hk.1 | exact hk.2 | exact hk.2.1 | exact hk.2.2 | exact hk.2.2.1 | exact hk.2.2.2 | exact hk.2.2.2.1 | exact hk.2.2.2.2 | exact hk.2.2.2.2.1 | exact hk.2.2.2.2.2 | exact hk.2.2.2.2.2.1 | exact hk.2.2.2.2.2.2 | exact hk.1.1 | exact hk.1.2)))), z_HO183, z_HO187, fun h0_ => absurd ((hoff 26 (by kernel_rfl)).symm.trans h0_) (by decide), fun h0_ => absurd ((hoff 26 (by kernel_rfl)).symm.trans h0_) (by decide), fun h0_ => absurd ((hoff 26 (by kernel_rfl)).symm.trans h0_) (by decide), fun h0_ => absurd ((hoff 27 (by kernel_rfl)).symm.trans h0_) (by decide)⟩
      refine steps_cons ?_ ?_
      ·rintro b a w' ⟨v171, v176, v179, v182, v186, v189, m27_, ha, Q_HO_6, Q_HO_7, Q_HB, Q_HO172, Q_HO177, Q_HO180, Q_HO183, Q_HO187, Q_HO190, Q_HO_6_e26, Q_HO_7_e26, Q_X27_⟩ hb_ hon hoff
       refine ⟨_, rfl, fun K hK => ?_⟩
       have e55 : a.tmps[55]? = some (.int .i64 (wrap64 (1 + (Go.bits .and .i64 a1 63)))) := by rw [ha]; exact (putSel_off rfl).trans rfl
       replace ha := am_ ha
       have HO_6 := am_ (Q_HO_6 (hoff 26 (by kernel_rfl)))
       have HO_7 := am_ (Q_HO_7 (hoff 26 (by kernel_rfl)))
       have HB := am_ Q_HB
       refine value_ (w1 := w') (v := .int .i64 (wrap64 (254 + (wrap64 (1 + (Go.bits .and .i64 a1 63)))))) (by rfl) rfl ?_ ?_
       ·go_simp
        (try simp only [i64_w])
        try rfl
       refine hK.out _ _ ⟨v171, v176, v179, v182, v186, v189, m27_, (by rw [ha.out]; exact putSel_upk 12 hb_ rfl rfl rfl), Q_HO_6, Q_HO_7, Q_HB, Q_HO172, Q_HO177, Q_HO180, fun h0_ _ => absurd ((hoff 19 (by kernel_rfl)).symm.trans h0_) (by decide), Q_HO187, fun h0_ => absurd ((hoff 26 (by kernel_rfl)).symm.trans h0_) (by decide), fun h0_ => absurd ((hoff 26 (by kernel_rfl)).symm.trans h0_) (by decide), fun h0_ => absurd ((hoff 26 (by kernel_rfl)).symm.trans h0_) (by decide), fun h0_ => absurd ((hoff 27 (by kernel_rfl)).symm.trans h0_) (by decide)⟩
      refine steps_cons ?_ ?_
      ·rintro b a w' ⟨v171, v176, v179, v182, v186, v189, m27_, ha, Q_HO_6, Q_HO_7, Q_HB, Q_HO172, Q_HO177, Q_HO180, Q_HO183, Q_HO187, Q_HO190, Q_HO_6_e26, Q_HO_7_e26, Q_X27_⟩ hb_ hon hoff
       refine ⟨_, rfl, fun K hK => ?_⟩
       have e56 : a.tmps[56]? = some (.int .i64 (wrap64 (254 + (wrap64 (1 + (Go.bits .and .i64 a1 63)))))) := by rw [ha]; exact putSel_on (e := (17, 56, .int .i64 (wrap64 (254 + (wrap64 (1 + (Go.bits .and .i64 a1 63))))))) 12 rfl rfl (hon 17 (by kernel_rfl)) rfl
       replace ha := am_ ha
       have HO_6 := am_ (Q_HO_6 (hoff 26 (by kernel_rfl)))
       have HO_7 := am_ (Q_HO_7 (hoff 26 (by kernel_rfl)))
       have HB := am_ Q_HB
       refine value_ (w1 := w') (v := .agg #[.int .i64 (wrap64 (254 + (wrap64 (1 + (Go.bits .and .i64 a1 63))))), .int .i64 0, .string (⟨#[]⟩ : ByteArray), .int .i64 0, .string (⟨#[]⟩ : ByteArray), .bool false]) (by rfl) rfl ?_ ?_
       ·go_simp
        (try simp only [i64_w])
        try rfl
       refine hK.out _ _ ⟨v171, v176, v179, v182, v186, v189, m27_, (by rw [ha.out]; exact putSel_upk 13 hb_ rfl rfl rfl), Q_HO_6, Q_HO_7, Q_HB, Q_HO172, Q_HO177, Q_HO180, fun h0_ _ => absurd ((hoff 19 (by kernel_rfl)).symm.trans h0_) (by decide), Q_HO187, fun h0_ => absurd ((hoff 26 (by kernel_rfl)).symm.trans h0_) (by decide), fun h0_ => absurd ((hoff 26 (by kernel_rfl)).symm.trans h0_) (by decide), fun h0_ => absurd ((hoff 26 (by kernel_rfl)).symm.trans h0_) (by decide), fun h0_ => absurd ((hoff 27 (by kernel_rfl)).symm.trans h0_) (by decide)⟩
      refine steps_cons ?_ ?_
      ·rintro b a w' ⟨v171, v176, v179, v182, v186, v189, m27_, ha, Q_HO_6, Q_HO_7, Q_HB, Q_HO172, Q_HO177, Q_HO180, Q_HO183, Q_HO187, Q_HO190, Q_HO_6_e26, Q_HO_7_e26, Q_X27_⟩ hb_ hon hoff
       refine ⟨_, rfl, fun K hK => ?_⟩
       have e57 : a.tmps[57]? = some (.agg #[.int .i64 (wrap64 (254 + (wrap64 (1 + (Go.bits .and .i64 a1 63))))), .int .i64 0, .string (⟨#[]⟩ : ByteArray), .int .i64 0, .string (⟨#[]⟩ : ByteArray), .bool false]) := by rw [ha]; exact putSel_on (e := (18, 57, .agg #[.int .i64 (wrap64 (254 + (wrap64 (1 + (Go.bits .and .i64 a1 63))))), .int .i64 0, .string (⟨#[]⟩ : ByteArray), .int .i64 0, .string (⟨#[]⟩ : ByteArray), .bool false])) 13 rfl rfl (hon 18 (by kernel_rfl)) rfl
       replace ha := am_ ha
       have HO_6 := am_ (Q_HO_6 (hoff 26 (by kernel_rfl)))
       have HO_7 := am_ (Q_HO_7 (hoff 26 (by kernel_rfl)))
       have HB := am_ Q_HB
       refine Kd.R_lit_step k37 _ 37 ?hg (N := 58) ?hd (xs := ([(⟨wrap64 (254 + (wrap64 (1 + (Go.bits .and .i64 a1 63)))), 0, (⟨#[]⟩ : ByteArray), 0, (⟨#[]⟩ : ByteArray), false⟩ : S37)] : List (S37))) (inner := [.int .i64 (wrap64 (254 + (wrap64 (1 + (Go.bits .and .i64 a1 63))))), .int .i64 0, .string (⟨#[]⟩ : ByteArray), .int .i64 0, .string (⟨#[]⟩ : ByteArray), .bool false]) (ok := fun _ => True) (okp := fun _ => True) ?hr ?hp (fun _ hk => hk) trivial (Below.refl _ _) (Nat.le_refl _) (by simp) ?_; (case hd => rfl); (case hg => rfl); (case hr => first | (go_simp; done) | (go_simp; rfl)); (case hp => exact (Reps.c6 (show Kd.M k37 _ _ _ (⟨wrap64 (254 + (wrap64 (1 + (Go.bits .and .i64 a1 63)))), 0, (⟨#[]⟩ : ByteArray), 0, (⟨#[]⟩ : ByteArray), false⟩ : S37) [.int .i64 (wrap64 (254 + (wrap64 (1 + (Go.bits .and .i64 a1 63))))), .int .i64 0, .string (⟨#[]⟩ : ByteArray), .int .i64 0, .string (⟨#[]⟩ : ByteArray), .bool false] from (k37_mkM _ _ _ (⟨wrap64 (254 + (wrap64 (1 + (Go.bits .and .i64 a1 63)))), 0, (⟨#[]⟩ : ByteArray), 0, (⟨#[]⟩ : ByteArray), false⟩ : S37) )) (Reps.none _ _)))
       intro v182 w37 ho38 hb hg_ hnew_
       clear hg_ hnew_
       (first | rw [← Ny181.out] at ho38 | (simp only [Int.reduceToNat] at ho38; rw [← Ny181.out] at ho38))
       have n0_ := am_ (r5_ (by (with_reducible repeat (first | apply r1_ | apply r2_ | apply r3_)); exact HO_6.out) (r4_ ho38) hb)
       have n1_ := am_ (r5_ (by (with_reducible repeat (first | apply r1_ | apply r2_ | apply r3_)); exact HO_7.out) (r4_ ho38) hb)
       have n2_ := am_ (Kd.R_lower (Kd.R_new' (Kd.R_new' ho38 (Kd.R_lt (by (with_reducible repeat (first | apply r1_ | apply r2_ | apply r3_)); exact HO_6.out))) (Kd.R_lt (by (with_reducible repeat (first | apply r1_ | apply r2_ | apply r3_)); exact HO_7.out))) (bz_ (by repeat (with_reducible first | exact HB.out | apply p3_ | apply p1_ | apply p2_))))
       have n3_ := am_ (bt_ (by repeat (with_reducible first | exact HB.out | apply p3_ | apply p1_ | apply p2_)) hb)
       have z_HO172 := fun (h0_ : b 6 = true) (h1_ : b 26 = false) => (show Kd.R k37 37 w37 w.heap.size (fun k_ => some k_ ≠ (.slice (some ad168) y162.length co36 : Value).ownBlock ∧ some k_ ≠ (.slice AoM_ x7_1.length coM_ : Value).ownBlock) v171 y170 from by first | exact (r5_ (by (with_reducible repeat (first | apply r1_ | apply r2_ | apply r3_)); exact (Q_HO172 h0_ h1_)) (r4_ ho38) hb) | exact Kd.R_mono (r5_ (by (with_reducible repeat (first | apply r1_ | apply r2_ | apply r3_)); exact (Q_HO172 h0_ h1_)) (r4_ ho38) hb) (fun _ h_ => by first | trivial | exact h_ | exact h_.1))
       have z_HO177 := fun (h0_ : b 13 = true) (h1_ : b 26 = false) => (show Kd.R k37 37 w37 w.heap.size (fun k_ => some k_ ≠ (.slice (some ad168) y162.length co36 : Value).ownBlock ∧ some k_ ≠ (.slice AoM_ x7_1.length coM_ : Value).ownBlock) v176 y175 from by first | exact (r5_ (by (with_reducible repeat (first | apply r1_ | apply r2_ | apply r3_)); exact (Q_HO177 h0_ h1_)) (r4_ ho38) hb) | exact Kd.R_mono (r5_ (by (with_reducible repeat (first | apply r1_ | apply r2_ | apply r3_)); exact (Q_HO177 h0_ h1_)) (r4_ ho38) hb) (fun _ h_ => by first | trivial | exact h_ | exact h_.1))
       have z_HO180 := fun (h0_ : b 15 = true) (h1_ : b 26 = false) => (show Kd.R k37 37 w37 w.heap.size (fun k_ => some k_ ≠ (.slice (some ad168) y162.length co36 : Value).ownBlock ∧ some k_ ≠ (.slice AoM_ x7_1.length coM_ : Value).ownBlock) v179 y178 from by first | exact (r5_ (by (with_reducible repeat (first | apply r1_ | apply r2_ | apply r3_)); exact (Q_HO180 h0_ h1_)) (r4_ ho38) hb) | exact Kd.R_mono (r5_ (by (with_reducible repeat (first | apply r1_ | apply r2_ | apply r3_)); exact (Q_HO180 h0_ h1_)) (r4_ ho38) hb) (fun _ h_ => by first | trivial | exact h_ | exact h_.1))
       have z_HO187 := fun (h0_ : b 25 = true) (h1_ : b 26 = false) => (show Kd.R k37 37 w37 w.heap.size (fun k_ => some k_ ≠ (.slice (some ad168) y162.length co36 : Value).ownBlock ∧ some k_ ≠ (.slice AoM_ x7_1.length coM_ : Value).ownBlock) v186 y185 from by first | exact (r5_ (by (with_reducible repeat (first | apply r1_ | apply r2_ | apply r3_)); exact (Q_HO187 h0_ h1_)) (r4_ ho38) hb) | exact Kd.R_mono (r5_ (by (with_reducible repeat (first | apply r1_ | apply r2_ | apply r3_)); exact (Q_HO187 h0_ h1_)) (r4_ ho38) hb) (fun _ h_ => by first | trivial | exact h_ | exact h_.1))
       clear HO_6
       clear HO_7
       clear HB
       have HO_6 := n0_
       have HO_7 := n1_
       have HO183 := n2_
       have HB := n3_
       clear n0_ n1_ n2_ n3_
       clear hb ho38
       refine hK.out _ _ ⟨v171, v176, v179, v182, v186, v189, m27_, (by rw [ha.out]; exact putSel_upk 14 hb_ rfl rfl rfl), fun _ => (by (with_reducible repeat (first | apply r1_ | apply r2_ | apply r3_)); exact Kd.R_mono HO_6.out (fun _ hk => by ((repeat' apply And.intro) <;> (first | trivial | exact hk | exact hk.1 | exact hk.2 | exact hk.2.1 | exact hk.2.2 | exact hk.2.2.1 | exact hk.2.2.2 | exact hk.2.2.2.1 | exact hk.2.2.2.2 | exact hk.2.2.2.2.1 | exact hk.2.2.2.2.2 | exact hk.2.2.2.2.2.1 | exact hk.2.2.2.2.2.2 | exact hk.1.1 | exact hk.1.2)))), fun _ => (by (with_reducible repeat (first | apply r1_ | apply r2_ | apply r3_)); exact Kd.R_mono HO_7.out (fun _ hk => by ((repeat' apply And.intro) <;> (first | trivial | exact hk | exact hk.1 | exact hk.2 | exact hk.2.1 | exact hk.2.2 | exact hk.2.2.1 | exact hk.2.2.2 | exact hk.2.2.2.1 | exact hk.2.2.2.2 | exact hk.2.2.2.2.1 | exact hk.2.2.2.2.2 | exact hk.2.2.2.2.2.1 | exact hk.2.2.2.2.2.2 | exact hk.1.1 | exact hk.1.2)))), (by repeat (with_reducible first | exact HB.out | apply p3_ | apply p1_ | apply p2_)), z_HO172, z_HO177, z_HO180, fun _ _ => (by (with_reducible repeat (first | apply r1_ | apply r2_ | apply r3_)); exact Kd.R_mono HO183.out (fun _ hk => by ((repeat' apply And.intro) <;> (first | trivial | exact hk | exact hk.1 | exact hk.2 | exact hk.2.1 | exact hk.2.2 | exact hk.2.2.1 | exact hk.2.2.2 | exact hk.2.2.2.1 | exact hk.2.2.2.2 | exact hk.2.2.2.2.1 | exact hk.2.2.2.2.2 | exact hk.2.2.2.2.2.1 | exact hk.2.2.2.2.2.2 | exact hk.1.1 | exact hk.1.2)))), z_HO187, fun h0_ => absurd ((hoff 26 (by kernel_rfl)).symm.trans h0_) (by decide), fun h0_ => absurd ((hoff 26 (by kernel_rfl)).symm.trans h0_) (by decide), fun h0_ => absurd ((hoff 26 (by kernel_rfl)).symm.trans h0_) (by decide), fun h0_ => absurd ((hoff 27 (by kernel_rfl)).symm.trans h0_) (by decide)⟩
      refine steps_cons ?_ ?_
      ·rintro b a w' ⟨v171, v176, v179, v182, v186, v189, m27_, ha, Q_HO_6, Q_HO_7, Q_HB, Q_HO172, Q_HO177, Q_HO180, Q_HO183, Q_HO187, Q_HO190, Q_HO_6_e26, Q_HO_7_e26, Q_X27_⟩ hb_ hon hoff
       refine ⟨_, rfl, fun K hK => ?_⟩
       have e60 : a.tmps[60]? = some (.slice (some ad168) y162.length co36) := by rw [ha]; exact (putSel_off rfl).trans rfl
       replace ha := am_ ha
       have HO_6 := am_ (Q_HO_6 (hoff 26 (by kernel_rfl)))
       have HO_7 := am_ (Q_HO_7 (hoff 26 (by kernel_rfl)))
       have HB := am_ Q_HB
       refine value_ (w1 := w') (v := .pointer (some ad168)) (by rfl) rfl ?_ ?_
       ·go_simp
        (try simp only [i64_w])
        try rfl
       refine hK.out _ _ ⟨v171, v176, v179, v182, v186, v189, m27_, (by rw [ha.out]; exact putSel_upk 15 hb_ rfl rfl rfl), Q_HO_6, Q_HO_7, Q_HB, Q_HO172, Q_HO177, Q_HO180, Q_HO183, fun h0_ _ => absurd ((hoff 25 (by kernel_rfl)).symm.trans h0_) (by decide), fun h0_ => absurd ((hoff 26 (by kernel_rfl)).symm.trans h0_) (by decide), fun h0_ => absurd ((hoff 26 (by kernel_rfl)).symm.trans h0_) (by decide), fun h0_ => absurd ((hoff 26 (by kernel_rfl)).symm.trans h0_) (by decide), fun h0_ => absurd ((hoff 27 (by kernel_rfl)).symm.trans h0_) (by decide)⟩
      refine steps_cons ?_ ?_
      ·rintro b a w' ⟨v171, v176, v179, v182, v186, v189, m27_, ha, Q_HO_6, Q_HO_7, Q_HB, Q_HO172, Q_HO177, Q_HO180, Q_HO183, Q_HO187, Q_HO190, Q_HO_6_e26, Q_HO_7_e26, Q_X27_⟩ hb_ hon hoff
       refine ⟨_, rfl, fun K hK => ?_⟩
       have e61 : a.tmps[61]? = some (.pointer (some ad168)) := by rw [ha]; exact putSel_on (e := (22, 61, .pointer (some ad168))) 15 rfl rfl (hon 22 (by kernel_rfl)) rfl
       replace ha := am_ ha
       have HO_6 := am_ (Q_HO_6 (hoff 26 (by kernel_rfl)))
       have HO_7 := am_ (Q_HO_7 (hoff 26 (by kernel_rfl)))
       have HB := am_ Q_HB
       obtain ⟨ad184_z, e184_z, hx184_0_z, hx184_1_z, hx184_2_z, hx184_3_z, hx184_4_z, hx184_5_z⟩ := at_T37 (Kd.R_reads' HO_6.out).2.2 0 (of_eq_true p184) (of_eq_true q184)
       cases e184_z
       have hs24_ : w'.cell? ad168 = some (.int .i64 ((rd_T37 y162 0).f0)) := (by first | exact hx184_0_z | (have h_ := hx184_0_z; (try simp only [Int.reduceToNat, Nat.zero_mul, Nat.reduceMul, Nat.reduceEqDiff, Go.Addr.add, ↓reduceIte, z0_] at h_); exact h_))
       have hs25_ : w'.cell? ⟨ad168.block, ad168.off + 1, none⟩ = some (.int .i64 ((rd_T37 y162 0).f1)) := (by first | exact hx184_1_z | (have h_ := hx184_1_z; (try simp only [Int.reduceToNat, Nat.zero_mul, Nat.reduceMul, Nat.reduceEqDiff, Go.Addr.add, ↓reduceIte, z0_] at h_); exact h_))
       have hs26_ : w'.cell? ⟨ad168.block, ad168.off + 2, none⟩ = some (.string ((rd_T37 y162 0).f2)) := (by first | exact hx184_2_z | (have h_ := hx184_2_z; (try simp only [Int.reduceToNat, Nat.zero_mul, Nat.reduceMul, Nat.reduceEqDiff, Go.Addr.add, ↓reduceIte, z0_] at h_); exact h_))
       have hs27_ : w'.cell? ⟨ad168.block, ad168.off + 3, none⟩ = some (.int .i64 ((rd_T37 y162 0).f3)) := (by first | exact hx184_3_z | (have h_ := hx184_3_z; (try simp only [Int.reduceToNat, Nat.zero_mul, Nat.reduceMul, Nat.reduceEqDiff, Go.Addr.add, ↓reduceIte, z0_] at h_); exact h_))
       have hs28_ : w'.cell? ⟨ad168.block, ad168.off + 4, none⟩ = some (.string ((rd_T37 y162 0).f4)) := (by first | exact hx184_4_z | (have h_ := hx184_4_z; (try simp only [Int.reduceToNat, Nat.zero_mul, Nat.reduceMul, Nat.reduceEqDiff, Go.Addr.add, ↓reduceIte, z0_] at h_); exact h_))
       have hs29_ : w'.cell? ⟨ad168.block, ad168.off + 5, none⟩ = some (.bool ((rd_T37 y162 0).f5)) := (by first | exact hx184_5_z | (have h_ := hx184_5_z; (try simp only [Int.reduceToNat, Nat.zero_mul, Nat.reduceMul, Nat.reduceEqDiff, Go.Addr.add, ↓reduceIte, z0_] at h_); exact h_))
       refine value_ (w1 := w') (v := .agg #[.int .i64 ((rd_T37 y162 0).f0), .int .i64 ((rd_T37 y162 0).f1), .string ((rd_T37 y162 0).f2), .int .i64 ((rd_T37 y162 0).f3), .string ((rd_T37 y162 0).f4), .bool ((rd_T37 y162 0).f5)]) (by rfl) rfl ?_ ?_
       ·go_simp
        (try simp only [i64_w])
        try rfl
       refine hK.out _ _ ⟨v171, v176, v179, v182, v186, v189, m27_, (by rw [ha.out]; exact putSel_upk 16 hb_ rfl rfl rfl), Q_HO_6, Q_HO_7, Q_HB, Q_HO172, Q_HO177, Q_HO180, Q_HO183, fun h0_ _ => absurd ((hoff 25 (by kernel_rfl)).symm.trans h0_) (by decide), fun h0_ => absurd ((hoff 26 (by kernel_rfl)).symm.trans h0_) (by decide), fun h0_ => absurd ((hoff 26 (by kernel_rfl)).symm.trans h0_) (by decide), fun h0_ => absurd ((hoff 26 (by kernel_rfl)).symm.trans h0_) (by decide), fun h0_ => absurd ((hoff 27 (by kernel_rfl)).symm.trans h0_) (by decide)⟩
      refine steps_cons ?_ ?_
      ·rintro b a w' ⟨v171, v176, v179, v182, v186, v189, m27_, ha, Q_HO_6, Q_HO_7, Q_HB, Q_HO172, Q_HO177, Q_HO180, Q_HO183, Q_HO187, Q_HO190, Q_HO_6_e26, Q_HO_7_e26, Q_X27_⟩ hb_ hon hoff
       refine ⟨_, rfl, fun K hK => ?_⟩
       replace ha := am_ ha
       have HO_6 := am_ (Q_HO_6 (hoff 26 (by kernel_rfl)))
       have HO_7 := am_ (Q_HO_7 (hoff 26 (by kernel_rfl)))
       have HB := am_ Q_HB
       refine value_ (w1 := w') (v := .agg #[.int .i64 11, .int .i64 2, .string (⟨#[]⟩ : ByteArray), .int .i64 0, .string (⟨#[]⟩ : ByteArray), .bool false]) (by rfl) rfl ?_ ?_
       ·go_simp
        (try simp only [i64_w])
        try rfl
       refine hK.out _ _ ⟨v171, v176, v179, v182, v186, v189, m27_, (by rw [ha.out]; exact putSel_upk 17 hb_ rfl rfl rfl), Q_HO_6, Q_HO_7, Q_HB, Q_HO172, Q_HO177, Q_HO180, Q_HO183, fun h0_ _ => absurd ((hoff 25 (by kernel_rfl)).symm.trans h0_) (by decide), fun h0_ => absurd ((hoff 26 (by kernel_rfl)).symm.trans h0_) (by decide), fun h0_ => absurd ((hoff 26 (by kernel_rfl)).symm.trans h0_) (by decide), fun h0_ => absurd ((hoff 26 (by kernel_rfl)).symm.trans h0_) (by decide), fun h0_ => absurd ((hoff 27 (by kernel_rfl)).symm.trans h0_) (by decide)⟩
      refine steps_cons ?_ ?_
      ·rintro b a w' ⟨v171, v176, v179, v182, v186, v189, m27_, ha, Q_HO_6, Q_HO_7, Q_HB, Q_HO172, Q_HO177, Q_HO180, Q_HO183, Q_HO187, Q_HO190, Q_HO_6_e26, Q_HO_7_e26, Q_X27_⟩ hb_ hon hoff
       refine ⟨_, rfl, fun K hK => ?_⟩
       have e62 : a.tmps[62]? = some (.agg #[.int .i64 ((rd_T37 y162 0).f0), .int .i64 ((rd_T37 y162 0).f1), .string ((rd_T37 y162 0).f2), .int .i64 ((rd_T37 y162 0).f3), .string ((rd_T37 y162 0).f4), .bool ((rd_T37 y162 0).f5)]) := by rw [ha]; exact putSel_on (e := (23, 62, .agg #[.int .i64 ((rd_T37 y162 0).f0), .int .i64 ((rd_T37 y162 0).f1), .string ((rd_T37 y162 0).f2), .int .i64 ((rd_T37 y162 0).f3), .string ((rd_T37 y162 0).f4), .bool ((rd_T37 y162 0).f5)])) 16 rfl rfl (hon 23 (by kernel_rfl)) rfl
       have e63 : a.tmps[63]? = some (.agg #[.int .i64 11, .int .i64 2, .string (⟨#[]⟩ : ByteArray), .int .i64 0, .string (⟨#[]⟩ : ByteArray), .bool false]) := by rw [ha]; exact putSel_on (e := (24, 63, .agg #[.int .i64 11, .int .i64 2, .string (⟨#[]⟩ : ByteArray), .int .i64 0, .string (⟨#[]⟩ : ByteArray), .bool false])) 17 rfl rfl (hon 24 (by kernel_rfl)) rfl
       replace ha := am_ ha
       have HO_6 := am_ (Q_HO_6 (hoff 26 (by kernel_rfl)))
       have HO_7 := am_ (Q_HO_7 (hoff 26 (by kernel_rfl)))
       have HB := am_ Q_HB
       refine Kd.R_lit_step k37 _ 37 ?hg (N := 64) ?hd (xs := ([(⟨(rd_T37 y162 0).f0, (rd_T37 y162 0).f1, (rd_T37 y162 0).f2, (rd_T37 y162 0).f3, (rd_T37 y162 0).f4, (rd_T37 y162 0).f5⟩ : S37), (⟨11, 2, (⟨#[]⟩ : ByteArray), 0, (⟨#[]⟩ : ByteArray), false⟩ : S37)] : List (S37))) (inner := [.int .i64 ((rd_T37 y162 0).f0), .int .i64 ((rd_T37 y162 0).f1), .string ((rd_T37 y162 0).f2), .int .i64 ((rd_T37 y162 0).f3), .string ((rd_T37 y162 0).f4), .bool ((rd_T37 y162 0).f5), .int .i64 11, .int .i64 2, .string (⟨#[]⟩ : ByteArray), .int .i64 0, .string (⟨#[]⟩ : ByteArray), .bool false]) (ok := fun _ => True) (okp := fun _ => True) ?hr ?hp (fun _ hk => hk) trivial (Below.refl _ _) (Nat.le_refl _) (by simp) ?_; (case hd => rfl); (case hg => rfl); (case hr => first | (go_simp; done) | (go_simp; rfl)); (case hp => exact (Reps.c6 (show Kd.M k37 _ _ _ (⟨(rd_T37 y162 0).f0, (rd_T37 y162 0).f1, (rd_T37 y162 0).f2, (rd_T37 y162 0).f3, (rd_T37 y162 0).f4, (rd_T37 y162 0).f5⟩ : S37) [.int .i64 ((rd_T37 y162 0).f0), .int .i64 ((rd_T37 y162 0).f1), .string ((rd_T37 y162 0).f2), .int .i64 ((rd_T37 y162 0).f3), .string ((rd_T37 y162 0).f4), .bool ((rd_T37 y162 0).f5)] from (k37_mkM _ _ _ (⟨(rd_T37 y162 0).f0, (rd_T37 y162 0).f1, (rd_T37 y162 0).f2, (rd_T37 y162 0).f3, (rd_T37 y162 0).f4, (rd_T37 y162 0).f5⟩ : S37) )) (Reps.c6 (show Kd.M k37 _ _ _ (⟨11, 2, (⟨#[]⟩ : ByteArray), 0, (⟨#[]⟩ : ByteArray), false⟩ : S37) [.int .i64 11, .int .i64 2, .string (⟨#[]⟩ : ByteArray), .int .i64 0, .string (⟨#[]⟩ : ByteArray), .bool false] from (k37_mkM _ _ _ (⟨11, 2, (⟨#[]⟩ : ByteArray), 0, (⟨#[]⟩ : ByteArray), false⟩ : S37) )) (Reps.none _ _))))
       intro v186 w37 ho38 hb hg_ hnew_
       clear hg_ hnew_
       (first | rw [← Ny185.out] at ho38 | (simp only [Int.reduceToNat] at ho38; rw [← Ny185.out] at ho38))
       have n0_ := am_ (r5_ (by (with_reducible repeat (first | apply r1_ | apply r2_ | apply r3_)); exact HO_6.out) (r4_ ho38) hb)
       have n1_ := am_ (r5_ (by (with_reducible repeat (first | apply r1_ | apply r2_ | apply r3_)); exact HO_7.out) (r4_ ho38) hb)
       have n2_ := am_ (Kd.R_lower (Kd.R_new' (Kd.R_new' ho38 (Kd.R_lt (by (with_reducible repeat (first | apply r1_ | apply r2_ | apply r3_)); exact HO_6.out))) (Kd.R_lt (by (with_reducible repeat (first | apply r1_ | apply r2_ | apply r3_)); exact HO_7.out))) (bz_ (by repeat (with_reducible first | exact HB.out | apply p3_ | apply p1_ | apply p2_))))
       have n3_ := am_ (bt_ (by repeat (with_reducible first | exact HB.out | apply p3_ | apply p1_ | apply p2_)) hb)
       have z_HO172 := fun (h0_ : b 6 = true) (h1_ : b 26 = false) => (show Kd.R k37 37 w37 w.heap.size (fun k_ => some k_ ≠ (.slice (some ad168) y162.length co36 : Value).ownBlock ∧ some k_ ≠ (.slice AoM_ x7_1.length coM_ : Value).ownBlock) v171 y170 from by first | exact (r5_ (by (with_reducible repeat (first | apply r1_ | apply r2_ | apply r3_)); exact (Q_HO172 h0_ h1_)) (r4_ ho38) hb) | exact Kd.R_mono (r5_ (by (with_reducible repeat (first | apply r1_ | apply r2_ | apply r3_)); exact (Q_HO172 h0_ h1_)) (r4_ ho38) hb) (fun _ h_ => by first | trivial | exact h_ | exact h_.1))
       have z_HO177 := fun (h0_ : b 13 = true) (h1_ : b 26 = false) => (show Kd.R k37 37 w37 w.heap.size (fun k_ => some k_ ≠ (.slice (some ad168) y162.length co36 : Value).ownBlock ∧ some k_ ≠ (.slice AoM_ x7_1.length coM_ : Value).ownBlock) v176 y175 from by first | exact (r5_ (by (with_reducible repeat (first | apply r1_ | apply r2_ | apply r3_)); exact (Q_HO177 h0_ h1_)) (r4_ ho38) hb) | exact Kd.R_mono (r5_ (by (with_reducible repeat (first | apply r1_ | apply r2_ | apply r3_)); exact (Q_HO177 h0_ h1_)) (r4_ ho38) hb) (fun _ h_ => by first | trivial | exact h_ | exact h_.1))
       have z_HO180 := fun (h0_ : b 15 = true) (h1_ : b 26 = false) => (show Kd.R k37 37 w37 w.heap.size (fun k_ => some k_ ≠ (.slice (some ad168) y162.length co36 : Value).ownBlock ∧ some k_ ≠ (.slice AoM_ x7_1.length coM_ : Value).ownBlock) v179 y178 from by first | exact (r5_ (by (with_reducible repeat (first | apply r1_ | apply r2_ | apply r3_)); exact (Q_HO180 h0_ h1_)) (r4_ ho38) hb) | exact Kd.R_mono (r5_ (by (with_reducible repeat (first | apply r1_ | apply r2_ | apply r3_)); exact (Q_HO180 h0_ h1_)) (r4_ ho38) hb) (fun _ h_ => by first | trivial | exact h_ | exact h_.1))
       have z_HO183 := fun (h0_ : b 19 = true) (h1_ : b 26 = false) => (show Kd.R k37 37 w37 w.heap.size (fun k_ => some k_ ≠ (.slice (some ad168) y162.length co36 : Value).ownBlock ∧ some k_ ≠ (.slice AoM_ x7_1.length coM_ : Value).ownBlock) v182 y181 from by first | exact (r5_ (by (with_reducible repeat (first | apply r1_ | apply r2_ | apply r3_)); exact (Q_HO183 h0_ h1_)) (r4_ ho38) hb) | exact Kd.R_mono (r5_ (by (with_reducible repeat (first | apply r1_ | apply r2_ | apply r3_)); exact (Q_HO183 h0_ h1_)) (r4_ ho38) hb) (fun _ h_ => by first | trivial | exact h_ | exact h_.1))
       clear HO_6
       clear HO_7
       clear HB
       have HO_6 := n0_
       have HO_7 := n1_
       have HO187 := n2_
       have HB := n3_
       clear n0_ n1_ n2_ n3_
       clear hb ho38
       refine hK.out _ _ ⟨v171, v176, v179, v182, v186, v189, m27_, (by rw [ha.out]; exact putSel_upk 18 hb_ rfl rfl rfl), fun _ => (by (with_reducible repeat (first | apply r1_ | apply r2_ | apply r3_)); exact Kd.R_mono HO_6.out (fun _ hk => by ((repeat' apply And.intro) <;> (first | trivial | exact hk | exact hk.1 | exact hk.2 | exact hk.2.1 | exact hk.2.2 | exact hk.2.2.1 | exact hk.2.2.2 | exact hk.2.2.2.1 | exact hk.2.2.2.2 | exact hk.2.2.2.2.1 | exact hk.2.2.2.2.2 | exact hk.2.2.2.2.2.1 | exact hk.2.2.2.2.2.2 | exact hk.1.1 | exact hk.1.2)))), fun _ => (by (with_reducible repeat (first | apply r1_ | apply r2_ | apply r3_)); exact Kd.R_mono HO_7.out (fun _ hk => by ((repeat' apply And.intro) <;> (first | trivial | exact hk | exact hk.1 | exact hk.2 | exact hk.2.1 | exact hk.2.2 | exact hk.2.2.1 | exact hk.2.2.2 | exact hk.2.2.2.1 | exact hk.2.2.2.2 | exact hk.2.2.2.2.1 | exact hk.2.2.2.2.2 | exact hk.2.2.2.2.2.1 | exact hk.2.2.2.2.2.2 | exact hk.1.1 | exact hk.1.2)))), (by repeat (with_reducible first | exact HB.out | apply p3_ | apply p1_ | apply p2_)), z_HO172, z_HO177, z_HO180, z_HO183, fun _ _ => (by (with_reducible repeat (first | apply r1_ | apply r2_ | apply r3_)); exact Kd.R_mono HO187.out (fun _ hk => by ((repeat' apply And.intro) <;> (first | trivial | exact hk | exact hk.1 | exact hk.2 | exact hk.2.1 | exact hk.2.2 | exact hk.2.2.1 | exact hk.2.2.2 | exact hk.2.2.2.1 | exact hk.2.2.2.2 | exact hk.2.2.2.2.1 | exact hk.2.2.2.2.2 | exact hk.2.2.2.2.2.1 | exact hk.2.2.2.2.2.2 | exact hk.1.1 | exact hk.1.2)))), fun h0_ => absurd ((hoff 26 (by kernel_rfl)).symm.trans h0_) (by decide), fun h0_ => absurd ((hoff 26 (by kernel_rfl)).symm.trans h0_) (by decide), fun h0_ => absurd ((hoff 26 (by kernel_rfl)).symm.trans h0_) (by decide), fun h0_ => absurd ((hoff 27 (by kernel_rfl)).symm.trans h0_) (by decide)⟩
      refine steps_cons ?_ ?_
      ·rintro b a w' ⟨v171, v176, v179, v182, v186, v189, m27_, ha, Q_HO_6, Q_HO_7, Q_HB, Q_HO172, Q_HO177, Q_HO180, Q_HO183, Q_HO187, Q_HO190, Q_HO_6_e26, Q_HO_7_e26, Q_X27_⟩ hb_ hon hoff
       refine ⟨_, rfl, fun K hK => ?_⟩
       have e45 : a.tmps[45]? = some (v171) := by rw [ha]; exact putSel_on (e := (6, 45, v171)) 4 rfl rfl (hon 6 (by kernel_rfl)) rfl
       have e52 : a.tmps[52]? = some (v176) := by rw [ha]; exact putSel_on (e := (13, 52, v176)) 9 rfl rfl (hon 13 (by kernel_rfl)) rfl
       have e54 : a.tmps[54]? = some (v179) := by rw [ha]; exact putSel_on (e := (15, 54, v179)) 11 rfl rfl (hon 15 (by kernel_rfl)) rfl
       have e58 : a.tmps[58]? = some (v182) := by rw [ha]; exact putSel_on (e := (19, 58, v182)) 14 rfl rfl (hon 19 (by kernel_rfl)) rfl
       have e59 : a.tmps[59]? = some (.slice AoM_ x7_1.length coM_) := by rw [ha]; exact (putSel_off rfl).trans rfl
       have e64 : a.tmps[64]? = some (v186) := by rw [ha]; exact putSel_on (e := (25, 64, v186)) 18 rfl rfl (hon 25 (by kernel_rfl)) rfl
       replace ha := am_ ha
       have HO_6 := am_ (Q_HO_6 hb_)
       have HO_7 := am_ (Q_HO_7 hb_)
       have HB := am_ Q_HB
       have HO172 := am_ (Q_HO172 (hon 6 (by kernel_rfl)) hb_)
       have HO177 := am_ (Q_HO177 (hon 13 (by kernel_rfl)) hb_)
       have HO180 := am_ (Q_HO180 (hon 15 (by kernel_rfl)) hb_)
       have HO183 := am_ (Q_HO183 (hon 19 (by kernel_rfl)) hb_)
       have HO187 := am_ (Q_HO187 (hon 25 (by kernel_rfl)) hb_)
       obtain ⟨Ao48, co48, eo48⟩ := Kd.R_slice HO172.out
       (first | subst eo48 | (injection eo48 with f1_ f2_ f3_; have f4_ := f1_.symm; have f5_ := f3_.symm; clear f1_ f2_ f3_; subst f4_; subst f5_))
       obtain ⟨Ao49, co49, eo49⟩ := Kd.R_slice HO177.out
       (first | subst eo49 | (injection eo49 with f1_ f2_ f3_; have f4_ := f1_.symm; have f5_ := f3_.symm; clear f1_ f2_ f3_; subst f4_; subst f5_))
       obtain ⟨Ao50, co50, eo50⟩ := Kd.R_slice HO180.out
       (first | subst eo50 | (injection eo50 with f1_ f2_ f3_; have f4_ := f1_.symm; have f5_ := f3_.symm; clear f1_ f2_ f3_; subst f4_; subst f5_))
       obtain ⟨Ao51, co51, eo51⟩ := Kd.R_slice HO183.out
       (first | subst eo51 | (injection eo51 with f1_ f2_ f3_; have f4_ := f1_.symm; have f5_ := f3_.symm; clear f1_ f2_ f3_; subst f4_; subst f5_))
       obtain ⟨Ao53, co53, eo53⟩ := Kd.R_slice HO187.out
       (first | subst eo53 | (injection eo53 with f1_ f2_ f3_; have f4_ := f1_.symm; have f5_ := f3_.symm; clear f1_ f2_ f3_; subst f4_; subst f5_))
       refine Kd.N_lit_step (Kd.slice 37 k37) _ 27 ?hg (N' := 65) ?hd (xs := ([y170, y175, y178, y181, x7_1, y185] : List (List (S37)))) (inner := [.slice Ao48 y170.length co48, .slice Ao49 y175.length co49, .slice Ao50 y178.length co50, .slice Ao51 y181.length co51, .slice AoM_ x7_1.length coM_, .slice Ao53 y185.length co53]) (ok := (fun k_ => some k_ ≠ (.slice (some ad168) y162.length co36 : Value).ownBlock)) (okp := (fun k_ => some k_ ≠ (.slice (some ad168) y162.length co36 : Value).ownBlock)) ?hr ?hp (fun _ hk => hk) ((show ∀ k_, w'.heap.size ≤ k_ → (fun k_ => some k_ ≠ (.slice (some ad168) y162.length co36 : Value).ownBlock) k_ from fun k_ hk => Kd.fresh' (Kd.R_lt (by (with_reducible repeat (first | apply r1_ | apply r2_ | apply r3_)); exact HO_6.out)) k_ hk) _ (Nat.le_refl _)) (Below.refl _ _) (Nat.le_refl _) (by simp) ?_; (case hd => rfl); (case hg => rfl); (case hr => first | (go_simp; done) | (go_simp; rfl)); (case hp => exact (Reps.one (show Kd.FK (Kd.slice 37 k37) _ _ y170 [.slice Ao48 y170.length co48] from (Kd.FK_slice_mk (Kd.R_reads' (Kd.R_mono (ok' := (fun k_ => some k_ ≠ (.slice (some ad168) y162.length co36 : Value).ownBlock)) (HO172.out) (fun k_ hk => by ((repeat' apply And.intro) <;> (first | trivial | exact hk | exact hk.1 | exact hk.2 | exact hk.2.1 | exact hk.2.2 | exact hk.2.2.1 | exact hk.2.2.2 | exact hk.2.2.2.1 | exact hk.2.2.2.2 | exact hk.2.2.2.2.1 | exact hk.2.2.2.2.2 | exact hk.2.2.2.2.2.1 | exact hk.2.2.2.2.2.2 | exact hk.1.1 | exact hk.1.2))))).2.1 (Kd.R_F (Kd.R_mono (ok' := (fun k_ => some k_ ≠ (.slice (some ad168) y162.length co36 : Value).ownBlock)) (HO172.out) (fun k_ hk => by ((repeat' apply And.intro) <;> (first | trivial | exact hk | exact hk.1 | exact hk.2 | exact hk.2.1 | exact hk.2.2 | exact hk.2.2.1 | exact hk.2.2.2 | exact hk.2.2.2.1 | exact hk.2.2.2.2 | exact hk.2.2.2.2.1 | exact hk.2.2.2.2.2 | exact hk.2.2.2.2.2.1 | exact hk.2.2.2.2.2.2 | exact hk.1.1 | exact hk.1.2))))))) (Reps.one (show Kd.FK (Kd.slice 37 k37) _ _ y175 [.slice Ao49 y175.length co49] from (Kd.FK_slice_mk (Kd.R_reads' (Kd.R_mono (ok' := (fun k_ => some k_ ≠ (.slice (some ad168) y162.length co36 : Value).ownBlock)) (HO177.out) (fun k_ hk => by ((repeat' apply And.intro) <;> (first | trivial | exact hk | exact hk.1 | exact hk.2 | exact hk.2.1 | exact hk.2.2 | exact hk.2.2.1 | exact hk.2.2.2 | exact hk.2.2.2.1 | exact hk.2.2.2.2 | exact hk.2.2.2.2.1 | exact hk.2.2.2.2.2 | exact hk.2.2.2.2.2.1 | exact hk.2.2.2.2.2.2 | exact hk.1.1 | exact hk.1.2))))).2.1 (Kd.R_F (Kd.R_mono (ok' := (fun k_ => some k_ ≠ (.slice (some ad168) y162.length co36 : Value).ownBlock)) (HO177.out) (fun k_ hk => by ((repeat' apply And.intro) <;> (first | trivial | exact hk | exact hk.1 | exact hk.2 | exact hk.2.1 | exact hk.2.2 | exact hk.2.2.1 | exact hk.2.2.2 | exact hk.2.2.2.1 | exact hk.2.2.2.2 | exact hk.2.2.2.2.1 | exact hk.2.2.2.2.2 | exact hk.2.2.2.2.2.1 | exact hk.2.2.2.2.2.2 | exact hk.1.1 | exact hk.1.2))))))) (Reps.one (show Kd.FK (Kd.slice 37 k37) _ _ y178 [.slice Ao50 y178.length co50] from (Kd.FK_slice_mk (Kd.R_reads' (Kd.R_mono (ok' := (fun k_ => some k_ ≠ (.slice (some ad168) y162.length co36 : Value).ownBlock)) (HO180.out) (fun k_ hk => by ((repeat' apply And.intro) <;> (first | trivial | exact hk | exact hk.1 | exact hk.2 | exact hk.2.1 | exact hk.2.2 | exact hk.2.2.1 | exact hk.2.2.2 | exact hk.2.2.2.1 | exact hk.2.2.2.2 | exact hk.2.2.2.2.1 | exact hk.2.2.2.2.2 | exact hk.2.2.2.2.2.1 | exact hk.2.2.2.2.2.2 | exact hk.1.1 | exact hk.1.2))))).2.1 (Kd.R_F (Kd.R_mono (ok' := (fun k_ => some k_ ≠ (.slice (some ad168) y162.length co36 : Value).ownBlock)) (HO180.out) (fun k_ hk => by ((repeat' apply And.intro) <;> (first | trivial | exact hk | exact hk.1 | exact hk.2 | exact hk.2.1 | exact hk.2.2 | exact hk.2.2.1 | exact hk.2.2.2 | exact hk.2.2.2.1 | exact hk.2.2.2.2 | exact hk.2.2.2.2.1 | exact hk.2.2.2.2.2 | exact hk.2.2.2.2.2.1 | exact hk.2.2.2.2.2.2 | exact hk.1.1 | exact hk.1.2))))))) (Reps.one (show Kd.FK (Kd.slice 37 k37) _ _ y181 [.slice Ao51 y181.length co51] from (Kd.FK_slice_mk (Kd.R_reads' (Kd.R_mono (ok' := (fun k_ => some k_ ≠ (.slice (some ad168) y162.length co36 : Value).ownBlock)) (HO183.out) (fun k_ hk => by ((repeat' apply And.intro) <;> (first | trivial | exact hk | exact hk.1 | exact hk.2 | exact hk.2.1 | exact hk.2.2 | exact hk.2.2.1 | exact hk.2.2.2 | exact hk.2.2.2.1 | exact hk.2.2.2.2 | exact hk.2.2.2.2.1 | exact hk.2.2.2.2.2 | exact hk.2.2.2.2.2.1 | exact hk.2.2.2.2.2.2 | exact hk.1.1 | exact hk.1.2))))).2.1 (Kd.R_F (Kd.R_mono (ok' := (fun k_ => some k_ ≠ (.slice (some ad168) y162.length co36 : Value).ownBlock)) (HO183.out) (fun k_ hk => by ((repeat' apply And.intro) <;> (first | trivial | exact hk | exact hk.1 | exact hk.2 | exact hk.2.1 | exact hk.2.2 | exact hk.2.2.1 | exact hk.2.2.2 | exact hk.2.2.2.1 | exact hk.2.2.2.2 | exact hk.2.2.2.2.1 | exact hk.2.2.2.2.2 | exact hk.2.2.2.2.2.1 | exact hk.2.2.2.2.2.2 | exact hk.1.1 | exact hk.1.2))))))) (Reps.one (show Kd.FK (Kd.slice 37 k37) _ _ x7_1 [.slice AoM_ x7_1.length coM_] from (Kd.FK_slice_mk (Kd.R_reads' (Kd.R_mono (ok' := (fun k_ => some k_ ≠ (.slice (some ad168) y162.length co36 : Value).ownBlock)) (HO_7.out) (fun k_ hk => by ((repeat' apply And.intro) <;> (first | trivial | exact hk | exact hk.1 | exact hk.2 | exact hk.2.1 | exact hk.2.2 | exact hk.2.2.1 | exact hk.2.2.2 | exact hk.2.2.2.1 | exact hk.2.2.2.2 | exact hk.2.2.2.2.1 | exact hk.2.2.2.2.2 | exact hk.2.2.2.2.2.1 | exact hk.2.2.2.2.2.2 | exact hk.1.1 | exact hk.1.2))))).2.1 (Kd.R_F (Kd.R_mono (ok' := (fun k_ => some k_ ≠ (.slice (some ad168) y162.length co36 : Value).ownBlock)) (HO_7.out) (fun k_ hk => by ((repeat' apply And.intro) <;> (first | trivial | exact hk | exact hk.1 | exact hk.2 | exact hk.2.1 | exact hk.2.2 | exact hk.2.2.1 | exact hk.2.2.2 | exact hk.2.2.2.1 | exact hk.2.2.2.2 | exact hk.2.2.2.2.1 | exact hk.2.2.2.2.2 | exact hk.2.2.2.2.2.1 | exact hk.2.2.2.2.2.2 | exact hk.1.1 | exact hk.1.2))))))) (Reps.one (show Kd.FK (Kd.slice 37 k37) _ _ y185 [.slice Ao53 y185.length co53] from (Kd.FK_slice_mk (Kd.R_reads' (Kd.R_mono (ok' := (fun k_ => some k_ ≠ (.slice (some ad168) y162.length co36 : Value).ownBlock)) (HO187.out) (fun k_ hk => by ((repeat' apply And.intro) <;> (first | trivial | exact hk | exact hk.1 | exact hk.2 | exact hk.2.1 | exact hk.2.2 | exact hk.2.2.1 | exact hk.2.2.2 | exact hk.2.2.2.1 | exact hk.2.2.2.2 | exact hk.2.2.2.2.1 | exact hk.2.2.2.2.2 | exact hk.2.2.2.2.2.1 | exact hk.2.2.2.2.2.2 | exact hk.1.1 | exact hk.1.2))))).2.1 (Kd.R_F (Kd.R_mono (ok' := (fun k_ => some k_ ≠ (.slice (some ad168) y162.length co36 : Value).ownBlock)) (HO187.out) (fun k_ hk => by ((repeat' apply And.intro) <;> (first | trivial | exact hk | exact hk.1 | exact hk.2 | exact hk.2.1 | exact hk.2.2 | exact hk.2.2.1 | exact hk.2.2.2 | exact hk.2.2.2.1 | exact hk.2.2.2.2 | exact hk.2.2.2.2.1 | exact hk.2.2.2.2.2 | exact hk.2.2.2.2.2.1 | exact hk.2.2.2.2.2.2 | exact hk.1.1 | exact hk.1.2))))))) (Reps.none _ _))))))))
       intro v189 w54 ho55 hb hg_ hnew_
       clear hg_ hnew_
       (first | rw [← Ny188.out] at ho55 | (simp only [Int.reduceToNat] at ho55; rw [← Ny188.out] at ho55))
       have n0_ := am_ (Kd.R_below (by (with_reducible repeat (first | apply r1_ | apply r2_ | apply r3_)); exact HO_6.out) hb)
       have n1_ := am_ (Kd.R_below (by (with_reducible repeat (first | apply r1_ | apply r2_ | apply r3_)); exact HO_7.out) hb)
       have n2_ := am_ (Kd.N_lower ho55 (bz_ (by repeat (with_reducible first | exact HB.out | apply p3_ | apply p1_ | apply p2_))))
       have n3_ := am_ (bt_ (by repeat (with_reducible first | exact HB.out | apply p3_ | apply p1_ | apply p2_)) hb)
       clear HO_6
       clear HO_7
       clear HB
       clear HO172
       clear HO177
       clear HO180
       clear HO183
       clear HO187
       have HO_6 := n0_
       have HO_7 := n1_
       have HO190 := n2_
       have HB := n3_
       clear n0_ n1_ n2_ n3_
       clear hb ho55
       refine hK.out _ _ ⟨.slice Ao48 y170.length co48, .slice Ao49 y175.length co49, .slice Ao50 y178.length co50, .slice Ao51 y181.length co51, .slice Ao53 y185.length co53, v189, m27_, (by rw [ha.out]; exact putSel_upk 19 hb_ rfl rfl rfl), fun h0_ => absurd ((up_self b 26).symm.trans h0_) (by decide), fun h0_ => absurd ((up_self b 26).symm.trans h0_) (by decide), (by repeat (with_reducible first | exact HB.out | apply p3_ | apply p1_ | apply p2_)), fun _ h1_ => absurd ((up_self b 26).symm.trans h1_) (by decide), fun _ h1_ => absurd ((up_self b 26).symm.trans h1_) (by decide), fun _ h1_ => absurd ((up_self b 26).symm.trans h1_) (by decide), fun _ h1_ => absurd ((up_self b 26).symm.trans h1_) (by decide), fun _ h1_ => absurd ((up_self b 26).symm.trans h1_) (by decide), fun _ => (by (with_reducible repeat (first | apply n1'_ | apply n2'_ | apply n3'_)); exact HO190.out), fun _ => (by (with_reducible repeat (first | apply r1_ | apply r2_ | apply r3_)); exact Kd.R_mono HO_6.out (fun _ hk => by ((repeat' apply And.intro) <;> (first | trivial | exact hk | exact hk.1 | exact hk.2 | exact hk.2.1 | exact hk.2.2 | exact hk.2.2.1 | exact hk.2.2.2 | exact hk.2.2.2.1 | exact hk.2.2.2.2 | exact hk.2.2.2.2.1 | exact hk.2.2.2.2.2 | exact hk.2.2.2.2.2.1 | exact hk.2.2.2.2.2.2 | exact hk.1.1 | exact hk.1.2)))), fun _ => (by (with_reducible repeat (first | apply r1_ | apply r2_ | apply r3_)); exact Kd.R_mono HO_7.out (fun _ hk => by ((repeat' apply And.intro) <;> (first | trivial | exact hk | exact hk.1 | exact hk.2 | exact hk.2.1 | exact hk.2.2 | exact hk.2.2.1 | exact hk.2.2.2 | exact hk.2.2.2.1 | exact hk.2.2.2.2 | exact hk.2.2.2.2.1 | exact hk.2.2.2.2.2 | exact hk.2.2.2.2.2.1 | exact hk.2.2.2.2.2.2 | exact hk.1.1 | exact hk.1.2)))), fun h0_ => absurd ((hoff 27 (by kernel_rfl)).symm.trans h0_) (by decide)⟩
      refine steps_cons ?_ ?_
      ·rintro b a w' ⟨v171, v176, v179, v182, v186, v189, m27_, ha, Q_HO_6, Q_HO_7, Q_HB, Q_HO172, Q_HO177, Q_HO180, Q_HO183, Q_HO187, Q_HO190, Q_HO_6_e26, Q_HO_7_e26, Q_X27_⟩ hb_ hon hoff
       refine ⟨_, rfl, fun K hK => ?_⟩
       have e65 : a.tmps[65]? = some (v189) := by rw [ha]; exact putSel_on (e := (26, 65, v189)) 19 rfl rfl (hon 26 (by kernel_rfl)) rfl
       replace ha := am_ ha
       have HB := am_ Q_HB
       have HO190 := am_ (Q_HO190 (hon 26 (by kernel_rfl)))
       have HO_6 := am_ (Q_HO_6_e26 (hon 26 (by kernel_rfl)))
       have HO_7 := am_ (Q_HO_7_e26 (hon 26 (by kernel_rfl)))
       refine value_ (w1 := w') (v := v189) (by rfl) rfl ?_ ?_
       ·go_simp
        (try simp only [i64_w])
        try rfl
       refine hK.out _ _ ⟨v171, v176, v179, v182, v186, v189, (v189), (by rw [ha.out]; exact putSel_upk 20 hb_ rfl rfl rfl), fun h0_ => absurd ((hon 26 (by kernel_rfl)).symm.trans h0_) (by decide), fun h0_ => absurd ((hon 26 (by kernel_rfl)).symm.trans h0_) (by decide), Q_HB, fun _ h1_ => absurd ((hon 26 (by kernel_rfl)).symm.trans h1_) (by decide), fun _ h1_ => absurd ((hon 26 (by kernel_rfl)).symm.trans h1_) (by decide), fun _ h1_ => absurd ((hon 26 (by kernel_rfl)).symm.trans h1_) (by decide), fun _ h1_ => absurd ((hon 26 (by kernel_rfl)).symm.trans h1_) (by decide), fun _ h1_ => absurd ((hon 26 (by kernel_rfl)).symm.trans h1_) (by decide), Q_HO190, Q_HO_6_e26, Q_HO_7_e26, fun _ => rfl⟩
      exact steps_nil
     rintro b a w55 hall ⟨v171, v176, v179, v182, v186, v189, m27_, ha, Q_HO_6, Q_HO_7, Q_HB, Q_HO172, Q_HO177, Q_HO180, Q_HO183, Q_HO187, Q_HO190, Q_HO_6_e26, Q_HO_7_e26, Q_X27_⟩
     clear HB HO_6 HO_7
     have hb1_ := hall 1 (by kernel_rfl)
     have hb2_ := hall 2 (by kernel_rfl)
     have hb4_ := hall 4 (by kernel_rfl)
     have hb5_ := hall 5 (by kernel_rfl)
     have hb6_ := hall 6 (by kernel_rfl)
     have hb8_ := hall 8 (by kernel_rfl)
     have hb9_ := hall 9 (by kernel_rfl)
     have hb11_ := hall 11 (by kernel_rfl)
     have hb12_ := hall 12 (by kernel_rfl)
     have hb13_ := hall 13 (by kernel_rfl)
     have hb14_ := hall 14 (by kernel_rfl)
     have hb15_ := hall 15 (by kernel_rfl)
     have hb17_ := hall 17 (by kernel_rfl)
     have hb18_ := hall 18 (by kernel_rfl)
     have hb19_ := hall 19 (by kernel_rfl)
     have hb22_ := hall 22 (by kernel_rfl)
     have hb23_ := hall 23 (by kernel_rfl)
     have hb24_ := hall 24 (by kernel_rfl)
     have hb25_ := hall 25 (by kernel_rfl)
     have hb26_ := hall 26 (by kernel_rfl)
     have hb27_ := hall 27 (by kernel_rfl)
     subst ha
     obtain rfl := Q_X27_ hb27_
     simp only [putSel, hb1_, hb2_, hb4_, hb5_, hb6_, hb8_, hb9_, hb11_, hb12_, hb13_, hb14_, hb15_, hb17_, hb18_, hb19_, hb22_, hb23_, hb24_, hb25_, hb26_, hb27_, if_true, Act.put, sa_, sb_, sc_]
     clear Q_HO_6
     clear Q_HO_7
     have HB := am_ Q_HB
     clear Q_HB
     clear Q_HO172
     clear Q_HO177
     clear Q_HO180
     clear Q_HO183
     clear Q_HO187
     have HO190 := am_ (Q_HO190 hb26_)
     clear Q_HO190
     have HO_6 := am_ (Q_HO_6_e26 hb26_)
     clear Q_HO_6_e26
     have HO_7 := am_ (Q_HO_7_e26 hb26_)
     clear Q_HO_7_e26
     clear hall hb1_ hb2_ hb4_ hb5_ hb6_ hb8_ hb9_ hb11_ hb12_ hb13_ hb14_ hb15_ hb17_ hb18_ hb19_ hb22_ hb23_ hb24_ hb25_ hb26_ hb27_
     obtain ⟨Ao56, co56, eo56⟩ := Kd.N_slice HO190.out
     subst eo56
     have p191 : 0 ≤ ((ji13) : Int) := of_decide_eq_true (by first | (with_reducible assumption) | assumption)
     have q191 : (ji13) < (y188.length : Int) := of_decide_eq_true (by first | (with_reducible assumption) | assumption)
     obtain ⟨ad191, A191_0, c191_0, e191, hx191_0, hl191_0, hi191_0⟩ := at_L4 (Kd.N_reads' HO190.out).2.2 (ji13) p191 q191
     cases e191
     obtain ⟨ce191, hce191, hMe191, hcc191⟩ := Kd.N_get HO190.out [] (ji13) p191 (by first | exact q191 | exact of_decide_eq_true (by first | (with_reducible assumption) | assumption) | (have e_ := (Kd.N_reads' HO190.out).1; omega))
     obtain ⟨ua191_0, uc191_0, rfl, ul191_0, ge191_0⟩ := Kd.FK_slice_open hMe191
     have hv191_0 := hcc191 0 _ rfl
     rw [Nat.add_zero, show ((Kd.slice 37 k37)).sz = 1 from rfl, Nat.mul_one] at hv191_0
     replace hv191_0 := e5_ (hv191_0.symm.trans hx191_0)
     injection hv191_0 with hva_ hvn_ hvc_
     rw [hva_] at ge191_0
     rw [hvc_] at ul191_0
     have HL191_0 := am_ (show Kd.V k37 37 _ w.heap.size _ _ (rd_L4 y188 (ji13)) from Kd.V_mk ul191_0 ge191_0)
     clear hva_ hvn_ hvc_ ge191_0 ul191_0
     clear hcc191 hce191
     have HR191_0 := am_ hi191_0
     have HC191_0 := am_ hl191_0
     clear hi191_0 hl191_0
     replace p191 := eq_true p191
     replace q191 := eq_true q191
     have p192 : 0 ≤ (0 : Int) := (by omega)
     have q192 : 0 < (y162.length : Int) := of_decide_eq_true (by first | (with_reducible assumption) | assumption)
     obtain ⟨ad192, e192, hx192_0, hx192_1, hx192_2, hx192_3, hx192_4, hx192_5⟩ := at_T37 (Kd.R_reads' HO_6.out).2.2 0 p192 q192
     obtain rfl : ad168 = ad192 := (by injection e192)
     have qi192 : (0 < y162.length) = True := eq_true (by omega)
     (try rw [show ((0 : Int)).toNat = 0 from rfl] at hx192_0)
     (try rw [show 0 * 6 = 0 from rfl] at hx192_0)
     (try rw [z0_] at hx192_0)
     (try rw [show ((0 : Int)).toNat = 0 from rfl] at hx192_1)
     (try rw [show 0 * 6 = 0 from rfl] at hx192_1)
     (try rw [z0_] at hx192_1)
     (try rw [show ((0 : Int)).toNat = 0 from rfl] at hx192_2)
     (try rw [show 0 * 6 = 0 from rfl] at hx192_2)
     (try rw [z0_] at hx192_2)
     (try rw [show ((0 : Int)).toNat = 0 from rfl] at hx192_3)
     (try rw [show 0 * 6 = 0 from rfl] at hx192_3)
     (try rw [z0_] at hx192_3)
     (try rw [show ((0 : Int)).toNat = 0 from rfl] at hx192_4)
     (try rw [show 0 * 6 = 0 from rfl] at hx192_4)
     (try rw [z0_] at hx192_4)
     (try rw [show ((0 : Int)).toNat = 0 from rfl] at hx192_5)
     (try rw [show 0 * 6 = 0 from rfl] at hx192_5)
     (try rw [z0_] at hx192_5)
     replace p192 := eq_true p192
     replace q192 := eq_true q192
     have hyy_ : y201 = y210 := Ny201.out.trans Ny210.out.symm
     subst hyy_
     try go_wp2_with (first | ((with_reducible refine gate_callee (f := 18) rfl ?_); refine goesL_ (some 78) rfl rfl Try.func18 (by kernel_rfl) rfl #[.slice A191_0 (rd_L4 y188 (ji13)).length c191_0, .agg #[.int .i64 ((rd_T37 y162 0).f0), .int .i64 ((rd_T37 y162 0).f1), .string ((rd_T37 y162 0).f2), .int .i64 ((rd_T37 y162 0).f3), .string ((rd_T37 y162 0).f4), .bool ((rd_T37 y162 0).f5)]] rfl (by (try simp only [List.map_toArray, List.map_cons, List.map_nil]); first | done | (simp only [hji13]; rfl) | rfl | (simp only [List.length_drop, List.length_take]; rfl)) ?_; (with_reducible refine (table_With.calls _ _ (rd_L4 y188 (ji13)) ((rd_T37 y162 0).f0) ((rd_T37 y162 0).f1) ((rd_T37 y162 0).f2) ((rd_T37 y162 0).f3) ((rd_T37 y162 0).f4) ((rd_T37 y162 0).f5) t193 t196 _ ?side1 ?side2 A16.out).mono ?_); (case side1 => repeat (first | exact (by repeat (first | (with_reducible exact HR191_0.out) | (with_reducible refine c1_ ?_ _) | (with_reducible refine c2_ ?_ _) | (with_reducible refine c3_ ?_) | exact HR191_0.out)) | (with_reducible refine c1_ ?_ _) | (with_reducible refine c2_ ?_ _) | (with_reducible refine c3_ ?_))); (case side2 => exact HC191_0.out); rintro e w57 ⟨v194, rfl, ho0, hb⟩; refine ⟨_, rfl, ?_⟩; have n0_ := am_ (r5_ (by (with_reducible repeat (first | apply r1_ | apply r2_ | apply r3_)); exact HO_6.out) (r4_ ho0) hb); have n1_ := am_ (r5_ (by (with_reducible repeat (first | apply r1_ | apply r2_ | apply r3_)); exact HO_7.out) (r4_ ho0) hb); have n2_ := am_ (Kd.N_elder' (by (with_reducible repeat (first | apply n1'_ | apply n2'_ | apply n3'_)); exact HO190.out) (r4_ ho0) hb); have n3_ := am_ (Kd.V_elder' (by (with_reducible repeat (first | apply v1_ | apply v2_ | apply v3_)); exact HL191_0.out) (r4_ ho0) hb); have n4_ := am_ (Kd.R_lower (Kd.R_new' (Kd.R_new' ho0 (Kd.R_lt (by (with_reducible repeat (first | apply r1_ | apply r2_ | apply r3_)); exact HO_6.out))) (Kd.R_lt (by (with_reducible repeat (first | apply r1_ | apply r2_ | apply r3_)); exact HO_7.out))) (bz_ (by repeat (with_reducible first | exact HB.out | apply p3_ | apply p1_ | apply p2_)))); have n5_ := am_ (c4_ (by repeat (first | (with_reducible exact HR191_0.out) | (with_reducible refine c1_ ?_ _) | (with_reducible refine c2_ ?_ _) | (with_reducible refine c3_ ?_) | exact HR191_0.out)) hb); have n6_ := am_ (bt_ (by repeat (with_reducible first | exact HB.out | apply p3_ | apply p1_ | apply p2_)) hb); clear HO_6; clear HO_7; clear HO190; clear HL191_0; clear HR191_0; clear HB; have HO_6 := n0_; have HO_7 := n1_; have HO190 := n2_; have HL191_0 := n3_; have HO195 := n4_; have HR191_0 := n5_; have HB := n6_; clear n0_ n1_ n2_ n3_ n4_ n5_ n6_; (try clear hb); (try clear ho0)) | ((with_reducible refine gate_callee (f := 18) rfl ?_); refine goesL_ (some 86) rfl rfl Try.func18 (by kernel_rfl) rfl #[.slice (some ad168) y162.length co36, .agg #[.int .i64 11, .int .i64 (wrap64 (-(wrap64 (1 + (Go.bits .and .i64 a1 63))))), .string (⟨#[]⟩ : ByteArray), .int .i64 0, .string (⟨#[]⟩ : ByteArray), .bool false]] rfl (by (try simp only [List.map_toArray, List.map_cons, List.map_nil]); first | done | rfl | (simp only [List.length_drop, List.length_take]; rfl)) ?_; (with_reducible refine (table_With.calls _ _ y162 11 (wrap64 (-(wrap64 (1 + (Go.bits .and .i64 a1 63))))) (⟨#[]⟩ : ByteArray) 0 (⟨#[]⟩ : ByteArray) false t197 t200 _ ?side1 ?side2 A17.out).mono ?_); (case side1 => repeat (first | exact (Kd.R_reads' HO_6.out).2.2 | (with_reducible refine c1_ ?_ _) | (with_reducible refine c2_ ?_ _) | (with_reducible refine c3_ ?_))); (case side2 => exact (Kd.R_reads' HO_6.out).2.1); rintro e w58 ⟨v198, rfl, ho0, hb⟩; refine ⟨_, rfl, ?_⟩; have n0_ := am_ (r5_ (by (with_reducible repeat (first | apply r1_ | apply r2_ | apply r3_)); exact HO_6.out) (r4_ ho0) hb); have n1_ := am_ (r5_ (by (with_reducible repeat (first | apply r1_ | apply r2_ | apply r3_)); exact HO_7.out) (r4_ ho0) hb); have n2_ := am_ (Kd.N_elder' (by (with_reducible repeat (first | apply n1'_ | apply n2'_ | apply n3'_)); exact HO190.out) (r4_ ho0) hb); have n3_ := am_ (Kd.V_elder' (by (with_reducible repeat (first | apply v1_ | apply v2_ | apply v3_)); exact HL191_0.out) (r4_ ho0) hb); have n4_ := am_ (r5_ (by (with_reducible repeat (first | apply r1_ | apply r2_ | apply r3_)); exact HO195.out) (r4_ ho0) hb); have n5_ := am_ (Kd.R_lower (Kd.R_new' (Kd.R_new' (Kd.R_new' ho0 (Kd.R_lt (by (with_reducible repeat (first | apply r1_ | apply r2_ | apply r3_)); exact HO_6.out))) (Kd.R_lt (by (with_reducible repeat (first | apply r1_ | apply r2_ | apply r3_)); exact HO_7.out))) (Kd.R_lt (by (with_reducible repeat (first | apply r1_ | apply r2_ | apply r3_)); exact HO195.out))) (bz_ (by repeat (with_reducible first | exact HB.out | apply p3_ | apply p1_ | apply p2_)))); have n6_ := am_ (c4_ (by repeat (first | (with_reducible exact HR191_0.out) | (with_reducible refine c1_ ?_ _) | (with_reducible refine c2_ ?_ _) | (with_reducible refine c3_ ?_) | exact HR191_0.out)) hb); have n7_ := am_ (bt_ (by repeat (with_reducible first | exact HB.out | apply p3_ | apply p1_ | apply p2_)) hb); clear HO_6; clear HO_7; clear HO190; clear HL191_0; clear HO195; clear HR191_0; clear HB; have HO_6 := n0_; have HO_7 := n1_; have HO190 := n2_; have HL191_0 := n3_; have HO195 := n4_; have HO199 := n5_; have HR191_0 := n6_; have HB := n7_; clear n0_ n1_ n2_ n3_ n4_ n5_ n6_ n7_; (try clear hb); (try clear ho0); have q59 : (8 : Int) ≤ ((x7_1.length : Int) : Int) := of_decide_eq_true (by first | (with_reducible assumption) | assumption); obtain ⟨i059, hi059, _, hsz59, _⟩ := info_parts info37; have hroom59 : x7_1.length ≤ coM_ := (Kd.R_reads' HO_7.out).2.1; have hC59 : Kd.F k37 _ _ AoM_ x7_1.length x7_1 := (Kd.V_at (base := w.heap.size) (Kd.R_V (Kd.R_apart' (HO_7.out) (Kd.N_typed HO190.out) (by decide)))).2.2; have hcut59 := cut_to (P := Try.prog) 27 37 .i64 Try.underlying27 hi059 AoM_ x7_1.length coM_ 8 (by omega) q59 hroom59; have hr59 := Kd.F_take (m := 8) hC59 (by omega); have hy59 : y201.length = (8 : Int).toNat := (by rw [Ny201.out, List.length_take]; omega); rw [← Ny201.out] at hr59; rw [← hy59] at hcut59; have HO205 := am_ (show Kd.V k37 37 _ w.heap.size _ (.slice AoM_ y201.length coM_) y201 from Kd.V_mk (by omega) hr59); have HC205 := am_ (show y201.length ≤ coM_ from by omega); clear hr59 hC59 hroom59 hi059 hsz59; have KY59 := am_ hy59; clear hy59; replace q59 := eq_true q59) | ((with_reducible refine gate_callee (f := 18) rfl ?_); refine goesL_ (some 93) rfl rfl Try.func18 (by kernel_rfl) rfl #[.slice AoM_ y201.length coM_, .agg #[.int .i64 200, .int .i64 0, .string (⟨#[]⟩ : ByteArray), .int .i64 0, .string (⟨#[]⟩ : ByteArray), .bool false]] rfl (by (try simp only [List.map_toArray, List.map_cons, List.map_nil]); first | done | rfl | (simp only [List.length_drop, List.length_take]; rfl)) ?_; (with_reducible refine (table_With.calls _ _ y201 200 0 (⟨#[]⟩ : ByteArray) 0 (⟨#[]⟩ : ByteArray) false t206 t209 _ ?side1 ?side2 A19.out).mono ?_); (case side1 => repeat (first | exact (Kd.V_reads' HO205.out).2.2 | (with_reducible refine c1_ ?_ _) | (with_reducible refine c2_ ?_ _) | (with_reducible refine c3_ ?_))); (case side2 => exact (Kd.V_reads' HO205.out).2.1); rintro e w60 ⟨v207, rfl, ho0, hb⟩; refine ⟨_, rfl, ?_⟩; have n0_ := am_ (r5_ (by (with_reducible repeat (first | apply r1_ | apply r2_ | apply r3_)); exact HO_6.out) (r4_ ho0) hb); have n1_ := am_ (r5_ (by (with_reducible repeat (first | apply r1_ | apply r2_ | apply r3_)); exact HO_7.out) (r4_ ho0) hb); have n2_ := am_ (Kd.N_elder' (by (with_reducible repeat (first | apply n1'_ | apply n2'_ | apply n3'_)); exact HO190.out) (r4_ ho0) hb); have n3_ := am_ (Kd.V_elder' (by (with_reducible repeat (first | apply v1_ | apply v2_ | apply v3_)); exact HL191_0.out) (r4_ ho0) hb); have n4_ := am_ (r5_ (by (with_reducible repeat (first | apply r1_ | apply r2_ | apply r3_)); exact HO195.out) (r4_ ho0) hb); have n5_ := am_ (r5_ (by (with_reducible repeat (first | apply r1_ | apply r2_ | apply r3_)); exact HO199.out) (r4_ ho0) hb); have n6_ := am_ (Kd.V_elder' (by (with_reducible repeat (first | apply v1_ | apply v2_ | apply v3_)); exact HO205.out) (r4_ ho0) hb); have n7_ := am_ (Kd.R_lower (Kd.R_new' (Kd.R_new' (Kd.R_new' (Kd.R_new' ho0 (Kd.R_lt (by (with_reducible repeat (first | apply r1_ | apply r2_ | apply r3_)); exact HO_6.out))) (Kd.R_lt (by (with_reducible repeat (first | apply r1_ | apply r2_ | apply r3_)); exact HO_7.out))) (Kd.R_lt (by (with_reducible repeat (first | apply r1_ | apply r2_ | apply r3_)); exact HO195.out))) (Kd.R_lt (by (with_reducible repeat (first | apply r1_ | apply r2_ | apply r3_)); exact HO199.out))) (bz_ (by repeat (with_reducible first | exact HB.out | apply p3_ | apply p1_ | apply p2_)))); have n8_ := am_ (c4_ (by repeat (first | (with_reducible exact HR191_0.out) | (with_reducible refine c1_ ?_ _) | (with_reducible refine c2_ ?_ _) | (with_reducible refine c3_ ?_) | exact HR191_0.out)) hb); have n9_ := am_ (bt_ (by repeat (with_reducible first | exact HB.out | apply p3_ | apply p1_ | apply p2_)) hb); clear HO_6; clear HO_7; clear HO190; clear HL191_0; clear HO195; clear HO199; clear HO205; clear HR191_0; clear HB; have HO_6 := n0_; have HO_7 := n1_; have HO190 := n2_; have HL191_0 := n3_; have HO195 := n4_; have HO199 := n5_; have HO205 := n6_; have HO208 := n7_; have HR191_0 := n8_; have HB := n9_; clear n0_ n1_ n2_ n3_ n4_ n5_ n6_ n7_ n8_ n9_; (try clear hb); (try clear ho0); have q61 : (8 : Int) ≤ ((x7_1.length : Int) : Int) := of_decide_eq_true (by first | (with_reducible assumption) | assumption); obtain ⟨i061, hi061, _, hsz61, _⟩ := info_parts info37; have hroom61 : x7_1.length ≤ coM_ := (Kd.R_reads' HO_7.out).2.1; have hC61 : Kd.F k37 _ _ AoM_ x7_1.length x7_1 := (Kd.V_at (base := w.heap.size) (Kd.R_V (Kd.R_apart' (HO_7.out) (Kd.N_typed HO190.out) (by decide)))).2.2; have hcut61 := cut_to (P := Try.prog) 27 37 .i64 Try.underlying27 hi061 AoM_ x7_1.length coM_ 8 (by omega) q61 hroom61; have hr61 := Kd.F_take (m := 8) hC61 (by omega); have hy61 : y201.length = (8 : Int).toNat := (by rw [Ny210.out, List.length_take]; omega); rw [← Ny210.out] at hr61; rw [← hy61] at hcut61; have HO214 := am_ (show Kd.V k37 37 _ w.heap.size _ (.slice AoM_ y201.length coM_) y201 from Kd.V_mk (by omega) hr61); have HC214 := am_ (show y201.length ≤ coM_ from by omega); clear hr61 hC61 hroom61 hi061 hsz61; have KY61 := am_ hy61; clear hy61; replace q61 := eq_true q61) | ((with_reducible refine gate_callee (f := 18) rfl ?_); refine goesL_ (some 101) rfl rfl Try.func18 (by kernel_rfl) rfl #[.slice AoM_ y201.length coM_, .agg #[.int .i64 10, .int .i64 0, .string (⟨#[]⟩ : ByteArray), .int .i64 (wrap64 (1 + (Go.bits .and .i64 a1 63))), .string (⟨#[]⟩ : ByteArray), .bool false]] rfl (by (try simp only [List.map_toArray, List.map_cons, List.map_nil]); first | done | rfl | (simp only [List.length_drop, List.length_take]; rfl)) ?_; (with_reducible refine (table_With.calls _ _ y201 10 0 (⟨#[]⟩ : ByteArray) (wrap64 (1 + (Go.bits .and .i64 a1 63))) (⟨#[]⟩ : ByteArray) false t215 t218 _ ?side1 ?side2 A21.out).mono ?_); (case side1 => repeat (first | exact (Kd.V_reads' HO214.out).2.2 | (with_reducible refine c1_ ?_ _) | (with_reducible refine c2_ ?_ _) | (with_reducible refine c3_ ?_))); (case side2 => exact (Kd.V_reads' HO214.out).2.1); rintro e w62 ⟨v216, rfl, ho0, hb⟩; refine ⟨_, rfl, ?_⟩; have n0_ := am_ (r5_ (by (with_reducible repeat (first | apply r1_ | apply r2_ | apply r3_)); exact HO_6.out) (r4_ ho0) hb); have n1_ := am_ (r5_ (by (with_reducible repeat (first | apply r1_ | apply r2_ | apply r3_)); exact HO_7.out) (r4_ ho0) hb); have n2_ := am_ (Kd.N_elder' (by (with_reducible repeat (first | apply n1'_ | apply n2'_ | apply n3'_)); exact HO190.out) (r4_ ho0) hb); have n3_ := am_ (Kd.V_elder' (by (with_reducible repeat (first | apply v1_ | apply v2_ | apply v3_)); exact HL191_0.out) (r4_ ho0) hb); have n4_ := am_ (r5_ (by (with_reducible repeat (first | apply r1_ | apply r2_ | apply r3_)); exact HO195.out) (r4_ ho0) hb); have n5_ := am_ (r5_ (by (with_reducible repeat (first | apply r1_ | apply r2_ | apply r3_)); exact HO199.out) (r4_ ho0) hb); have n6_ := am_ (Kd.V_elder' (by (with_reducible repeat (first | apply v1_ | apply v2_ | apply v3_)); exact HO205.out) (r4_ ho0) hb); have n7_ := am_ (r5_ (by (with_reducible repeat (first | apply r1_ | apply r2_ | apply r3_)); exact HO208.out) (r4_ ho0) hb); have n8_ := am_ (Kd.V_elder' (by (with_reducible repeat (first | apply v1_ | apply v2_ | apply v3_)); exact HO214.out) (r4_ ho0) hb); have n9_ := am_ (Kd.R_lower (Kd.R_new' (Kd.R_new' (Kd.R_new' (Kd.R_new' (Kd.R_new' ho0 (Kd.R_lt (by (with_reducible repeat (first | apply r1_ | apply r2_ | apply r3_)); exact HO_6.out))) (Kd.R_lt (by (with_reducible repeat (first | apply r1_ | apply r2_ | apply r3_)); exact HO_7.out))) (Kd.R_lt (by (with_reducible repeat (first | apply r1_ | apply r2_ | apply r3_)); exact HO195.out))) (Kd.R_lt (by (with_reducible repeat (first | apply r1_ | apply r2_ | apply r3_)); exact HO199.out))) (Kd.R_lt (by (with_reducible repeat (first | apply r1_ | apply r2_ | apply r3_)); exact HO208.out))) (bz_ (by repeat (with_reducible first | exact HB.out | apply p3_ | apply p1_ | apply p2_)))); have n10_ := am_ (c4_ (by repeat (first | (with_reducible exact HR191_0.out) | (with_reducible refine c1_ ?_ _) | (with_reducible refine c2_ ?_ _) | (with_reducible refine c3_ ?_) | exact HR191_0.out)) hb); have n11_ := am_ (bt_ (by repeat (with_reducible first | exact HB.out | apply p3_ | apply p1_ | apply p2_)) hb); clear HO_6; clear HO_7; clear HO190; clear HL191_0; clear HO195; clear HO199; clear HO205; clear HO208; clear HO214; clear HR191_0; clear HB; have HO_6 := n0_; have HO_7 := n1_; have HO190 := n2_; have HL191_0 := n3_; have HO195 := n4_; have HO199 := n5_; have HO205 := n6_; have HO208 := n7_; have HO214 := n8_; have HO217 := n9_; have HR191_0 := n10_; have HB := n11_; clear n0_ n1_ n2_ n3_ n4_ n5_ n6_ n7_ n8_ n9_ n10_ n11_; (try clear hb); (try clear ho0)) | ((with_reducible refine gate_callee (f := 22) rfl ?_); refine goesL_ (some 106) rfl rfl Try.func22 (by kernel_rfl) rfl #[.slice A191_0 (rd_L4 y188 (ji13)).length c191_0, .string (⟨#[109, 101]⟩ : ByteArray), .int .i64 0] rfl (by (try simp only [List.map_toArray, List.map_cons, List.map_nil]); first | done | (simp only [hji13]; rfl) | rfl | (simp only [List.length_drop, List.length_take]; rfl)) ?_; (with_reducible refine (table_Of.calls _ _ (rd_L4 y188 (ji13)) (⟨#[109, 101]⟩ : ByteArray) 0 t219 t220 t221 t222 t223 t224 t225 _ ?side1 ?side2 A22.out).mono ?_); (case side1 => repeat (first | exact (by repeat (first | (with_reducible exact HR191_0.out) | (with_reducible refine c1_ ?_ _) | (with_reducible refine c2_ ?_ _) | (with_reducible refine c3_ ?_) | exact HR191_0.out)) | (with_reducible refine c1_ ?_ _) | (with_reducible refine c2_ ?_ _) | (with_reducible refine c3_ ?_))); (case side2 => exact HC191_0.out); rintro e w63 ⟨rfl, hb⟩; refine ⟨_, rfl, ?_⟩; have n0_ := am_ (Kd.R_below (by (with_reducible repeat (first | apply r1_ | apply r2_ | apply r3_)); exact HO_6.out) hb); have n1_ := am_ (Kd.R_below (by (with_reducible repeat (first | apply r1_ | apply r2_ | apply r3_)); exact HO_7.out) hb); have n2_ := am_ (Kd.N_below (by (with_reducible repeat (first | apply n1'_ | apply n2'_ | apply n3'_)); exact HO190.out) hb); have n3_ := am_ (Kd.V_below (by (with_reducible repeat (first | apply v1_ | apply v2_ | apply v3_)); exact HL191_0.out) hb); have n4_ := am_ (Kd.R_below (by (with_reducible repeat (first | apply r1_ | apply r2_ | apply r3_)); exact HO195.out) hb); have n5_ := am_ (Kd.R_below (by (with_reducible repeat (first | apply r1_ | apply r2_ | apply r3_)); exact HO199.out) hb); have n6_ := am_ (Kd.V_below (by (with_reducible repeat (first | apply v1_ | apply v2_ | apply v3_)); exact HO205.out) hb); have n7_ := am_ (Kd.R_below (by (with_reducible repeat (first | apply r1_ | apply r2_ | apply r3_)); exact HO208.out) hb); have n8_ := am_ (Kd.V_below (by (with_reducible repeat (first | apply v1_ | apply v2_ | apply v3_)); exact HO214.out) hb); have n9_ := am_ (Kd.R_below (by (with_reducible repeat (first | apply r1_ | apply r2_ | apply r3_)); exact HO217.out) hb); have n10_ := am_ (c4_ (by repeat (first | (with_reducible exact HR191_0.out) | (with_reducible refine c1_ ?_ _) | (with_reducible refine c2_ ?_ _) | (with_reducible refine c3_ ?_) | exact HR191_0.out)) hb); have n11_ := am_ (bt_ (by repeat (with_reducible first | exact HB.out | apply p3_ | apply p1_ | apply p2_)) hb); clear HO_6; clear HO_7; clear HO190; clear HL191_0; clear HO195; clear HO199; clear HO205; clear HO208; clear HO214; clear HO217; clear HR191_0; clear HB; have HO_6 := n0_; have HO_7 := n1_; have HO190 := n2_; have HL191_0 := n3_; have HO195 := n4_; have HO199 := n5_; have HO205 := n6_; have HO208 := n7_; have HO214 := n8_; have HO217 := n9_; have HR191_0 := n10_; have HB := n11_; clear n0_ n1_ n2_ n3_ n4_ n5_ n6_ n7_ n8_ n9_ n10_ n11_; (try clear hb)) | ((with_reducible refine gate_dst (N := 19) rfl ?_); refine box_event ?hg (N := 19) ?hd (cs := #[.int .i64 0, .int .i64 0, .string (⟨#[]⟩ : ByteArray), .int .i64 0, .string (⟨#[]⟩ : ByteArray), .bool false]) (t := 37) ?hr ?_; (case hd => rfl); (case hg => rfl); (case hr => first | (go_simp; done) | (go_simp; rfl)); intro gb226 hg w64 hbox hb; have n0_ := am_ (Kd.R_below (Kd.R_elderB (by (with_reducible repeat (first | apply r1_ | apply r2_ | apply r3_)); exact HO_6.out) gb226 (Nat.le_of_eq hg.symm)) hb); have n1_ := am_ (Kd.R_below (Kd.R_elderB (by (with_reducible repeat (first | apply r1_ | apply r2_ | apply r3_)); exact HO_7.out) gb226 (Nat.le_of_eq hg.symm)) hb); have n2_ := am_ (Kd.N_below (Kd.N_elderB (by (with_reducible repeat (first | apply n1'_ | apply n2'_ | apply n3'_)); exact HO190.out) gb226 (Nat.le_of_eq hg.symm)) hb); have n3_ := am_ (Kd.V_below (Kd.V_elderB (by (with_reducible repeat (first | apply v1_ | apply v2_ | apply v3_)); exact HL191_0.out) gb226 (Nat.le_of_eq hg.symm)) hb); have n4_ := am_ (Kd.R_below (Kd.R_elderB (by (with_reducible repeat (first | apply r1_ | apply r2_ | apply r3_)); exact HO195.out) gb226 (Nat.le_of_eq hg.symm)) hb); have n5_ := am_ (Kd.R_below (Kd.R_elderB (by (with_reducible repeat (first | apply r1_ | apply r2_ | apply r3_)); exact HO199.out) gb226 (Nat.le_of_eq hg.symm)) hb); have n6_ := am_ (Kd.V_below (Kd.V_elderB (by (with_reducible repeat (first | apply v1_ | apply v2_ | apply v3_)); exact HO205.out) gb226 (Nat.le_of_eq hg.symm)) hb); have n7_ := am_ (Kd.R_below (Kd.R_elderB (by (with_reducible repeat (first | apply r1_ | apply r2_ | apply r3_)); exact HO208.out) gb226 (Nat.le_of_eq hg.symm)) hb); have n8_ := am_ (Kd.V_below (Kd.V_elderB (by (with_reducible repeat (first | apply v1_ | apply v2_ | apply v3_)); exact HO214.out) gb226 (Nat.le_of_eq hg.symm)) hb); have n9_ := am_ (Kd.R_below (Kd.R_elderB (by (with_reducible repeat (first | apply r1_ | apply r2_ | apply r3_)); exact HO217.out) gb226 (Nat.le_of_eq hg.symm)) hb); have n10_ := am_ (c4_ (by repeat (first | (with_reducible exact HR191_0.out) | (with_reducible refine c1_ ?_ _) | (with_reducible refine c2_ ?_ _) | (with_reducible refine c3_ ?_) | exact HR191_0.out)) hb); have n11_ := am_ (bt_ (by repeat (with_reducible first | exact HB.out | apply p3_ | apply p1_ | apply p2_)) hb); have n12_ := am_ (hbox); have n13_ := am_ ((by rw [hg]; exact (bz_ (by repeat (with_reducible first | exact HB.out | apply p3_ | apply p1_ | apply p2_))) : w.heap.size ≤ gb226)); have n14_ := am_ ((by rw [hg]; exact (bz_ (by repeat (with_reducible first | exact HB.out | apply p3_ | apply p1_ | apply p2_))) : w.heap.size ≤ gb226)); clear HO_6; clear HO_7; clear HO190; clear HL191_0; clear HO195; clear HO199; clear HO205; clear HO208; clear HO214; clear HO217; clear HR191_0; clear HB; have HO_6 := n0_; have HO_7 := n1_; have HO190 := n2_; have HL191_0 := n3_; have HO195 := n4_; have HO199 := n5_; have HO205 := n6_; have HO208 := n7_; have HO214 := n8_; have HO217 := n9_; have HR191_0 := n10_; have HB := n11_; have BK226 := n12_; have GW226 := n13_; have GE226 := n14_; clear n0_ n1_ n2_ n3_ n4_ n5_ n6_ n7_ n8_ n9_ n10_ n11_ n12_ n13_ n14_; clear hb hbox hg; have hcz65_0 : w64.cell? ⟨gb226, 0, none⟩ = some (.int .i64 0) := (bc_ BK226.out 0).trans rfl; have hcz65_1 : w64.cell? ⟨gb226, 1, none⟩ = some (.int .i64 0) := (bc_ BK226.out 1).trans rfl; have hcz65_2 : w64.cell? ⟨gb226, 2, none⟩ = some (.string (⟨#[]⟩ : ByteArray)) := (bc_ BK226.out 2).trans rfl; have hcz65_3 : w64.cell? ⟨gb226, 3, none⟩ = some (.int .i64 0) := (bc_ BK226.out 3).trans rfl; have hcz65_4 : w64.cell? ⟨gb226, 4, none⟩ = some (.string (⟨#[]⟩ : ByteArray)) := (bc_ BK226.out 4).trans rfl; have hcz65_5 : w64.cell? ⟨gb226, 5, none⟩ = some (.bool false) := (bc_ BK226.out 5).trans rfl; have hfz65_0 := bf_ BK226.out 0; have hfz65_1 := bf_ BK226.out 1; have hfz65_2 := bf_ BK226.out 2; have hfz65_3 := bf_ BK226.out 3; have hfz65_4 := bf_ BK226.out 4; have hfz65_5 := bf_ BK226.out 5) | ((with_reducible refine gate_callee (f := 25) rfl ?_); refine goesL_ (some 110) rfl rfl Try.func25 (by kernel_rfl) rfl #[.slice A191_0 (rd_L4 y188 (ji13)).length c191_0] rfl (by (try simp only [List.map_toArray, List.map_cons, List.map_nil]); first | done | (simp only [hji13]; rfl) | rfl | (simp only [List.length_drop, List.length_take]; rfl)) ?_; (with_reducible refine (table_May_c.calls _ _ (rd_L4 y188 (ji13)) false _ ?side1 ?side2 A23.out).mono ?_); (case side1 => repeat (first | exact ((Kd.V_reads' (by (with_reducible repeat (first | apply v1_ | apply v2_ | apply v3_)); exact (Kd.V_mono (Kd.V_far (p := ⟨gb226, 5, none⟩) (Kd.V_far (p := ⟨gb226, 4, none⟩) (Kd.V_far (p := ⟨gb226, 3, none⟩) (Kd.V_far (p := ⟨gb226, 2, none⟩) (Kd.V_far (p := ⟨gb226, 1, none⟩) (Kd.V_far (p := ⟨gb226, 0, none⟩) (Kd.V_mono HL191_0.out (fun k_ hk => (⟨hk, hk.2⟩ : _ ∧ k_ ≠ gb226))) (fun _ hk => by ((repeat' apply And.intro) <;> (first | trivial | exact hk | exact hk.1 | exact hk.2 | exact hk.2.1 | exact hk.2.2 | exact hk.2.2.1 | exact hk.2.2.2 | exact hk.2.2.2.1 | exact hk.2.2.2.2 | exact hk.2.2.2.2.1 | exact hk.2.2.2.2.2 | exact hk.2.2.2.2.2.1 | exact hk.2.2.2.2.2.2 | exact hk.1.1 | exact hk.1.2))) (.int .i64 t219)) (fun _ hk => by ((repeat' apply And.intro) <;> (first | trivial | exact hk | exact hk.1 | exact hk.2 | exact hk.2.1 | exact hk.2.2 | exact hk.2.2.1 | exact hk.2.2.2 | exact hk.2.2.2.1 | exact hk.2.2.2.2 | exact hk.2.2.2.2.1 | exact hk.2.2.2.2.2 | exact hk.2.2.2.2.2.1 | exact hk.2.2.2.2.2.2 | exact hk.1.1 | exact hk.1.2))) (.int .i64 t220)) (fun _ hk => by ((repeat' apply And.intro) <;> (first | trivial | exact hk | exact hk.1 | exact hk.2 | exact hk.2.1 | exact hk.2.2 | exact hk.2.2.1 | exact hk.2.2.2 | exact hk.2.2.2.1 | exact hk.2.2.2.2 | exact hk.2.2.2.2.1 | exact hk.2.2.2.2.2 | exact hk.2.2.2.2.2.1 | exact hk.2.2.2.2.2.2 | exact hk.1.1 | exact hk.1.2))) (.string t221)) (fun _ hk => by ((repeat' apply And.intro) <;> (first | trivial | exact hk | exact hk.1 | exact hk.2 | exact hk.2.1 | exact hk.2.2 | exact hk.2.2.1 | exact hk.2.2.2 | exact hk.2.2.2.1 | exact hk.2.2.2.2 | exact hk.2.2.2.2.1 | exact hk.2.2.2.2.2 | exact hk.2.2.2.2.2.1 | exact hk.2.2.2.2.2.2 | exact hk.1.1 | exact hk.1.2))) (.int .i64 t222)) (fun _ hk => by ((repeat' apply And.intro) <;> (first | trivial | exact hk | exact hk.1 | exact hk.2 | exact hk.2.1 | exact hk.2.2 | exact hk.2.2.1 | exact hk.2.2.2 | exact hk.2.2.2.1 | exact hk.2.2.2.2 | exact hk.2.2.2.2.1 | exact hk.2.2.2.2.2 | exact hk.2.2.2.2.2.1 | exact hk.2.2.2.2.2.2 | exact hk.1.1 | exact hk.1.2))) (.string t223)) (fun _ hk => by ((repeat' apply And.intro) <;> (first | trivial | exact hk | exact hk.1 | exact hk.2 | exact hk.2.1 | exact hk.2.2 | exact hk.2.2.1 | exact hk.2.2.2 | exact hk.2.2.2.1 | exact hk.2.2.2.2 | exact hk.2.2.2.2.1 | exact hk.2.2.2.2.2 | exact hk.2.2.2.2.2.1 | exact hk.2.2.2.2.2.2 | exact hk.1.1 | exact hk.1.2))) (.bool t224)) (fun _ h_ => h_.1)))).2.2) | (with_reducible refine c1_ ?_ _) | (with_reducible refine c2_ ?_ _) | (with_reducible refine c3_ ?_))); (case side2 => exact HC191_0.out); rintro e w66 ⟨rfl, hb⟩; refine ⟨_, rfl, ?_⟩; have n0_ := am_ (Kd.R_below (by (with_reducible repeat (first | apply r1_ | apply r2_ | apply r3_)); exact (Kd.R_mono (Kd.R_far (p := ⟨gb226, 5, none⟩) (Kd.R_far (p := ⟨gb226, 4, none⟩) (Kd.R_far (p := ⟨gb226, 3, none⟩) (Kd.R_far (p := ⟨gb226, 2, none⟩) (Kd.R_far (p := ⟨gb226, 1, none⟩) (Kd.R_far (p := ⟨gb226, 0, none⟩) (Kd.R_mono HO_6.out (fun k_ hk => (⟨hk, hk.2⟩ : _ ∧ k_ ≠ gb226))) (fun _ hk => by ((repeat' apply And.intro) <;> (first | trivial | exact hk | exact hk.1 | exact hk.2 | exact hk.2.1 | exact hk.2.2 | exact hk.2.2.1 | exact hk.2.2.2 | exact hk.2.2.2.1 | exact hk.2.2.2.2 | exact hk.2.2.2.2.1 | exact hk.2.2.2.2.2 | exact hk.2.2.2.2.2.1 | exact hk.2.2.2.2.2.2 | exact hk.1.1 | exact hk.1.2))) (.int .i64 t219)) (fun _ hk => by ((repeat' apply And.intro) <;> (first | trivial | exact hk | exact hk.1 | exact hk.2 | exact hk.2.1 | exact hk.2.2 | exact hk.2.2.1 | exact hk.2.2.2 | exact hk.2.2.2.1 | exact hk.2.2.2.2 | exact hk.2.2.2.2.1 | exact hk.2.2.2.2.2 | exact hk.2.2.2.2.2.1 | exact hk.2.2.2.2.2.2 | exact hk.1.1 | exact hk.1.2))) (.int .i64 t220)) (fun _ hk => by ((repeat' apply And.intro) <;> (first | trivial | exact hk | exact hk.1 | exact hk.2 | exact hk.2.1 | exact hk.2.2 | exact hk.2.2.1 | exact hk.2.2.2 | exact hk.2.2.2.1 | exact hk.2.2.2.2 | exact hk.2.2.2.2.1 | exact hk.2.2.2.2.2 | exact hk.2.2.2.2.2.1 | exact hk.2.2.2.2.2.2 | exact hk.1.1 | exact hk.1.2))) (.string t221)) (fun _ hk => by ((repeat' apply And.intro) <;> (first | trivial | exact hk | exact hk.1 | exact hk.2 | exact hk.2.1 | exact hk.2.2 | exact hk.2.2.1 | exact hk.2.2.2 | exact hk.2.2.2.1 | exact hk.2.2.2.2 | exact hk.2.2.2.2.1 | exact hk.2.2.2.2.2 | exact hk.2.2.2.2.2.1 | exact hk.2.2.2.2.2.2 | exact hk.1.1 | exact hk.1.2))) (.int .i64 t222)) (fun _ hk => by ((repeat' apply And.intro) <;> (first | trivial | exact hk | exact hk.1 | exact hk.2 | exact hk.2.1 | exact hk.2.2 | exact hk.2.2.1 | exact hk.2.2.2 | exact hk.2.2.2.1 | exact hk.2.2.2.2 | exact hk.2.2.2.2.1 | exact hk.2.2.2.2.2 | exact hk.2.2.2.2.2.1 | exact hk.2.2.2.2.2.2 | exact hk.1.1 | exact hk.1.2))) (.string t223)) (fun _ hk => by ((repeat' apply And.intro) <;> (first | trivial | exact hk | exact hk.1 | exact hk.2 | exact hk.2.1 | exact hk.2.2 | exact hk.2.2.1 | exact hk.2.2.2 | exact hk.2.2.2.1 | exact hk.2.2.2.2 | exact hk.2.2.2.2.1 | exact hk.2.2.2.2.2 | exact hk.2.2.2.2.2.1 | exact hk.2.2.2.2.2.2 | exact hk.1.1 | exact hk.1.2))) (.bool t224)) (fun _ h_ => h_.1))) hb); have n1_ := am_ (Kd.R_below (by (with_reducible repeat (first | apply r1_ | apply r2_ | apply r3_)); exact (Kd.R_mono (Kd.R_far (p := ⟨gb226, 5, none⟩) (Kd.R_far (p := ⟨gb226, 4, none⟩) (Kd.R_far (p := ⟨gb226, 3, none⟩) (Kd.R_far (p := ⟨gb226, 2, none⟩) (Kd.R_far (p := ⟨gb226, 1, none⟩) (Kd.R_far (p := ⟨gb226, 0, none⟩) (Kd.R_mono HO_7.out (fun k_ hk => (⟨hk, hk.2⟩ : _ ∧ k_ ≠ gb226))) (fun _ hk => by ((repeat' apply And.intro) <;> (first | trivial | exact hk | exact hk.1 | exact hk.2 | exact hk.2.1 | exact hk.2.2 | exact hk.2.2.1 | exact hk.2.2.2 | exact hk.2.2.2.1 | exact hk.2.2.2.2 | exact hk.2.2.2.2.1 | exact hk.2.2.2.2.2 | exact hk.2.2.2.2.2.1 | exact hk.2.2.2.2.2.2 | exact hk.1.1 | exact hk.1.2))) (.int .i64 t219)) (fun _ hk => by ((repeat' apply And.intro) <;> (first | trivial | exact hk | exact hk.1 | exact hk.2 | exact hk.2.1 | exact hk.2.2 | exact hk.2.2.1 | exact hk.2.2.2 | exact hk.2.2.2.1 | exact hk.2.2.2.2 | exact hk.2.2.2.2.1 | exact hk.2.2.2.2.2 | exact hk.2.2.2.2.2.1 | exact hk.2.2.2.2.2.2 | exact hk.1.1 | exact hk.1.2))) (.int .i64 t220)) (fun _ hk => by ((repeat' apply And.intro) <;> (first | trivial | exact hk | exact hk.1 | exact hk.2 | exact hk.2.1 | exact hk.2.2 | exact hk.2.2.1 | exact hk.2.2.2 | exact hk.2.2.2.1 | exact hk.2.2.2.2 | exact hk.2.2.2.2.1 | exact hk.2.2.2.2.2 | exact hk.2.2.2.2.2.1 | exact hk.2.2.2.2.2.2 | exact hk.1.1 | exact hk.1.2))) (.string t221)) (fun _ hk => by ((repeat' apply And.intro) <;> (first | trivial | exact hk | exact hk.1 | exact hk.2 | exact hk.2.1 | exact hk.2.2 | exact hk.2.2.1 | exact hk.2.2.2 | exact hk.2.2.2.1 | exact hk.2.2.2.2 | exact hk.2.2.2.2.1 | exact hk.2.2.2.2.2 | exact hk.2.2.2.2.2.1 | exact hk.2.2.2.2.2.2 | exact hk.1.1 | exact hk.1.2))) (.int .i64 t222)) (fun _ hk => by ((repeat' apply And.intro) <;> (first | trivial | exact hk | exact hk.1 | exact hk.2 | exact hk.2.1 | exact hk.2.2 | exact hk.2.2.1 | exact hk.2.2.2 | exact hk.2.2.2.1 | exact hk.2.2.2.2 | exact hk.2.2.2.2.1 | exact hk.2.2.2.2.2 | exact hk.2.2.2.2.2.1 | exact hk.2.2.2.2.2.2 | exact hk.1.1 | exact hk.1.2))) (.string t223)) (fun _ hk => by ((repeat' apply And.intro) <;> (first | trivial | exact hk | exact hk.1 | exact hk.2 | exact hk.2.1 | exact hk.2.2 | exact hk.2.2.1 | exact hk.2.2.2 | exact hk.2.2.2.1 | exact hk.2.2.2.2 | exact hk.2.2.2.2.1 | exact hk.2.2.2.2.2 | exact hk.2.2.2.2.2.1 | exact hk.2.2.2.2.2.2 | exact hk.1.1 | exact hk.1.2))) (.bool t224)) (fun _ h_ => h_.1))) hb); have n2_ := am_ (Kd.N_below (by (with_reducible repeat (first | apply n1'_ | apply n2'_ | apply n3'_)); exact (Kd.N_mono (Kd.N_far (p := ⟨gb226, 5, none⟩) (Kd.N_far (p := ⟨gb226, 4, none⟩) (Kd.N_far (p := ⟨gb226, 3, none⟩) (Kd.N_far (p := ⟨gb226, 2, none⟩) (Kd.N_far (p := ⟨gb226, 1, none⟩) (Kd.N_far (p := ⟨gb226, 0, none⟩) (Kd.N_mono HO190.out (fun k_ hk => (⟨hk, hk.2⟩ : _ ∧ k_ ≠ gb226))) (fun _ hk => by ((repeat' apply And.intro) <;> (first | trivial | exact hk | exact hk.1 | exact hk.2 | exact hk.2.1 | exact hk.2.2 | exact hk.2.2.1 | exact hk.2.2.2 | exact hk.2.2.2.1 | exact hk.2.2.2.2 | exact hk.2.2.2.2.1 | exact hk.2.2.2.2.2 | exact hk.2.2.2.2.2.1 | exact hk.2.2.2.2.2.2 | exact hk.1.1 | exact hk.1.2))) (.int .i64 t219)) (fun _ hk => by ((repeat' apply And.intro) <;> (first | trivial | exact hk | exact hk.1 | exact hk.2 | exact hk.2.1 | exact hk.2.2 | exact hk.2.2.1 | exact hk.2.2.2 | exact hk.2.2.2.1 | exact hk.2.2.2.2 | exact hk.2.2.2.2.1 | exact hk.2.2.2.2.2 | exact hk.2.2.2.2.2.1 | exact hk.2.2.2.2.2.2 | exact hk.1.1 | exact hk.1.2))) (.int .i64 t220)) (fun _ hk => by ((repeat' apply And.intro) <;> (first | trivial | exact hk | exact hk.1 | exact hk.2 | exact hk.2.1 | exact hk.2.2 | exact hk.2.2.1 | exact hk.2.2.2 | exact hk.2.2.2.1 | exact hk.2.2.2.2 | exact hk.2.2.2.2.1 | exact hk.2.2.2.2.2 | exact hk.2.2.2.2.2.1 | exact hk.2.2.2.2.2.2 | exact hk.1.1 | exact hk.1.2))) (.string t221)) (fun _ hk => by ((repeat' apply And.intro) <;> (first | trivial | exact hk | exact hk.1 | exact hk.2 | exact hk.2.1 | exact hk.2.2 | exact hk.2.2.1 | exact hk.2.2.2 | exact hk.2.2.2.1 | exact hk.2.2.2.2 | exact hk.2.2.2.2.1 | exact hk.2.2.2.2.2 | exact hk.2.2.2.2.2.1 | exact hk.2.2.2.2.2.2 | exact hk.1.1 | exact hk.1.2))) (.int .i64 t222)) (fun _ hk => by ((repeat' apply And.intro) <;> (first | trivial | exact hk | exact hk.1 | exact hk.2 | exact hk.2.1 | exact hk.2.2 | exact hk.2.2.1 | exact hk.2.2.2 | exact hk.2.2.2.1 | exact hk.2.2.2.2 | exact hk.2.2.2.2.1 | exact hk.2.2.2.2.2 | exact hk.2.2.2.2.2.1 | exact hk.2.2.2.2.2.2 | exact hk.1.1 | exact hk.1.2))) (.string t223)) (fun _ hk => by ((repeat' apply And.intro) <;> (first | trivial | exact hk | exact hk.1 | exact hk.2 | exact hk.2.1 | exact hk.2.2 | exact hk.2.2.1 | exact hk.2.2.2 | exact hk.2.2.2.1 | exact hk.2.2.2.2 | exact hk.2.2.2.2.1 | exact hk.2.2.2.2.2 | exact hk.2.2.2.2.2.1 | exact hk.2.2.2.2.2.2 | exact hk.1.1 | exact hk.1.2))) (.bool t224)) (fun _ h_ => h_.1))) hb); have n3_ := am_ (Kd.V_below (by (with_reducible repeat (first | apply v1_ | apply v2_ | apply v3_)); exact (Kd.V_mono (Kd.V_far (p := ⟨gb226, 5, none⟩) (Kd.V_far (p := ⟨gb226, 4, none⟩) (Kd.V_far (p := ⟨gb226, 3, none⟩) (Kd.V_far (p := ⟨gb226, 2, none⟩) (Kd.V_far (p := ⟨gb226, 1, none⟩) (Kd.V_far (p := ⟨gb226, 0, none⟩) (Kd.V_mono HL191_0.out (fun k_ hk => (⟨hk, hk.2⟩ : _ ∧ k_ ≠ gb226))) (fun _ hk => by ((repeat' apply And.intro) <;> (first | trivial | exact hk | exact hk.1 | exact hk.2 | exact hk.2.1 | exact hk.2.2 | exact hk.2.2.1 | exact hk.2.2.2 | exact hk.2.2.2.1 | exact hk.2.2.2.2 | exact hk.2.2.2.2.1 | exact hk.2.2.2.2.2 | exact hk.2.2.2.2.2.1 | exact hk.2.2.2.2.2.2 | exact hk.1.1 | exact hk.1.2))) (.int .i64 t219)) (fun _ hk => by ((repeat' apply And.intro) <;> (first | trivial | exact hk | exact hk.1 | exact hk.2 | exact hk.2.1 | exact hk.2.2 | exact hk.2.2.1 | exact hk.2.2.2 | exact hk.2.2.2.1 | exact hk.2.2.2.2 | exact hk.2.2.2.2.1 | exact hk.2.2.2.2.2 | exact hk.2.2.2.2.2.1 | exact hk.2.2.2.2.2.2 | exact hk.1.1 | exact hk.1.2))) (.int .i64 t220)) (fun _ hk => by ((repeat' apply And.intro) <;> (first | trivial | exact hk | exact hk.1 | exact hk.2 | exact hk.2.1 | exact hk.2.2 | exact hk.2.2.1 | exact hk.2.2.2 | exact hk.2.2.2.1 | exact hk.2.2.2.2 | exact hk.2.2.2.2.1 | exact hk.2.2.2.2.2 | exact hk.2.2.2.2.2.1 | exact hk.2.2.2.2.2.2 | exact hk.1.1 | exact hk.1.2))) (.string t221)) (fun _ hk => by ((repeat' apply And.intro) <;> (first | trivial | exact hk | exact hk.1 | exact hk.2 | exact hk.2.1 | exact hk.2.2 | exact hk.2.2.1 | exact hk.2.2.2 | exact hk.2.2.2.1 | exact hk.2.2.2.2 | exact hk.2.2.2.2.1 | exact hk.2.2.2.2.2 | exact hk.2.2.2.2.2.1 | exact hk.2.2.2.2.2.2 | exact hk.1.1 | exact hk.1.2))) (.int .i64 t222)) (fun _ hk => by ((repeat' apply And.intro) <;> (first | trivial | exact hk | exact hk.1 | exact hk.2 | exact hk.2.1 | exact hk.2.2 | exact hk.2.2.1 | exact hk.2.2.2 | exact hk.2.2.2.1 | exact hk.2.2.2.2 | exact hk.2.2.2.2.1 | exact hk.2.2.2.2.2 | exact hk.2.2.2.2.2.1 | exact hk.2.2.2.2.2.2 | exact hk.1.1 | exact hk.1.2))) (.string t223)) (fun _ hk => by ((repeat' apply And.intro) <;> (first | trivial | exact hk | exact hk.1 | exact hk.2 | exact hk.2.1 | exact hk.2.2 | exact hk.2.2.1 | exact hk.2.2.2 | exact hk.2.2.2.1 | exact hk.2.2.2.2 | exact hk.2.2.2.2.1 | exact hk.2.2.2.2.2 | exact hk.2.2.2.2.2.1 | exact hk.2.2.2.2.2.2 | exact hk.1.1 | exact hk.1.2))) (.bool t224)) (fun _ h_ => h_.1))) hb); have n4_ := am_ (Kd.R_below (by (with_reducible repeat (first | apply r1_ | apply r2_ | apply r3_)); exact (Kd.R_mono (Kd.R_far (p := ⟨gb226, 5, none⟩) (Kd.R_far (p := ⟨gb226, 4, none⟩) (Kd.R_far (p := ⟨gb226, 3, none⟩) (Kd.R_far (p := ⟨gb226, 2, none⟩) (Kd.R_far (p := ⟨gb226, 1, none⟩) (Kd.R_far (p := ⟨gb226, 0, none⟩) (Kd.R_mono HO195.out (fun k_ hk => (⟨hk, hk.2⟩ : _ ∧ k_ ≠ gb226))) (fun _ hk => by ((repeat' apply And.intro) <;> (first | trivial | exact hk | exact hk.1 | exact hk.2 | exact hk.2.1 | exact hk.2.2 | exact hk.2.2.1 | exact hk.2.2.2 | exact hk.2.2.2.1 | exact hk.2.2.2.2 | exact hk.2.2.2.2.1 | exact hk.2.2.2.2.2 | exact hk.2.2.2.2.2.1 | exact hk.2.2.2.2.2.2 | exact hk.1.1 | exact hk.1.2))) (.int .i64 t219)) (fun _ hk => by ((repeat' apply And.intro) <;> (first | trivial | exact hk | exact hk.1 | exact hk.2 | exact hk.2.1 | exact hk.2.2 | exact hk.2.2.1 | exact hk.2.2.2 | exact hk.2.2.2.1 | exact hk.2.2.2.2 | exact hk.2.2.2.2.1 | exact hk.2.2.2.2.2 | exact hk.2.2.2.2.2.1 | exact hk.2.2.2.2.2.2 | exact hk.1.1 | exact hk.1.2))) (.int .i64 t220)) (fun _ hk => by ((repeat' apply And.intro) <;> (first | trivial | exact hk | exact hk.1 | exact hk.2 | exact hk.2.1 | exact hk.2.2 | exact hk.2.2.1 | exact hk.2.2.2 | exact hk.2.2.2.1 | exact hk.2.2.2.2 | exact hk.2.2.2.2.1 | exact hk.2.2.2.2.2 | exact hk.2.2.2.2.2.1 | exact hk.2.2.2.2.2.2 | exact hk.1.1 | exact hk.1.2))) (.string t221)) (fun _ hk => by ((repeat' apply And.intro) <;> (first | trivial | exact hk | exact hk.1 | exact hk.2 | exact hk.2.1 | exact hk.2.2 | exact hk.2.2.1 | exact hk.2.2.2 | exact hk.2.2.2.1 | exact hk.2.2.2.2 | exact hk.2.2.2.2.1 | exact hk.2.2.2.2.2 | exact hk.2.2.2.2.2.1 | exact hk.2.2.2.2.2.2 | exact hk.1.1 | exact hk.1.2))) (.int .i64 t222)) (fun _ hk => by ((repeat' apply And.intro) <;> (first | trivial | exact hk | exact hk.1 | exact hk.2 | exact hk.2.1 | exact hk.2.2 | exact hk.2.2.1 | exact hk.2.2.2 | exact hk.2.2.2.1 | exact hk.2.2.2.2 | exact hk.2.2.2.2.1 | exact hk.2.2.2.2.2 | exact hk.2.2.2.2.2.1 | exact hk.2.2.2.2.2.2 | exact hk.1.1 | exact hk.1.2))) (.string t223)) (fun _ hk => by ((repeat' apply And.intro) <;> (first | trivial | exact hk | exact hk.1 | exact hk.2 | exact hk.2.1 | exact hk.2.2 | exact hk.2.2.1 | exact hk.2.2.2 | exact hk.2.2.2.1 | exact hk.2.2.2.2 | exact hk.2.2.2.2.1 | exact hk.2.2.2.2.2 | exact hk.2.2.2.2.2.1 | exact hk.2.2.2.2.2.2 | exact hk.1.1 | exact hk.1.2))) (.bool t224)) (fun _ h_ => h_.1))) hb); have n5_ := am_ (Kd.R_below (by (with_reducible repeat (first | apply r1_ | apply r2_ | apply r3_)); exact (Kd.R_mono (Kd.R_far (p := ⟨gb226, 5, none⟩) (Kd.R_far (p := ⟨gb226, 4, none⟩) (Kd.R_far (p := ⟨gb226, 3, none⟩) (Kd.R_far (p := ⟨gb226, 2, none⟩) (Kd.R_far (p := ⟨gb226, 1, none⟩) (Kd.R_far (p := ⟨gb226, 0, none⟩) (Kd.R_mono HO199.out (fun k_ hk => (⟨hk, hk.2⟩ : _ ∧ k_ ≠ gb226))) (fun _ hk => by ((repeat' apply And.intro) <;> (first | trivial | exact hk | exact hk.1 | exact hk.2 | exact hk.2.1 | exact hk.2.2 | exact hk.2.2.1 | exact hk.2.2.2 | exact hk.2.2.2.1 | exact hk.2.2.2.2 | exact hk.2.2.2.2.1 | exact hk.2.2.2.2.2 | exact hk.2.2.2.2.2.1 | exact hk.2.2.2.2.2.2 | exact hk.1.1 | exact hk.1.2))) (.int .i64 t219)) (fun _ hk => by ((repeat' apply And.intro) <;> (first | trivial | exact hk | exact hk.1 | exact hk.2 | exact hk.2.1 | exact hk.2.2 | exact hk.2.2.1 | exact hk.2.2.2 | exact hk.2.2.2.1 | exact hk.2.2.2.2 | exact hk.2.2.2.2.1 | exact hk.2.2.2.2.2 | exact hk.2.2.2.2.2.1 | exact hk.2.2.2.2.2.2 | exact hk.1.1 | exact hk.1.2))) (.int .i64 t220)) (fun _ hk => by ((repeat' apply And.intro) <;> (first | trivial | exact hk | exact hk.1 | exact hk.2 | exact hk.2.1 | exact hk.2.2 | exact hk.2.2.1 | exact hk.2.2.2 | exact hk.2.2.2.1 | exact hk.2.2.2.2 | exact hk.2.2.2.2.1 | exact hk.2.2.2.2.2 | exact hk.2.2.2.2.2.1 | exact hk.2.2.2.2.2.2 | exact hk.1.1 | exact hk.1.2))) (.string t221)) (fun _ hk => by ((repeat' apply And.intro) <;> (first | trivial | exact hk | exact hk.1 | exact hk.2 | exact hk.2.1 | exact hk.2.2 | exact hk.2.2.1 | exact hk.2.2.2 | exact hk.2.2.2.1 | exact hk.2.2.2.2 | exact hk.2.2.2.2.1 | exact hk.2.2.2.2.2 | exact hk.2.2.2.2.2.1 | exact hk.2.2.2.2.2.2 | exact hk.1.1 | exact hk.1.2))) (.int .i64 t222)) (fun _ hk => by ((repeat' apply And.intro) <;> (first | trivial | exact hk | exact hk.1 | exact hk.2 | exact hk.2.1 | exact hk.2.2 | exact hk.2.2.1 | exact hk.2.2.2 | exact hk.2.2.2.1 | exact hk.2.2.2.2 | exact hk.2.2.2.2.1 | exact hk.2.2.2.2.2 | exact hk.2.2.2.2.2.1 | exact hk.2.2.2.2.2.2 | exact hk.1.1 | exact hk.1.2))) (.string t223)) (fun _ hk => by ((repeat' apply And.intro) <;> (first | trivial | exact hk | exact hk.1 | exact hk.2 | exact hk.2.1 | exact hk.2.2 | exact hk.2.2.1 | exact hk.2.2.2 | exact hk.2.2.2.1 | exact hk.2.2.2.2 | exact hk.2.2.2.2.1 | exact hk.2.2.2.2.2 | exact hk.2.2.2.2.2.1 | exact hk.2.2.2.2.2.2 | exact hk.1.1 | exact hk.1.2))) (.bool t224)) (fun _ h_ => h_.1))) hb); have n6_ := am_ (Kd.V_below (by (with_reducible repeat (first | apply v1_ | apply v2_ | apply v3_)); exact (Kd.V_mono (Kd.V_far (p := ⟨gb226, 5, none⟩) (Kd.V_far (p := ⟨gb226, 4, none⟩) (Kd.V_far (p := ⟨gb226, 3, none⟩) (Kd.V_far (p := ⟨gb226, 2, none⟩) (Kd.V_far (p := ⟨gb226, 1, none⟩) (Kd.V_far (p := ⟨gb226, 0, none⟩) (Kd.V_mono HO205.out (fun k_ hk => (⟨hk, hk.2⟩ : _ ∧ k_ ≠ gb226))) (fun _ hk => by ((repeat' apply And.intro) <;> (first | trivial | exact hk | exact hk.1 | exact hk.2 | exact hk.2.1 | exact hk.2.2 | exact hk.2.2.1 | exact hk.2.2.2 | exact hk.2.2.2.1 | exact hk.2.2.2.2 | exact hk.2.2.2.2.1 | exact hk.2.2.2.2.2 | exact hk.2.2.2.2.2.1 | exact hk.2.2.2.2.2.2 | exact hk.1.1 | exact hk.1.2))) (.int .i64 t219)) (fun _ hk => by ((repeat' apply And.intro) <;> (first | trivial | exact hk | exact hk.1 | exact hk.2 | exact hk.2.1 | exact hk.2.2 | exact hk.2.2.1 | exact hk.2.2.2 | exact hk.2.2.2.1 | exact hk.2.2.2.2 | exact hk.2.2.2.2.1 | exact hk.2.2.2.2.2 | exact hk.2.2.2.2.2.1 | exact hk.2.2.2.2.2.2 | exact hk.1.1 | exact hk.1.2))) (.int .i64 t220)) (fun _ hk => by ((repeat' apply And.intro) <;> (first | trivial | exact hk | exact hk.1 | exact hk.2 | exact hk.2.1 | exact hk.2.2 | exact hk.2.2.1 | exact hk.2.2.2 | exact hk.2.2.2.1 | exact hk.2.2.2.2 | exact hk.2.2.2.2.1 | exact hk.2.2.2.2.2 | exact hk.2.2.2.2.2.1 | exact hk.2.2.2.2.2.2 | exact hk.1.1 | exact hk.1.2))) (.string t221)) (fun _ hk => by ((repeat' apply And.intro) <;> (first | trivial | exact hk | exact hk.1 | exact hk.2 | exact hk.2.1 | exact hk.2.2 | exact hk.2.2.1 | exact hk.2.2.2 | exact hk.2.2.2.1 | exact hk.2.2.2.2 | exact hk.2.2.2.2.1 | exact hk.2.2.2.2.2 | exact hk.2.2.2.2.2.1 | exact hk.2.2.2.2.2.2 | exact hk.1.1 | exact hk.1.2))) (.int .i64 t222)) (fun _ hk => by ((repeat' apply And.intro) <;> (first | trivial | exact hk | exact hk.1 | exact hk.2 | exact hk.2.1 | exact hk.2.2 | exact hk.2.2.1 | exact hk.2.2.2 | exact hk.2.2.2.1 | exact hk.2.2.2.2 | exact hk.2.2.2.2.1 | exact hk.2.2.2.2.2 | exact hk.2.2.2.2.2.1 | exact hk.2.2.2.2.2.2 | exact hk.1.1 | exact hk.1.2))) (.string t223)) (fun _ hk => by ((repeat' apply And.intro) <;> (first | trivial | exact hk | exact hk.1 | exact hk.2 | exact hk.2.1 | exact hk.2.2 | exact hk.2.2.1 | exact hk.2.2.2 | exact hk.2.2.2.1 | exact hk.2.2.2.2 | exact hk.2.2.2.2.1 | exact hk.2.2.2.2.2 | exact hk.2.2.2.2.2.1 | exact hk.2.2.2.2.2.2 | exact hk.1.1 | exact hk.1.2))) (.bool t224)) (fun _ h_ => h_.1))) hb); have n7_ := am_ (Kd.R_below (by (with_reducible repeat (first | apply r1_ | apply r2_ | apply r3_)); exact (Kd.R_mono (Kd.R_far (p := ⟨gb226, 5, none⟩) (Kd.R_far (p := ⟨gb226, 4, none⟩) (Kd.R_far (p := ⟨gb226, 3, none⟩) (Kd.R_far (p := ⟨gb226, 2, none⟩) (Kd.R_far (p := ⟨gb226, 1, none⟩) (Kd.R_far (p := ⟨gb226, 0, none⟩) (Kd.R_mono HO208.out (fun k_ hk => (⟨hk, hk.2⟩ : _ ∧ k_ ≠ gb226))) (fun _ hk => by ((repeat' apply And.intro) <;> (first | trivial | exact hk | exact hk.1 | exact hk.2 | exact hk.2.1 | exact hk.2.2 | exact hk.2.2.1 | exact hk.2.2.2 | exact hk.2.2.2.1 | exact hk.2.2.2.2 | exact hk.2.2.2.2.1 | exact hk.2.2.2.2.2 | exact hk.2.2.2.2.2.1 | exact hk.2.2.2.2.2.2 | exact hk.1.1 | exact hk.1.2))) (.int .i64 t219)) (fun _ hk => by ((repeat' apply And.intro) <;> (first | trivial | exact hk | exact hk.1 | exact hk.2 | exact hk.2.1 | exact hk.2.2 | exact hk.2.2.1 | exact hk.2.2.2 | exact hk.2.2.2.1 | exact hk.2.2.2.2 | exact hk.2.2.2.2.1 | exact hk.2.2.2.2.2 | exact hk.2.2.2.2.2.1 | exact hk.2.2.2.2.2.2 | exact hk.1.1 | exact hk.1.2))) (.int .i64 t220)) (fun _ hk => by ((repeat' apply And.intro) <;> (first | trivial | exact hk | exact hk.1 | exact hk.2 | exact hk.2.1 | exact hk.2.2 | exact hk.2.2.1 | exact hk.2.2.2 | exact hk.2.2.2.1 | exact hk.2.2.2.2 | exact hk.2.2.2.2.1 | exact hk.2.2.2.2.2 | exact hk.2.2.2.2.2.1 | exact hk.2.2.2.2.2.2 | exact hk.1.1 | exact hk.1.2))) (.string t221)) (fun _ hk => by ((repeat' apply And.intro) <;> (first | trivial | exact hk | exact hk.1 | exact hk.2 | exact hk.2.1 | exact hk.2.2 | exact hk.2.2.1 | exact hk.2.2.2 | exact hk.2.2.2.1 | exact hk.2.2.2.2 | exact hk.2.2.2.2.1 | exact hk.2.2.2.2.2 | exact hk.2.2.2.2.2.1 | exact hk.2.2.2.2.2.2 | exact hk.1.1 | exact hk.1.2))) (.int .i64 t222)) (fun _ hk => by ((repeat' apply And.intro) <;> (first | trivial | exact hk | exact hk.1 | exact hk.2 | exact hk.2.1 | exact hk.2.2 | exact hk.2.2.1 | exact hk.2.2.2 | exact hk.2.2.2.1 | exact hk.2.2.2.2 | exact hk.2.2.2.2.1 | exact hk.2.2.2.2.2 | exact hk.2.2.2.2.2.1 | exact hk.2.2.2.2.2.2 | exact hk.1.1 | exact hk.1.2))) (.string t223)) (fun _ hk => by ((repeat' apply And.intro) <;> (first | trivial | exact hk | exact hk.1 | exact hk.2 | exact hk.2.1 | exact hk.2.2 | exact hk.2.2.1 | exact hk.2.2.2 | exact hk.2.2.2.1 | exact hk.2.2.2.2 | exact hk.2.2.2.2.1 | exact hk.2.2.2.2.2 | exact hk.2.2.2.2.2.1 | exact hk.2.2.2.2.2.2 | exact hk.1.1 | exact hk.1.2))) (.bool t224)) (fun _ h_ => h_.1))) hb); have n8_ := am_ (Kd.V_below (by (with_reducible repeat (first | apply v1_ | apply v2_ | apply v3_)); exact (Kd.V_mono (Kd.V_far (p := ⟨gb226, 5, none⟩) (Kd.V_far (p := ⟨gb226, 4, none⟩) (Kd.V_far (p := ⟨gb226, 3, none⟩) (Kd.V_far (p := ⟨gb226, 2, none⟩) (Kd.V_far (p := ⟨gb226, 1, none⟩) (Kd.V_far (p := ⟨gb226, 0, none⟩) (Kd.V_mono HO214.out (fun k_ hk => (⟨hk, hk.2⟩ : _ ∧ k_ ≠ gb226))) (fun _ hk => by ((repeat' apply And.intro) <;> (first | trivial | exact hk | exact hk.1 | exact hk.2 | exact hk.2.1 | exact hk.2.2 | exact hk.2.2.1 | exact hk.2.2.2 | exact hk.2.2.2.1 | exact hk.2.2.2.2 | exact hk.2.2.2.2.1 | exact hk.2.2.2.2.2 | exact hk.2.2.2.2.2.1 | exact hk.2.2.2.2.2.2 | exact hk.1.1 | exact hk.1.2))) (.int .i64 t219)) (fun _ hk => by ((repeat' apply And.intro) <;> (first | trivial | exact hk | exact hk.1 | exact hk.2 | exact hk.2.1 | exact hk.2.2 | exact hk.2.2.1 | exact hk.2.2.2 | exact hk.2.2.2.1 | exact hk.2.2.2.2 | exact hk.2.2.2.2.1 | exact hk.2.2.2.2.2 | exact hk.2.2.2.2.2.1 | exact hk.2.2.2.2.2.2 | exact hk.1.1 | exact hk.1.2))) (.int .i64 t220)) (fun _ hk => by ((repeat' apply And.intro) <;> (first | trivial | exact hk | exact hk.1 | exact hk.2 | exact hk.2.1 | exact hk.2.2 | exact hk.2.2.1 | exact hk.2.2.2 | exact hk.2.2.2.1 | exact hk.2.2.2.2 | exact hk.2.2.2.2.1 | exact hk.2.2.2.2.2 | exact hk.2.2.2.2.2.1 | exact hk.2.2.2.2.2.2 | exact hk.1.1 | exact hk.1.2))) (.string t221)) (fun _ hk => by ((repeat' apply And.intro) <;> (first | trivial | exact hk | exact hk.1 | exact hk.2 | exact hk.2.1 | exact hk.2.2 | exact hk.2.2.1 | exact hk.2.2.2 | exact hk.2.2.2.1 | exact hk.2.2.2.2 | exact hk.2.2.2.2.1 | exact hk.2.2.2.2.2 | exact hk.2.2.2.2.2.1 | exact hk.2.2.2.2.2.2 | exact hk.1.1 | exact hk.1.2))) (.int .i64 t222)) (fun _ hk => by ((repeat' apply And.intro) <;> (first | trivial | exact hk | exact hk.1 | exact hk.2 | exact hk.2.1 | exact hk.2.2 | exact hk.2.2.1 | exact hk.2.2.2 | exact hk.2.2.2.1 | exact hk.2.2.2.2 | exact hk.2.2.2.2.1 | exact hk.2.2.2.2.2 | exact hk.2.2.2.2.2.1 | exact hk.2.2.2.2.2.2 | exact hk.1.1 | exact hk.1.2))) (.string t223)) (fun _ hk => by ((repeat' apply And.intro) <;> (first | trivial | exact hk | exact hk.1 | exact hk.2 | exact hk.2.1 | exact hk.2.2 | exact hk.2.2.1 | exact hk.2.2.2 | exact hk.2.2.2.1 | exact hk.2.2.2.2 | exact hk.2.2.2.2.1 | exact hk.2.2.2.2.2 | exact hk.2.2.2.2.2.1 | exact hk.2.2.2.2.2.2 | exact hk.1.1 | exact hk.1.2))) (.bool t224)) (fun _ h_ => h_.1))) hb); have n9_ := am_ (Kd.R_below (by (with_reducible repeat (first | apply r1_ | apply r2_ | apply r3_)); exact (Kd.R_mono (Kd.R_far (p := ⟨gb226, 5, none⟩) (Kd.R_far (p := ⟨gb226, 4, none⟩) (Kd.R_far (p := ⟨gb226, 3, none⟩) (Kd.R_far (p := ⟨gb226, 2, none⟩) (Kd.R_far (p := ⟨gb226, 1, none⟩) (Kd.R_far (p := ⟨gb226, 0, none⟩) (Kd.R_mono HO217.out (fun k_ hk => (⟨hk, hk.2⟩ : _ ∧ k_ ≠ gb226))) (fun _ hk => by ((repeat' apply And.intro) <;> (first | trivial | exact hk | exact hk.1 | exact hk.2 | exact hk.2.1 | exact hk.2.2 | exact hk.2.2.1 | exact hk.2.2.2 | exact hk.2.2.2.1 | exact hk.2.2.2.2 | exact hk.2.2.2.2.1 | exact hk.2.2.2.2.2 | exact hk.2.2.2.2.2.1 | exact hk.2.2.2.2.2.2 | exact hk.1.1 | exact hk.1.2))) (.int .i64 t219)) (fun _ hk => by ((repeat' apply And.intro) <;> (first | trivial | exact hk | exact hk.1 | exact hk.2 | exact hk.2.1 | exact hk.2.2 | exact hk.2.2.1 | exact hk.2.2.2 | exact hk.2.2.2.1 | exact hk.2.2.2.2 | exact hk.2.2.2.2.1 | exact hk.2.2.2.2.2 | exact hk.2.2.2.2.2.1 | exact hk.2.2.2.2.2.2 | exact hk.1.1 | exact hk.1.2))) (.int .i64 t220)) (fun _ hk => by ((repeat' apply And.intro) <;> (first | trivial | exact hk | exact hk.1 | exact hk.2 | exact hk.2.1 | exact hk.2.2 | exact hk.2.2.1 | exact hk.2.2.2 | exact hk.2.2.2.1 | exact hk.2.2.2.2 | exact hk.2.2.2.2.1 | exact hk.2.2.2.2.2 | exact hk.2.2.2.2.2.1 | exact hk.2.2.2.2.2.2 | exact hk.1.1 | exact hk.1.2))) (.string t221)) (fun _ hk => by ((repeat' apply And.intro) <;> (first | trivial | exact hk | exact hk.1 | exact hk.2 | exact hk.2.1 | exact hk.2.2 | exact hk.2.2.1 | exact hk.2.2.2 | exact hk.2.2.2.1 | exact hk.2.2.2.2 | exact hk.2.2.2.2.1 | exact hk.2.2.2.2.2 | exact hk.2.2.2.2.2.1 | exact hk.2.2.2.2.2.2 | exact hk.1.1 | exact hk.1.2))) (.int .i64 t222)) (fun _ hk => by ((repeat' apply And.intro) <;> (first | trivial | exact hk | exact hk.1 | exact hk.2 | exact hk.2.1 | exact hk.2.2 | exact hk.2.2.1 | exact hk.2.2.2 | exact hk.2.2.2.1 | exact hk.2.2.2.2 | exact hk.2.2.2.2.1 | exact hk.2.2.2.2.2 | exact hk.2.2.2.2.2.1 | exact hk.2.2.2.2.2.2 | exact hk.1.1 | exact hk.1.2))) (.string t223)) (fun _ hk => by ((repeat' apply And.intro) <;> (first | trivial | exact hk | exact hk.1 | exact hk.2 | exact hk.2.1 | exact hk.2.2 | exact hk.2.2.1 | exact hk.2.2.2 | exact hk.2.2.2.1 | exact hk.2.2.2.2 | exact hk.2.2.2.2.1 | exact hk.2.2.2.2.2 | exact hk.2.2.2.2.2.1 | exact hk.2.2.2.2.2.2 | exact hk.1.1 | exact hk.1.2))) (.bool t224)) (fun _ h_ => h_.1))) hb); have n10_ := am_ (c4_ ((Kd.V_reads' (by (with_reducible repeat (first | apply v1_ | apply v2_ | apply v3_)); exact (Kd.V_mono (Kd.V_far (p := ⟨gb226, 5, none⟩) (Kd.V_far (p := ⟨gb226, 4, none⟩) (Kd.V_far (p := ⟨gb226, 3, none⟩) (Kd.V_far (p := ⟨gb226, 2, none⟩) (Kd.V_far (p := ⟨gb226, 1, none⟩) (Kd.V_far (p := ⟨gb226, 0, none⟩) (Kd.V_mono HL191_0.out (fun k_ hk => (⟨hk, hk.2⟩ : _ ∧ k_ ≠ gb226))) (fun _ hk => by ((repeat' apply And.intro) <;> (first | trivial | exact hk | exact hk.1 | exact hk.2 | exact hk.2.1 | exact hk.2.2 | exact hk.2.2.1 | exact hk.2.2.2 | exact hk.2.2.2.1 | exact hk.2.2.2.2 | exact hk.2.2.2.2.1 | exact hk.2.2.2.2.2 | exact hk.2.2.2.2.2.1 | exact hk.2.2.2.2.2.2 | exact hk.1.1 | exact hk.1.2))) (.int .i64 t219)) (fun _ hk => by ((repeat' apply And.intro) <;> (first | trivial | exact hk | exact hk.1 | exact hk.2 | exact hk.2.1 | exact hk.2.2 | exact hk.2.2.1 | exact hk.2.2.2 | exact hk.2.2.2.1 | exact hk.2.2.2.2 | exact hk.2.2.2.2.1 | exact hk.2.2.2.2.2 | exact hk.2.2.2.2.2.1 | exact hk.2.2.2.2.2.2 | exact hk.1.1 | exact hk.1.2))) (.int .i64 t220)) (fun _ hk => by ((repeat' apply And.intro) <;> (first | trivial | exact hk | exact hk.1 | exact hk.2 | exact hk.2.1 | exact hk.2.2 | exact hk.2.2.1 | exact hk.2.2.2 | exact hk.2.2.2.1 | exact hk.2.2.2.2 | exact hk.2.2.2.2.1 | exact hk.2.2.2.2.2 | exact hk.2.2.2.2.2.1 | exact hk.2.2.2.2.2.2 | exact hk.1.1 | exact hk.1.2))) (.string t221)) (fun _ hk => by ((repeat' apply And.intro) <;> (first | trivial | exact hk | exact hk.1 | exact hk.2 | exact hk.2.1 | exact hk.2.2 | exact hk.2.2.1 | exact hk.2.2.2 | exact hk.2.2.2.1 | exact hk.2.2.2.2 | exact hk.2.2.2.2.1 | exact hk.2.2.2.2.2 | exact hk.2.2.2.2.2.1 | exact hk.2.2.2.2.2.2 | exact hk.1.1 | exact hk.1.2))) (.int .i64 t222)) (fun _ hk => by ((repeat' apply And.intro) <;> (first | trivial | exact hk | exact hk.1 | exact hk.2 | exact hk.2.1 | exact hk.2.2 | exact hk.2.2.1 | exact hk.2.2.2 | exact hk.2.2.2.1 | exact hk.2.2.2.2 | exact hk.2.2.2.2.1 | exact hk.2.2.2.2.2 | exact hk.2.2.2.2.2.1 | exact hk.2.2.2.2.2.2 | exact hk.1.1 | exact hk.1.2))) (.string t223)) (fun _ hk => by ((repeat' apply And.intro) <;> (first | trivial | exact hk | exact hk.1 | exact hk.2 | exact hk.2.1 | exact hk.2.2 | exact hk.2.2.1 | exact hk.2.2.2 | exact hk.2.2.2.1 | exact hk.2.2.2.2 | exact hk.2.2.2.2.1 | exact hk.2.2.2.2.2 | exact hk.2.2.2.2.2.1 | exact hk.2.2.2.2.2.2 | exact hk.1.1 | exact hk.1.2))) (.bool t224)) (fun _ h_ => h_.1)))).2.2) hb); have n11_ := am_ (kb_ (g := gb226) (o := .cells #[.int .i64 t219, .int .i64 t220, .string t221, .int .i64 t222, .string t223, .bool t224] 37 (0, 0)) (by (with_reducible repeat (first | refine k2_ ?_ _ | refine k3_ ?_ | refine k1_ ?_ _)); refine blk_put (cs := #[.int .i64 t219, .int .i64 t220, .string t221, .int .i64 t222, .string t223, .bool false]) ?_ 5 _ rfl; (with_reducible repeat (first | refine k2_ ?_ _ | refine k3_ ?_ | refine k1_ ?_ _)); refine blk_put (cs := #[.int .i64 t219, .int .i64 t220, .string t221, .int .i64 t222, .string (⟨#[]⟩ : ByteArray), .bool false]) ?_ 4 _ rfl; (with_reducible repeat (first | refine k2_ ?_ _ | refine k3_ ?_ | refine k1_ ?_ _)); refine blk_put (cs := #[.int .i64 t219, .int .i64 t220, .string t221, .int .i64 0, .string (⟨#[]⟩ : ByteArray), .bool false]) ?_ 3 _ rfl; (with_reducible repeat (first | refine k2_ ?_ _ | refine k3_ ?_ | refine k1_ ?_ _)); refine blk_put (cs := #[.int .i64 t219, .int .i64 t220, .string (⟨#[]⟩ : ByteArray), .int .i64 0, .string (⟨#[]⟩ : ByteArray), .bool false]) ?_ 2 _ rfl; (with_reducible repeat (first | refine k2_ ?_ _ | refine k3_ ?_ | refine k1_ ?_ _)); refine blk_put (cs := #[.int .i64 t219, .int .i64 0, .string (⟨#[]⟩ : ByteArray), .int .i64 0, .string (⟨#[]⟩ : ByteArray), .bool false]) ?_ 1 _ rfl; (with_reducible repeat (first | refine k2_ ?_ _ | refine k3_ ?_ | refine k1_ ?_ _)); refine blk_put (cs := #[.int .i64 0, .int .i64 0, .string (⟨#[]⟩ : ByteArray), .int .i64 0, .string (⟨#[]⟩ : ByteArray), .bool false]) ?_ 0 _ rfl; (with_reducible repeat (first | refine k2_ ?_ _ | refine k3_ ?_ | refine k1_ ?_ _)); exact BK226.out) hb); have n12_ := am_ (bt_ (by repeat (with_reducible first | exact HB.out | apply p3_ | apply p1_ | apply p2_ | refine bs_ ?_ GE226.out)) hb); clear HO_6; clear HO_7; clear HO190; clear HL191_0; clear HO195; clear HO199; clear HO205; clear HO208; clear HO214; clear HO217; clear HR191_0; clear BK226; clear HB; have HO_6 := n0_; have HO_7 := n1_; have HO190 := n2_; have HL191_0 := n3_; have HO195 := n4_; have HO199 := n5_; have HO205 := n6_; have HO208 := n7_; have HO214 := n8_; have HO217 := n9_; have HR191_0 := n10_; have BK226 := n11_; have HB := n12_; clear n0_ n1_ n2_ n3_ n4_ n5_ n6_ n7_ n8_ n9_ n10_ n11_ n12_; (try clear hb)) | (go_at_call 25; (with_reducible refine (table_May_c.calls _ _ y162 true _ ?side1 ?side2 A25.out).mono ?_); (case side1 => repeat (first | exact (Kd.R_reads' HO_6.out).2.2 | (with_reducible refine c1_ ?_ _) | (with_reducible refine c2_ ?_ _) | (with_reducible refine c3_ ?_))); (case side2 => exact (Kd.R_reads' HO_6.out).2.1); rintro e w67 ⟨rfl, hb⟩; have n0_ := am_ (Kd.R_below (by (with_reducible repeat (first | apply r1_ | apply r2_ | apply r3_)); exact HO_6.out) hb); have n1_ := am_ (Kd.R_below (by (with_reducible repeat (first | apply r1_ | apply r2_ | apply r3_)); exact HO_7.out) hb); have n2_ := am_ (Kd.N_below (by (with_reducible repeat (first | apply n1'_ | apply n2'_ | apply n3'_)); exact HO190.out) hb); have n3_ := am_ (Kd.V_below (by (with_reducible repeat (first | apply v1_ | apply v2_ | apply v3_)); exact HL191_0.out) hb); have n4_ := am_ (Kd.R_below (by (with_reducible repeat (first | apply r1_ | apply r2_ | apply r3_)); exact HO195.out) hb); have n5_ := am_ (Kd.R_below (by (with_reducible repeat (first | apply r1_ | apply r2_ | apply r3_)); exact HO199.out) hb); have n6_ := am_ (Kd.V_below (by (with_reducible repeat (first | apply v1_ | apply v2_ | apply v3_)); exact HO205.out) hb); have n7_ := am_ (Kd.R_below (by (with_reducible repeat (first | apply r1_ | apply r2_ | apply r3_)); exact HO208.out) hb); have n8_ := am_ (Kd.V_below (by (with_reducible repeat (first | apply v1_ | apply v2_ | apply v3_)); exact HO214.out) hb); have n9_ := am_ (Kd.R_below (by (with_reducible repeat (first | apply r1_ | apply r2_ | apply r3_)); exact HO217.out) hb); have n10_ := am_ (c4_ (by repeat (first | (with_reducible exact HR191_0.out) | (with_reducible refine c1_ ?_ _) | (with_reducible refine c2_ ?_ _) | (with_reducible refine c3_ ?_) | exact HR191_0.out)) hb); have n11_ := am_ (kb_ (g := gb226) (o := .cells #[.int .i64 t219, .int .i64 t220, .string t221, .int .i64 t222, .string t223, .bool t224] 37 (0, 0)) (by (with_reducible repeat (first | refine k2_ ?_ _ | refine k3_ ?_ | refine k1_ ?_ _)); exact BK226.out) hb); have n12_ := am_ (bt_ (by repeat (with_reducible first | exact HB.out | apply p3_ | apply p1_ | apply p2_ | refine bs_ ?_ GE226.out)) hb); clear HO_6; clear HO_7; clear HO190; clear HL191_0; clear HO195; clear HO199; clear HO205; clear HO208; clear HO214; clear HO217; clear HR191_0; clear BK226; clear HB; have HO_6 := n0_; have HO_7 := n1_; have HO190 := n2_; have HL191_0 := n3_; have HO195 := n4_; have HO199 := n5_; have HO205 := n6_; have HO208 := n7_; have HO214 := n8_; have HO217 := n9_; have HR191_0 := n10_; have BK226 := n11_; have HB := n12_; clear n0_ n1_ n2_ n3_ n4_ n5_ n6_ n7_ n8_ n9_ n10_ n11_ n12_; (try clear hb)) | (go_at_call 16; (with_reducible refine (pinfoldlaw0_Num.calls t196 t229 _ A27.out).mono ?_); rintro e w' ⟨rfl, ⟨nd, rfl⟩⟩) | (go_at_call 16; (with_reducible refine (pinfoldlaw0_Num.calls t200 t230 _ A29.out).mono ?_); rintro e w' ⟨rfl, ⟨nd, rfl⟩⟩) | (go_at_call 16; (with_reducible refine (pinfoldlaw0_Num.calls t209 t231 _ A31.out).mono ?_); rintro e w' ⟨rfl, ⟨nd, rfl⟩⟩) | (go_at_call 16; (with_reducible refine (pinfoldlaw0_Num.calls t218 t232 _ A33.out).mono ?_); rintro e w' ⟨rfl, ⟨nd, rfl⟩⟩))
     go_ret
     exact ⟨by first | rfl | (simp [errW_none, errW_some] <;> rfl) | (simp only [← hji13]; first | rfl | (simp [errW_none, errW_some] <;> rfl)) | (simp [*, errW_none, errW_some] <;> rfl), by repeat (with_reducible first | exact HB.out | apply p3_ | apply p1_ | apply p2_ | refine bs_ ?_ GE226.out)⟩
    replace c26 := e3_ c26
    subst c26
    have H1 : (none) = some r := by rw [if_neg (show ¬ (false = true) by decide)] at H; exact H
    clear H
    have H := H1
    clear H1
    exact absurd H (by simp)
 replace c4 := e3_ c4
 subst c4
 have H1 : (none) = some r := by rw [if_neg (show ¬ (false = true) by decide)] at H; exact H
 clear H
 have H := H1
 clear H1
 exact absurd H (by simp)

/-- THE ONE PURE STATEMENT of pinfoldlaw13_TableForms. -/
def pinfoldlaw13_TableForms.Pure : Prop := ∀ (a0 : Int) (a1 : Int), (Lit.int .i64 a0).wf = true → (Lit.int .i64 a1).wf = true → ∃ k, pinfoldlaw13_TableForms.f k a0 a1 = some true
theorem pinfoldlaw13_TableForms.walk (P : pinfoldlaw13_TableForms.Pure) (a0 : Int) (a1 : Int) (w : World)  (w0 : (Lit.int .i64 a0).wf = true) (w1 : (Lit.int .i64 a1).wf = true) :
  Calls Try.prog 6 #[.int .i64 a0, .int .i64 a1] w fun e w' => e = .returned (.bool true) ∧ Below w.heap.size w w' := by
 obtain ⟨k, h⟩ := P a0 a1 w0 w1
 refine (pinfoldlaw13_TableForms.calls k a0 a1 true w  h).mono ?_
 rintro e w' ⟨rfl, hd⟩
 exact ⟨rfl, hd⟩

end Go.Proofs.Ytibmakpghbinbaa.PQ
