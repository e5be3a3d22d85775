-- Made by wip/pr.py out of the translation (a turned copy of the kit's print; contracts by hand where said).
import Derived.Test.YtibmakpghbinbaaRows
import Derived.Test.YtibmakpghbinbaaPSx9
import Derived.Test.YtibmakpghbinbaaPureSweepPick
import Derived.Test.YtibmakpghbinbaaSOpenUpto
import Derived.WalkKit
import Derived.ProofKit
import Derived.OpenShut
import Derived.ShutString
import Derived.ChangeOld
import Derived.Below
import Derived.SizedLaws
import Derived.JoinedCond
namespace Go.Proofs.Ytibmakpghbinbaa.sweepPick
open Go.ChangeShapes Go.WideShapes Go.ChangeAt Go.RowKit Go.Proofs.Ytibmakpghbinbaa.PS Go.Proofs.YtibmakpghbinbaaW.PrintWords Go.Proofs.Ytibmakpghbinbaa.Opening
open Go.ChangeMaps (open_string shut_string)
set_option linter.unusedVariables false
set_option linter.unusedSimpArgs false
theorem own : ownKnob Try.prog.godebug = none := by kernel_rfl
theorem laidOut : laidOutB Try.prog = true := by kernel_rfl
theorem o0 : Opens (bulk Try.prog) 26 k26 (fun x_ => ((Lit.int .i64 x_.f0).wf = true ∧ ((Lit.int .i64 x_.f1).wf = true ∧ ((x_.f2.length ≤ 1048576 ∧ ∀ y0_ ∈ x_.f2, (Lit.int .i64 y0_).wf = true) ∧ ((x_.f3.length ≤ 1048576 ∧ ∀ y0_ ∈ x_.f3, (y0_.f0.size ≤ 1048576 ∧ (Lit.int .i64 y0_.f1).wf = true)) ∧ ((Lit.int .i64 x_.f4).wf = true ∧ (x_.f5.size ≤ 1048576 ∧ (x_.f6.length ≤ 1048576 ∧ ∀ y0_ ∈ x_.f6, (y0_.f0.size ≤ 1048576 ∧ ((Lit.int .i64 y0_.f1).wf = true ∧ ((Lit.int .i64 y0_.f2).wf = true ∧ ((Lit.int .i64 y0_.f3).wf = true ∧ (y0_.f4.size ≤ 1048576 ∧ (y0_.f5.size ≤ 1048576 ∧ (Lit.int .i64 y0_.f6).wf = true)))))))))))))) := by
  have o : Opens (bulk Try.prog) 26 k26 _ := (Opens.struct (Z := bulk Try.prog) Try.underlying26 (by kernel_rfl) (by kernel_rfl) (OpensC.cons (Opens.int Try.underlying3) (OpensC.cons (Opens.int Try.underlying3) (OpensC.cons (Opens.slice (0 : Int) Try.underlying22 (Opens.int Try.underlying3) (by kernel_rfl)) (OpensC.cons (Opens.slice z118 Try.underlying23 (Opens.struct Try.underlying118 (by kernel_rfl) (by kernel_rfl) (OpensC.cons (Opens.string Try.underlying9) (OpensC.one (Opens.int Try.underlying3))) (fun x_ : S118 => (x_.f0, x_.f1)) (fun p_ => ⟨p_.1, p_.2⟩) (fun _ => rfl)) (by kernel_rfl)) (OpensC.cons (Opens.int Try.underlying3) (OpensC.cons (Opens.string Try.underlying9) (OpensC.one (Opens.slice z139 Try.underlying24 (Opens.struct Try.underlying139 (by kernel_rfl) (by kernel_rfl) (OpensC.cons (Opens.string Try.underlying9) (OpensC.cons (Opens.int Try.underlying3) (OpensC.cons (Opens.int Try.underlying3) (OpensC.cons (Opens.int Try.underlying3) (OpensC.cons (Opens.string Try.underlying9) (OpensC.cons (Opens.string Try.underlying9) (OpensC.one (Opens.int Try.underlying3)))))))) (fun x_ : S139 => (x_.f0, x_.f1, x_.f2, x_.f3, x_.f4, x_.f5, x_.f6)) (fun p_ => ⟨p_.1, p_.2.1, p_.2.2.1, p_.2.2.2.1, p_.2.2.2.2.1, p_.2.2.2.2.2.1, p_.2.2.2.2.2.2⟩) (fun _ => rfl)) (by kernel_rfl))))))))) (fun x_ : S26 => (x_.f0, x_.f1, x_.f2, x_.f3, x_.f4, x_.f5, x_.f6)) (fun p_ => ⟨p_.1, p_.2.1, p_.2.2.1, p_.2.2.2.1, p_.2.2.2.2.1, p_.2.2.2.2.2.1, p_.2.2.2.2.2.2⟩) (fun _ => rfl))
  exact @o
theorem o1 : Opens (bulk Try.prog) 27 (Kd.slice 37 k37) (fun x_ => (x_.length ≤ 1048576 ∧ ∀ y0_ ∈ x_, ((Lit.int .i64 y0_.f0).wf = true ∧ ((Lit.int .i64 y0_.f1).wf = true ∧ (y0_.f2.size ≤ 1048576 ∧ ((Lit.int .i64 y0_.f3).wf = true ∧ (y0_.f4.size ≤ 1048576 ∧ True))))))) := by
  have o : Opens (bulk Try.prog) 27 (Kd.slice 37 k37) _ := (Opens.slice (Z := bulk Try.prog) z37 Try.underlying27 (Opens.struct Try.underlying37 (by kernel_rfl) (by kernel_rfl) (OpensC.cons (Opens.int Try.underlying3) (OpensC.cons (Opens.int Try.underlying3) (OpensC.cons (Opens.string Try.underlying9) (OpensC.cons (Opens.int Try.underlying3) (OpensC.cons (Opens.string Try.underlying9) (OpensC.one (Opens.bool Try.underlying4))))))) (fun x_ : S37 => (x_.f0, x_.f1, x_.f2, x_.f3, x_.f4, x_.f5)) (fun p_ => ⟨p_.1, p_.2.1, p_.2.2.1, p_.2.2.2.1, p_.2.2.2.2.1, p_.2.2.2.2.2⟩) (fun _ => rfl)) (by kernel_rfl))
  exact @o
theorem o3 : Opens (bulk Try.prog) 9 Kd.string (fun x_ => x_.size ≤ 1048576) := by
  have o : Opens (bulk Try.prog) 9 Kd.string _ := (Opens.string (Z := bulk Try.prog) Try.underlying9)
  exact @o
set_option maxRecDepth 100000 in
theorem lifted (os : Os) (started : os.Started) (H : Type) (enc : TypeId × Value → H) (F : Stop.Interp) :
    ReturnsInHanded {} Try.checked os 3 .any ((Rows.OpenSpec.upto Rows.sweepPickSpec).pre6 enc Try.prog Try.f3 Rows.sweepPickUptoRow.domain false) (((Rows.OpenSpec.upto Rows.sweepPickSpec).at F).post enc Try.prog Try.f3 false true false false) := by
  refine returnsInHanded_of_cond (C := Try.checked) (s := (Rows.OpenSpec.upto Rows.sweepPickSpec)) (k := Rows.uptoSmall) rfl own started (by kernel_rfl) Try.func3
    (OpenSpec.witness (enc := enc) (C := Try.checked) (s := (Rows.OpenSpec.upto Rows.sweepPickSpec)) (k := Rows.uptoSmall) rfl false ⟨#[], #[.agg #[.int .i64 0, .int .i64 0, .slice none 0 0, .slice none 0 0, .int .i64 0, .string ByteArray.empty, .slice none 0 0], .slice none 0 0, .int .i64 0, .string ByteArray.empty, .int .i64 0], []⟩ 8 (by kernel_rfl) (by kernel_rfl) (by kernel_rfl)
      (x := ([.agg [.lit (.int .i64 0), .lit (.int .i64 0), .nil, .nil, .lit (.int .i64 0), .lit (.string []), .nil], .nil, .lit (.int .i64 0), .lit (.string []), .lit (.int .i64 0)], [], [])) (by kernel_rfl) rfl (by kernel_rfl)) ?_
  intro W base args ds gs before hval0 hW _ hk0 _
  have hval : ∀ (j : Nat) t v, Try.f3.params[j]? = some t → args[j]? = some v → Value.okWide Try.prog W .any base t v := hval0
  have hW' := hW
  obtain ⟨p, q, hA0, hV, rfl, hfz, hnd⟩ := hW
  have hA : DataW.TrodAll enc Try.prog W 0 (fun _ => true) true Try.f3.params.toList args.toList ds p := hA0
  rw [Try.params3] at hA hval
  obtain ⟨v0, vs0, d0, ds0, p0, q0, hargs, rfl, rfl, h0, r0⟩ := trodAll_cons hA
  obtain ⟨v1, vs1, d1, ds1, p1, q1, rfl, rfl, rfl, h1, r1⟩ := trodAll_cons r0
  obtain ⟨v2, vs2, d2, ds2, p2, q2, rfl, rfl, rfl, h2, r2⟩ := trodAll_cons r1
  obtain ⟨v3, vs3, d3, ds3, p3, q3, rfl, rfl, rfl, h3, r3⟩ := trodAll_cons r2
  obtain ⟨v4, vs4, d4, ds4, p4, q4, rfl, rfl, rfl, h4, r4⟩ := trodAll_cons r3
  obtain ⟨rfl, rfl, rfl⟩ := trodAll_nil r4
  obtain rfl : args = #[v0, v1, v2, v3, v4] := by cases args; simp_all
  obtain ⟨rfl, rfl⟩ := trodVars_none hV
  have k0 := h0
  have lt0 : ∀ x ∈ p0, x.block < W.heap.size := by obtain ⟨m, hm⟩ := k0; exact DataW.trod_lt m _ _ _ hm
  obtain ⟨fu0, hf0⟩ := h0
  have fit0 := (bulk_of (P := Try.prog) hk0 (j := 0) (t := 26) rfl)
  obtain ⟨x0, hK0, hQ0⟩ := o0 hf0 fit0
  obtain ⟨cs0, rfl, hz0⟩ := okWide_struct Try.underlying26 (hval 0 26 v0 rfl rfl)
  obtain ⟨x0_0, x0_1, x0_2, x0_3, x0_4, x0_5, x0_6⟩ := x0
  obtain ⟨c0_0, t0_0, e0_0, k0_0, c0_1, t0_1, e0_1, k0_1, c0_2, t0_2, e0_2, k0_2, c0_3, t0_3, e0_3, k0_3, c0_4, t0_4, e0_4, k0_4, c0_5, t0_5, e0_5, k0_5, k0_6⟩ := hK0
  obtain rfl : c0_0 = [.int .i64 x0_0] := k0_0
  obtain rfl : c0_1 = [.int .i64 x0_1] := k0_1
  obtain ⟨A0_2, b0_2, rfl, hc0_2, hr0_2⟩ := k0_2
  obtain ⟨A0_3, b0_3, rfl, hc0_3, hr0_3⟩ := k0_3
  obtain rfl : c0_4 = [.int .i64 x0_4] := k0_4
  obtain rfl : c0_5 = [.string x0_5] := k0_5
  obtain ⟨A0_6, b0_6, rfl, hc0_6, hr0_6⟩ := k0_6
  subst e0_5
  subst e0_4
  subst e0_3
  subst e0_2
  subst e0_1
  have hcs0 : cs0 = #[.int .i64 x0_0, .int .i64 x0_1, .slice A0_2 x0_2.length b0_2, .slice A0_3 x0_3.length b0_3, .int .i64 x0_4, .string x0_5, .slice A0_6 x0_6.length b0_6] := Array.toList_inj.1 (by simpa [Value.cells] using e0_0)
  subst hcs0
  obtain ⟨q0_0, q0_1, q0_2, q0_3, q0_4, q0_5, q0_6⟩ := hQ0
  have k1 := h1
  have lt1 : ∀ x ∈ p1, x.block < W.heap.size := by obtain ⟨m, hm⟩ := k1; exact DataW.trod_lt m _ _ _ hm
  obtain ⟨fu1, hf1⟩ := h1
  have fit1 := (bulk_of (P := Try.prog) hk0 (j := 1) (t := 27) rfl)
  obtain ⟨x1, hK1, hQ1⟩ := o1 hf1 fit1
  obtain ⟨b1, len1, cap1, rfl⟩ := okWide_slice Try.underlying27 (hval 1 27 v1 rfl rfl)
  obtain ⟨A1, c1, hcs1, hc1, hr1⟩ := hK1
  have hcs1' : b1 = A1 ∧ len1 = x1.length ∧ cap1 = c1 := by simpa [Value.cells] using hcs1
  obtain ⟨rfl, rfl, rfl⟩ := hcs1'
  obtain ⟨a2, rfl, rfl, rfl, w2⟩ := open_int Try.underlying3 (hval 2 3 v2 rfl rfl) h2
  have k3 := h3
  have lt3 : ∀ x ∈ p3, x.block < W.heap.size := by obtain ⟨m, hm⟩ := k3; exact DataW.trod_lt m _ _ _ hm
  obtain ⟨fu3, hf3⟩ := h3
  have fit3 := (bulk_of (P := Try.prog) hk0 (j := 3) (t := 9) rfl)
  obtain ⟨x3, hK3, hQ3⟩ := o3 hf3 fit3
  obtain ⟨s3, rfl⟩ := okWide_string Try.underlying9 (hval 3 9 v3 rfl rfl)
  obtain rfl : s3 = x3 := by simpa [Value.cells, Kd.string, Kd.scalar] using hK3
  obtain ⟨a4, rfl, rfl, rfl, w4⟩ := open_int Try.underlying3 (hval 4 3 v4 rfl rfl) h4
  refine (PS.pinfoldlaw19_SweepPick.walk Pure.SweepPick x0_0 x0_1 _ _ x0_2 _ _ x0_3 x0_4 x0_5 _ _ x0_6 _ _ x1 a2 s3 a4 W hr0_2 hc0_2 hr0_3 hc0_3 hr0_6 hc0_6 hr1 hc1 q0_0 q0_1 q0_2 q0_3 q0_4 q0_5 q0_6 hQ1 w2 hQ3 w4).mono fun e W' ⟨he, bel⟩ => ?_
  subst he
  exact ⟨_, rfl, _, _, _, [], _, [], hW', trodAll_mk1 (shut_bool Try.underlying4 _), (trodAll_cons_mk (Below.trod laidOut (by kernel_rfl) (of_decide_eq_true (by kernel_rfl)) k0 bel lt0) (trodAll_cons_mk (Below.trod laidOut (by kernel_rfl) (of_decide_eq_true (by kernel_rfl)) k1 bel lt1) (trodAll_cons_mk (shut_int Try.underlying3 w2) (trodAll_cons_mk (Below.trod laidOut (by kernel_rfl) (of_decide_eq_true (by kernel_rfl)) k3 bel lt3) (trodAll_cons_mk (shut_int Try.underlying3 w4) trodAll_mk0))))), rfl, bel.frame _, fun h => by cases h⟩
theorem over : Rows.sweepPickUptoRow.holds Try.pinned (Rows.OpenSpec.upto Rows.sweepPickSpec) :=
  OpenClaim.holds_of_cond 3 Try.f3 rfl rfl rfl rfl rfl rfl rfl ⟨rfl, rfl, rfl, rfl, rfl⟩ rfl rfl rfl rfl rfl (by kernel_rfl) Try.func3 (by kernel_rfl)
    (of_decide_eq_true (by kernel_rfl)) (by unfold Func.isWrapper; first | (rw [if_pos (by decide +kernel)]; kernel_rfl) | (rw [if_neg (by decide +kernel)]; exact ⟨rfl, rfl⟩))
    (fun os started H enc _ F => lifted os started H enc F)
theorem proved : Rows.SweepPickUptoSaid := over
end Go.Proofs.Ytibmakpghbinbaa.sweepPick
namespace Go.Proofs.Ytibmakpghbinbaa
/-- The row, under a short name, for the claim. -/
theorem sweepPick_holds : Rows.SweepPickUptoSaid := sweepPick.proved
end Go.Proofs.Ytibmakpghbinbaa
