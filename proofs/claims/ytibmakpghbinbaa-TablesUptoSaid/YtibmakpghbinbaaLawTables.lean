-- Made by wip/pr.py out of the translation (a turned copy of the kit's print; contracts by hand where said).
import Derived.Test.YtibmakpghbinbaaRows
import Derived.Test.YtibmakpghbinbaaPTx10
import Derived.Test.YtibmakpghbinbaaPureTables
import Derived.Test.YtibmakpghbinbaaTOpenUpto
import Derived.WalkKit
import Derived.ProofKit
import Derived.OpenShut
import Derived.ShutString
import Derived.ChangeOld
import Derived.Below
import Derived.SizedLaws
import Derived.JoinedCond
namespace Go.Proofs.Ytibmakpghbinbaa.tables
open Go.ChangeShapes Go.WideShapes Go.ChangeAt Go.RowKit Go.Proofs.Ytibmakpghbinbaa.PT Go.Proofs.YtibmakpghbinbaaW.PrintWords Go.Proofs.Ytibmakpghbinbaa.Opening
open Go.ChangeMaps (open_string shut_string)
set_option linter.unusedVariables false
set_option linter.unusedSimpArgs false
theorem own : ownKnob Try.prog.godebug = none := by kernel_rfl
theorem laidOut : laidOutB Try.prog = true := by kernel_rfl
theorem o0 : Opens (bulk Try.prog) 27 (Kd.slice 37 k37) (fun x_ => (x_.length ≤ 1048576 ∧ ∀ y0_ ∈ x_, ((Lit.int .i64 y0_.f0).wf = true ∧ ((Lit.int .i64 y0_.f1).wf = true ∧ (y0_.f2.size ≤ 1048576 ∧ ((Lit.int .i64 y0_.f3).wf = true ∧ (y0_.f4.size ≤ 1048576 ∧ True))))))) := by
  have o : Opens (bulk Try.prog) 27 (Kd.slice 37 k37) _ := (Opens.slice (Z := bulk Try.prog) z37 Try.underlying27 (Opens.struct Try.underlying37 (by kernel_rfl) (by kernel_rfl) (OpensC.cons (Opens.int Try.underlying3) (OpensC.cons (Opens.int Try.underlying3) (OpensC.cons (Opens.string Try.underlying9) (OpensC.cons (Opens.int Try.underlying3) (OpensC.cons (Opens.string Try.underlying9) (OpensC.one (Opens.bool Try.underlying4))))))) (fun x_ : S37 => (x_.f0, x_.f1, x_.f2, x_.f3, x_.f4, x_.f5)) (fun p_ => ⟨p_.1, p_.2.1, p_.2.2.1, p_.2.2.2.1, p_.2.2.2.2.1, p_.2.2.2.2.2⟩) (fun _ => rfl)) (by kernel_rfl))
  exact @o
theorem o2 : Opens (bulk Try.prog) 37 k37 (fun x_ => ((Lit.int .i64 x_.f0).wf = true ∧ ((Lit.int .i64 x_.f1).wf = true ∧ (x_.f2.size ≤ 1048576 ∧ ((Lit.int .i64 x_.f3).wf = true ∧ (x_.f4.size ≤ 1048576 ∧ True)))))) := by
  have o : Opens (bulk Try.prog) 37 k37 _ := (Opens.struct (Z := bulk Try.prog) Try.underlying37 (by kernel_rfl) (by kernel_rfl) (OpensC.cons (Opens.int Try.underlying3) (OpensC.cons (Opens.int Try.underlying3) (OpensC.cons (Opens.string Try.underlying9) (OpensC.cons (Opens.int Try.underlying3) (OpensC.cons (Opens.string Try.underlying9) (OpensC.one (Opens.bool Try.underlying4))))))) (fun x_ : S37 => (x_.f0, x_.f1, x_.f2, x_.f3, x_.f4, x_.f5)) (fun p_ => ⟨p_.1, p_.2.1, p_.2.2.1, p_.2.2.2.1, p_.2.2.2.2.1, p_.2.2.2.2.2⟩) (fun _ => rfl))
  exact @o
theorem o3 : Opens (bulk Try.prog) 9 Kd.string (fun x_ => x_.size ≤ 1048576) := by
  have o : Opens (bulk Try.prog) 9 Kd.string _ := (Opens.string (Z := bulk Try.prog) Try.underlying9)
  exact @o
set_option maxRecDepth 100000 in
theorem lifted (os : Os) (started : os.Started) (H : Type) (enc : TypeId × Value → H) (F : Stop.Interp) :
    ReturnsInHanded {} Try.checked os 4 .any ((Rows.OpenSpec.upto Rows.tablesSpec).pre6 enc Try.prog Try.f4 Rows.tablesUptoRow.domain false) (((Rows.OpenSpec.upto Rows.tablesSpec).at F).post enc Try.prog Try.f4 false true false false) := by
  refine returnsInHanded_of_cond (C := Try.checked) (s := (Rows.OpenSpec.upto Rows.tablesSpec)) (k := Rows.uptoSmall) rfl own started (by kernel_rfl) Try.func4
    (OpenSpec.witness (enc := enc) (C := Try.checked) (s := (Rows.OpenSpec.upto Rows.tablesSpec)) (k := Rows.uptoSmall) rfl false ⟨#[], #[.slice none 0 0, .int .i64 0, .agg #[.int .i64 0, .int .i64 0, .string ByteArray.empty, .int .i64 0, .string ByteArray.empty, .bool false], .string ByteArray.empty, .int .i64 0], []⟩ 8 (by kernel_rfl) (by kernel_rfl) (by kernel_rfl)
      (x := ([.nil, .lit (.int .i64 0), .agg [.lit (.int .i64 0), .lit (.int .i64 0), .lit (.string []), .lit (.int .i64 0), .lit (.string []), .lit (.bool false)], .lit (.string []), .lit (.int .i64 0)], [], [])) (by kernel_rfl) rfl (by kernel_rfl)) ?_
  intro W base args ds gs before hval0 hW _ hk0 _
  have hval : ∀ (j : Nat) t v, Try.f4.params[j]? = some t → args[j]? = some v → Value.okWide Try.prog W .any base t v := hval0
  have hW' := hW
  obtain ⟨p, q, hA0, hV, rfl, hfz, hnd⟩ := hW
  have hA : DataW.TrodAll enc Try.prog W 0 (fun _ => true) true Try.f4.params.toList args.toList ds p := hA0
  rw [Try.params4] at hA hval
  obtain ⟨v0, vs0, d0, ds0, p0, q0, hargs, rfl, rfl, h0, r0⟩ := trodAll_cons hA
  obtain ⟨v1, vs1, d1, ds1, p1, q1, rfl, rfl, rfl, h1, r1⟩ := trodAll_cons r0
  obtain ⟨v2, vs2, d2, ds2, p2, q2, rfl, rfl, rfl, h2, r2⟩ := trodAll_cons r1
  obtain ⟨v3, vs3, d3, ds3, p3, q3, rfl, rfl, rfl, h3, r3⟩ := trodAll_cons r2
  obtain ⟨v4, vs4, d4, ds4, p4, q4, rfl, rfl, rfl, h4, r4⟩ := trodAll_cons r3
  obtain ⟨rfl, rfl, rfl⟩ := trodAll_nil r4
  obtain rfl : args = #[v0, v1, v2, v3, v4] := by cases args; simp_all
  obtain ⟨rfl, rfl⟩ := trodVars_none hV
  have k0 := h0
  have lt0 : ∀ x ∈ p0, x.block < W.heap.size := by obtain ⟨m, hm⟩ := k0; exact DataW.trod_lt m _ _ _ hm
  obtain ⟨fu0, hf0⟩ := h0
  have fit0 := (bulk_of (P := Try.prog) hk0 (j := 0) (t := 27) rfl)
  obtain ⟨x0, hK0, hQ0⟩ := o0 hf0 fit0
  obtain ⟨b0, len0, cap0, rfl⟩ := okWide_slice Try.underlying27 (hval 0 27 v0 rfl rfl)
  obtain ⟨A0, c0, hcs0, hc0, hr0⟩ := hK0
  have hcs0' : b0 = A0 ∧ len0 = x0.length ∧ cap0 = c0 := by simpa [Value.cells] using hcs0
  obtain ⟨rfl, rfl, rfl⟩ := hcs0'
  obtain ⟨a1, rfl, rfl, rfl, w1⟩ := open_int Try.underlying3 (hval 1 3 v1 rfl rfl) h1
  have k2 := h2
  have lt2 : ∀ x ∈ p2, x.block < W.heap.size := by obtain ⟨m, hm⟩ := k2; exact DataW.trod_lt m _ _ _ hm
  obtain ⟨fu2, hf2⟩ := h2
  have fit2 := (bulk_of (P := Try.prog) hk0 (j := 2) (t := 37) rfl)
  obtain ⟨x2, hK2, hQ2⟩ := o2 hf2 fit2
  obtain ⟨cs2, rfl, hz2⟩ := okWide_struct Try.underlying37 (hval 2 37 v2 rfl rfl)
  obtain ⟨x2_0, x2_1, x2_2, x2_3, x2_4, x2_5⟩ := x2
  obtain ⟨c2_0, t2_0, e2_0, k2_0, c2_1, t2_1, e2_1, k2_1, c2_2, t2_2, e2_2, k2_2, c2_3, t2_3, e2_3, k2_3, c2_4, t2_4, e2_4, k2_4, k2_5⟩ := hK2
  obtain rfl : c2_0 = [.int .i64 x2_0] := k2_0
  obtain rfl : c2_1 = [.int .i64 x2_1] := k2_1
  obtain rfl : c2_2 = [.string x2_2] := k2_2
  obtain rfl : c2_3 = [.int .i64 x2_3] := k2_3
  obtain rfl : c2_4 = [.string x2_4] := k2_4
  obtain rfl : t2_4 = [.bool x2_5] := k2_5
  subst e2_4
  subst e2_3
  subst e2_2
  subst e2_1
  have hcs2 : cs2 = #[.int .i64 x2_0, .int .i64 x2_1, .string x2_2, .int .i64 x2_3, .string x2_4, .bool x2_5] := Array.toList_inj.1 (by simpa [Value.cells] using e2_0)
  subst hcs2
  obtain ⟨q2_0, q2_1, q2_2, q2_3, q2_4, q2_5⟩ := hQ2
  have k3 := h3
  have lt3 : ∀ x ∈ p3, x.block < W.heap.size := by obtain ⟨m, hm⟩ := k3; exact DataW.trod_lt m _ _ _ hm
  obtain ⟨fu3, hf3⟩ := h3
  have fit3 := (bulk_of (P := Try.prog) hk0 (j := 3) (t := 9) rfl)
  obtain ⟨x3, hK3, hQ3⟩ := o3 hf3 fit3
  obtain ⟨s3, rfl⟩ := okWide_string Try.underlying9 (hval 3 9 v3 rfl rfl)
  obtain rfl : s3 = x3 := by simpa [Value.cells, Kd.string, Kd.scalar] using hK3
  obtain ⟨a4, rfl, rfl, rfl, w4⟩ := open_int Try.underlying3 (hval 4 3 v4 rfl rfl) h4
  refine (PT.pinfoldlaw13_Tables.walk Pure.Tables _ _ x0 a1 x2_0 x2_1 x2_2 x2_3 x2_4 x2_5 s3 a4 W hr0 hc0 hQ0 w1 q2_0 q2_1 q2_2 q2_3 q2_4 hQ3 w4).mono fun e W' ⟨he, bel⟩ => ?_
  subst he
  exact ⟨_, rfl, _, _, _, [], _, [], hW', trodAll_mk1 (shut_bool Try.underlying4 _), (trodAll_cons_mk (Below.trod laidOut (by kernel_rfl) (of_decide_eq_true (by kernel_rfl)) k0 bel lt0) (trodAll_cons_mk (shut_int Try.underlying3 w1) (trodAll_cons_mk (Below.trod laidOut (by kernel_rfl) (of_decide_eq_true (by kernel_rfl)) k2 bel lt2) (trodAll_cons_mk (Below.trod laidOut (by kernel_rfl) (of_decide_eq_true (by kernel_rfl)) k3 bel lt3) (trodAll_cons_mk (shut_int Try.underlying3 w4) trodAll_mk0))))), rfl, bel.frame _, fun h => by cases h⟩
theorem over : Rows.tablesUptoRow.holds Try.pinned (Rows.OpenSpec.upto Rows.tablesSpec) :=
  OpenClaim.holds_of_cond 4 Try.f4 rfl rfl rfl rfl rfl rfl rfl ⟨rfl, rfl, rfl, rfl, rfl⟩ rfl rfl rfl rfl rfl (by kernel_rfl) Try.func4 (by kernel_rfl)
    (of_decide_eq_true (by kernel_rfl)) (by unfold Func.isWrapper; first | (rw [if_pos (by decide +kernel)]; kernel_rfl) | (rw [if_neg (by decide +kernel)]; exact ⟨rfl, rfl⟩))
    (fun os started H enc _ F => lifted os started H enc F)
theorem proved : Rows.TablesUptoSaid := over
end Go.Proofs.Ytibmakpghbinbaa.tables
namespace Go.Proofs.Ytibmakpghbinbaa
/-- The row, under a short name, for the claim. -/
theorem tables_holds : Rows.TablesUptoSaid := tables.proved
end Go.Proofs.Ytibmakpghbinbaa
