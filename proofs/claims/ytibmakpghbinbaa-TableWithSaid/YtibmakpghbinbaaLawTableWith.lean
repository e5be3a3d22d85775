-- Made by wip/pr.py out of the translation (a turned copy of the kit's print; contracts by hand where said).
import Derived.Test.YtibmakpghbinbaaRows
import Derived.Test.YtibmakpghbinbaaPTx7
import Derived.Test.YtibmakpghbinbaaPureTableWith
import Derived.Test.YtibmakpghbinbaaTOpen
import Derived.WalkKit
import Derived.ProofKit
import Derived.OpenShut
import Derived.ShutString
import Derived.ChangeOld
import Derived.Below
import Derived.SizedLaws
namespace Go.Proofs.Ytibmakpghbinbaa.tableWith
open Go.ChangeShapes Go.WideShapes Go.ChangeAt Go.RowKit Go.Proofs.Ytibmakpghbinbaa.PT Go.Proofs.YtibmakpghbinbaaW.PrintWords Go.Proofs.Ytibmakpghbinbaa.Opening
open Go.ChangeMaps (open_string shut_string)
set_option linter.unusedVariables false
set_option linter.unusedSimpArgs false
theorem own : ownKnob Try.prog.godebug = none := by kernel_rfl
theorem laidOut : laidOutB Try.prog = true := by kernel_rfl
theorem o0 : Opens (reach Try.prog) 27 (Kd.slice 37 k37) (fun x_ => (x_.length * Try.prog.bytesOf 37 ≤ 140737488351232 ∧ ∀ y0_ ∈ x_, ((Lit.int .i64 y0_.f0).wf = true ∧ ((Lit.int .i64 y0_.f1).wf = true ∧ (y0_.f2.size ≤ 140737488351232 ∧ ((Lit.int .i64 y0_.f3).wf = true ∧ (y0_.f4.size ≤ 140737488351232 ∧ True))))))) := by
  have o : Opens (reach Try.prog) 27 (Kd.slice 37 k37) _ := (Opens.slice (Z := reach Try.prog) z37 Try.underlying27 (Opens.struct Try.underlying37 (by kernel_rfl) (by kernel_rfl) (OpensC.cons (Opens.int Try.underlying3) (OpensC.cons (Opens.int Try.underlying3) (OpensC.cons (Opens.string Try.underlying9) (OpensC.cons (Opens.int Try.underlying3) (OpensC.cons (Opens.string Try.underlying9) (OpensC.one (Opens.bool Try.underlying4))))))) (fun x_ : S37 => (x_.f0, x_.f1, x_.f2, x_.f3, x_.f4, x_.f5)) (fun p_ => ⟨p_.1, p_.2.1, p_.2.2.1, p_.2.2.2.1, p_.2.2.2.2.1, p_.2.2.2.2.2⟩) (fun _ => rfl)) (by kernel_rfl))
  exact @o
theorem o1 : Opens (reach Try.prog) 37 k37 (fun x_ => ((Lit.int .i64 x_.f0).wf = true ∧ ((Lit.int .i64 x_.f1).wf = true ∧ (x_.f2.size ≤ 140737488351232 ∧ ((Lit.int .i64 x_.f3).wf = true ∧ (x_.f4.size ≤ 140737488351232 ∧ True)))))) := by
  have o : Opens (reach Try.prog) 37 k37 _ := (Opens.struct (Z := reach Try.prog) Try.underlying37 (by kernel_rfl) (by kernel_rfl) (OpensC.cons (Opens.int Try.underlying3) (OpensC.cons (Opens.int Try.underlying3) (OpensC.cons (Opens.string Try.underlying9) (OpensC.cons (Opens.int Try.underlying3) (OpensC.cons (Opens.string Try.underlying9) (OpensC.one (Opens.bool Try.underlying4))))))) (fun x_ : S37 => (x_.f0, x_.f1, x_.f2, x_.f3, x_.f4, x_.f5)) (fun p_ => ⟨p_.1, p_.2.1, p_.2.2.1, p_.2.2.2.1, p_.2.2.2.2.1, p_.2.2.2.2.2⟩) (fun _ => rfl))
  exact @o
theorem o2 : Opens (reach Try.prog) 37 k37 (fun x_ => ((Lit.int .i64 x_.f0).wf = true ∧ ((Lit.int .i64 x_.f1).wf = true ∧ (x_.f2.size ≤ 140737488351232 ∧ ((Lit.int .i64 x_.f3).wf = true ∧ (x_.f4.size ≤ 140737488351232 ∧ True)))))) := by
  have o : Opens (reach Try.prog) 37 k37 _ := (Opens.struct (Z := reach Try.prog) Try.underlying37 (by kernel_rfl) (by kernel_rfl) (OpensC.cons (Opens.int Try.underlying3) (OpensC.cons (Opens.int Try.underlying3) (OpensC.cons (Opens.string Try.underlying9) (OpensC.cons (Opens.int Try.underlying3) (OpensC.cons (Opens.string Try.underlying9) (OpensC.one (Opens.bool Try.underlying4))))))) (fun x_ : S37 => (x_.f0, x_.f1, x_.f2, x_.f3, x_.f4, x_.f5)) (fun p_ => ⟨p_.1, p_.2.1, p_.2.2.1, p_.2.2.2.1, p_.2.2.2.2.1, p_.2.2.2.2.2⟩) (fun _ => rfl))
  exact @o
set_option maxRecDepth 100000 in
theorem lifted (os : Os) (started : os.Started) (H : Type) (enc : TypeId × Value → H) :
    ReturnsInHanded {} Try.checked os 7 .any (Rows.tableWithSpec.pre6 enc Try.prog Try.f7 Rows.tableWithRow.domain false) (Rows.tableWithSpec.post enc Try.prog Try.f7 false true false false) := by
  refine returnsInHanded_of_change_sized (C := Try.checked) own started (by kernel_rfl) Try.func7
    (ChangeSpec.witness6 (enc := enc) (C := Try.checked) false ⟨#[], #[.slice none 0 0, .agg #[.int .i64 0, .int .i64 0, .string ByteArray.empty, .int .i64 0, .string ByteArray.empty, .bool false], .agg #[.int .i64 0, .int .i64 0, .string ByteArray.empty, .int .i64 0, .string ByteArray.empty, .bool false]], []⟩ 8 (by kernel_rfl) (by kernel_rfl) (by kernel_rfl) (by kernel_rfl)) ?_
  intro W base args ds gs before hval0 hW hcnd hsz0 _
  have hsz : (DataW.weightsEach Try.prog (Try.f7.params.toList ++ Rows.tableWithSpec.plain.varTypes Try.prog) (ds ++ gs)).all (· ≤ reachBytes) = true := hsz0
  have hval : ∀ (j : Nat) t v, Try.f7.params[j]? = some t → args[j]? = some v → Value.okWide Try.prog W .any base t v := hval0
  have hW' := hW
  obtain ⟨p, q, hA0, hV, rfl, hfz, hnd⟩ := hW
  have hA : DataW.TrodAll enc Try.prog W 0 (fun _ => true) true Try.f7.params.toList args.toList ds p := hA0
  rw [Try.params7] at hA hval hsz
  obtain ⟨v0, vs0, d0, ds0, p0, q0, hargs, rfl, rfl, h0, r0⟩ := trodAll_cons hA
  obtain ⟨v1, vs1, d1, ds1, p1, q1, rfl, rfl, rfl, h1, r1⟩ := trodAll_cons r0
  obtain ⟨v2, vs2, d2, ds2, p2, q2, rfl, rfl, rfl, h2, r2⟩ := trodAll_cons r1
  obtain ⟨rfl, rfl, rfl⟩ := trodAll_nil r2
  obtain rfl : args = #[v0, v1, v2] := by cases args; simp_all
  obtain ⟨rfl, rfl⟩ := trodVars_none hV
  have k0 := h0
  have lt0 : ∀ x ∈ p0, x.block < W.heap.size := by obtain ⟨m, hm⟩ := k0; exact DataW.trod_lt m _ _ _ hm
  obtain ⟨fu0, hf0⟩ := h0
  have fit0 := (reach_of hsz (j := 0) (t := 27) rfl rfl)
  obtain ⟨x0, hK0, hQ0⟩ := o0 hf0 fit0
  obtain ⟨b0, len0, cap0, rfl⟩ := okWide_slice Try.underlying27 (hval 0 27 v0 rfl rfl)
  obtain ⟨A0, c0, hcs0, hc0, hr0⟩ := hK0
  have hcs0' : b0 = A0 ∧ len0 = x0.length ∧ cap0 = c0 := by simpa [Value.cells] using hcs0
  obtain ⟨rfl, rfl, rfl⟩ := hcs0'
  have k1 := h1
  have lt1 : ∀ x ∈ p1, x.block < W.heap.size := by obtain ⟨m, hm⟩ := k1; exact DataW.trod_lt m _ _ _ hm
  obtain ⟨fu1, hf1⟩ := h1
  have fit1 := (reach_of hsz (j := 1) (t := 37) rfl rfl)
  obtain ⟨x1, hK1, hQ1⟩ := o1 hf1 fit1
  obtain ⟨cs1, rfl, hz1⟩ := okWide_struct Try.underlying37 (hval 1 37 v1 rfl rfl)
  obtain ⟨x1_0, x1_1, x1_2, x1_3, x1_4, x1_5⟩ := x1
  obtain ⟨c1_0, t1_0, e1_0, k1_0, c1_1, t1_1, e1_1, k1_1, c1_2, t1_2, e1_2, k1_2, c1_3, t1_3, e1_3, k1_3, c1_4, t1_4, e1_4, k1_4, k1_5⟩ := hK1
  obtain rfl : c1_0 = [.int .i64 x1_0] := k1_0
  obtain rfl : c1_1 = [.int .i64 x1_1] := k1_1
  obtain rfl : c1_2 = [.string x1_2] := k1_2
  obtain rfl : c1_3 = [.int .i64 x1_3] := k1_3
  obtain rfl : c1_4 = [.string x1_4] := k1_4
  obtain rfl : t1_4 = [.bool x1_5] := k1_5
  subst e1_4
  subst e1_3
  subst e1_2
  subst e1_1
  have hcs1 : cs1 = #[.int .i64 x1_0, .int .i64 x1_1, .string x1_2, .int .i64 x1_3, .string x1_4, .bool x1_5] := Array.toList_inj.1 (by simpa [Value.cells] using e1_0)
  subst hcs1
  obtain ⟨q1_0, q1_1, q1_2, q1_3, q1_4, q1_5⟩ := hQ1
  have k2 := h2
  have lt2 : ∀ x ∈ p2, x.block < W.heap.size := by obtain ⟨m, hm⟩ := k2; exact DataW.trod_lt m _ _ _ hm
  obtain ⟨fu2, hf2⟩ := h2
  have fit2 := (reach_of hsz (j := 2) (t := 37) rfl rfl)
  obtain ⟨x2, hK2, hQ2⟩ := o2 hf2 fit2
  obtain ⟨cs2, rfl, hz2⟩ := okWide_struct Try.underlying37 (hval 2 37 v2 rfl rfl)
  obtain ⟨x2_0, x2_1, x2_2, x2_3, x2_4, x2_5⟩ := x2
  obtain ⟨c2_0, t2_0, e2_0, k2_0, c2_1, t2_1, e2_1, k2_1, c2_2, t2_2, e2_2, k2_2, c2_3, t2_3, e2_3, k2_3, c2_4, t2_4, e2_4, k2_4, k2_5⟩ := hK2
  obtain rfl : c2_0 = [.int .i64 x2_0] := k2_0
  obtain rfl : c2_1 = [.int .i64 x2_1] := k2_1
  obtain rfl : c2_2 = [.string x2_2] := k2_2
  obtain rfl : c2_3 = [.int .i64 x2_3] := k2_3
  obtain rfl : c2_4 = [.string x2_4] := k2_4
  obtain rfl : t2_4 = [.bool x2_5] := k2_5
  subst e2_4
  subst e2_3
  subst e2_2
  subst e2_1
  have hcs2 : cs2 = #[.int .i64 x2_0, .int .i64 x2_1, .string x2_2, .int .i64 x2_3, .string x2_4, .bool x2_5] := Array.toList_inj.1 (by simpa [Value.cells] using e2_0)
  subst hcs2
  obtain ⟨q2_0, q2_1, q2_2, q2_3, q2_4, q2_5⟩ := hQ2
  refine (PT.pinfoldlaw13_TableWith.walk Pure.TableWith _ _ x0 x1_0 x1_1 x1_2 x1_3 x1_4 x1_5 x2_0 x2_1 x2_2 x2_3 x2_4 x2_5 W hr0 hc0 hQ0 q1_0 q1_1 q1_2 q1_3 q1_4 q2_0 q2_1 q2_2 q2_3 q2_4).mono fun e W' ⟨he, bel⟩ => ?_
  subst he
  exact ⟨_, rfl, _, _, _, [], _, [], hW', trodAll_mk1 (shut_bool Try.underlying4 _), (trodAll_cons_mk (Below.trod laidOut (by kernel_rfl) (of_decide_eq_true (by kernel_rfl)) k0 bel lt0) (trodAll_cons_mk (Below.trod laidOut (by kernel_rfl) (of_decide_eq_true (by kernel_rfl)) k1 bel lt1) (trodAll_cons_mk (Below.trod laidOut (by kernel_rfl) (of_decide_eq_true (by kernel_rfl)) k2 bel lt2) trodAll_mk0))), rfl, bel.frame _, fun h => by cases h⟩
theorem over : Rows.tableWithRow.holds Try.pinned (OpenSpec.ofChange Rows.tableWithSpec) :=
  OpenClaim.holds_of_wide 7 Try.f7 rfl rfl rfl rfl rfl rfl rfl ⟨rfl, rfl, rfl, rfl, rfl⟩ rfl rfl rfl rfl rfl (by kernel_rfl) Try.func7 (by kernel_rfl)
    (of_decide_eq_true (by kernel_rfl)) (by unfold Func.isWrapper; first | (rw [if_pos (by decide +kernel)]; kernel_rfl) | (rw [if_neg (by decide +kernel)]; exact ⟨rfl, rfl⟩))
    (fun os started H enc _ => lifted os started H enc)
theorem proved : Rows.TableWithSaid := over
end Go.Proofs.Ytibmakpghbinbaa.tableWith
namespace Go.Proofs.Ytibmakpghbinbaa
/-- The row, under a short name, for the claim. -/
theorem tableWith_holds : Rows.TableWithSaid := tableWith.proved
end Go.Proofs.Ytibmakpghbinbaa
