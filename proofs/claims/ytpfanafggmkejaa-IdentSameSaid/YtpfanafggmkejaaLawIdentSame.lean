-- Made by wip/pr.py out of the translation (a turned copy of the kit's print; contracts by hand where said).
import Derived.Test.YtpfanafggmkejaaRows
import Derived.Test.YtpfanafggmkejaaPIdentSamex4
import Derived.Test.YtpfanafggmkejaaPureIdentSame
import Derived.Test.YtpfanafggmkejaaOpen
import Derived.WalkKit
import Derived.ProofKit
import Derived.OpenShut
import Derived.ShutString
import Derived.ChangeOld
import Derived.Below
import Derived.SizedLaws
namespace Go.Proofs.Ytpfanafggmkejaa.identSame
open Go.ChangeShapes Go.WideShapes Go.ChangeAt Go.RowKit Go.Proofs.Ytpfanafggmkejaa.PIdentSame Go.Proofs.YtpfanafggmkejaaW.PrintWords Go.Proofs.Ytpfanafggmkejaa.Opening
open Go.ChangeMaps (open_string shut_string)
set_option linter.unusedVariables false
set_option linter.unusedSimpArgs false
theorem own : ownKnob Try.prog.godebug = none := by kernel_rfl
theorem laidOut : laidOutB Try.prog = true := by kernel_rfl
theorem o0 : Opens (reach Try.prog) 9 Kd.string (fun x_ => x_.size ≤ 140737488351232) := by
  have o : Opens (reach Try.prog) 9 Kd.string _ := (Opens.string (Z := reach Try.prog) Try.underlying9)
  exact @o
theorem o1 : Opens (reach Try.prog) 9 Kd.string (fun x_ => x_.size ≤ 140737488351232) := by
  have o : Opens (reach Try.prog) 9 Kd.string _ := (Opens.string (Z := reach Try.prog) Try.underlying9)
  exact @o
theorem o2 : Opens (reach Try.prog) 54 k54 (fun x_ => ((Lit.int .i64 x_.f0).wf = true ∧ ((Lit.int .i64 x_.f1).wf = true ∧ ((Lit.int .i64 x_.f2).wf = true ∧ ((Lit.int .i64 x_.f3).wf = true ∧ ((Lit.int .i64 x_.f4).wf = true ∧ ((Lit.int .i64 x_.f5).wf = true ∧ ((Lit.int .i64 x_.f6).wf = true ∧ ((Lit.int .i64 x_.f7).wf = true ∧ ((Lit.int .i64 x_.f8).wf = true ∧ ((Lit.int .i64 x_.f9).wf = true ∧ (x_.f10.size ≤ 140737488351232 ∧ (x_.f11.length * Try.prog.bytesOf 65 ≤ 140737488351232 ∧ ∀ y0_ ∈ x_.f11, ((Lit.int .i64 y0_.f0).wf = true ∧ y0_.f1.size ≤ 140737488351232)))))))))))))) := by
  have o : Opens (reach Try.prog) 54 k54 _ := (Opens.struct (Z := reach Try.prog) Try.underlying54 (by kernel_rfl) (by kernel_rfl) (OpensC.cons (Opens.int Try.underlying3) (OpensC.cons (Opens.int Try.underlying3) (OpensC.cons (Opens.int Try.underlying3) (OpensC.cons (Opens.int Try.underlying3) (OpensC.cons (Opens.int Try.underlying3) (OpensC.cons (Opens.int Try.underlying3) (OpensC.cons (Opens.int Try.underlying3) (OpensC.cons (Opens.int Try.underlying3) (OpensC.cons (Opens.int Try.underlying3) (OpensC.cons (Opens.int Try.underlying3) (OpensC.cons (Opens.string Try.underlying9) (OpensC.one (Opens.slice z65 Try.underlying52 (Opens.struct Try.underlying65 (by kernel_rfl) (by kernel_rfl) (OpensC.cons (Opens.int Try.underlying3) (OpensC.one (Opens.string Try.underlying9))) (fun x_ : S65 => (x_.f0, x_.f1)) (fun p_ => ⟨p_.1, p_.2⟩) (fun _ => rfl)) (by kernel_rfl)))))))))))))) (fun x_ : S54 => (x_.f0, x_.f1, x_.f2, x_.f3, x_.f4, x_.f5, x_.f6, x_.f7, x_.f8, x_.f9, x_.f10, x_.f11)) (fun p_ => ⟨p_.1, p_.2.1, p_.2.2.1, p_.2.2.2.1, p_.2.2.2.2.1, p_.2.2.2.2.2.1, p_.2.2.2.2.2.2.1, p_.2.2.2.2.2.2.2.1, p_.2.2.2.2.2.2.2.2.1, p_.2.2.2.2.2.2.2.2.2.1, p_.2.2.2.2.2.2.2.2.2.2.1, p_.2.2.2.2.2.2.2.2.2.2.2⟩) (fun _ => rfl))
  exact @o
set_option maxRecDepth 100000 in
theorem lifted (os : Os) (started : os.Started) (H : Type) (enc : TypeId × Value → H) :
    ReturnsInHanded {} Try.checked os 13 .any (Rows.identSameSpec.pre6 enc Try.prog Try.f13 Rows.identSameRow.domain false) (Rows.identSameSpec.post enc Try.prog Try.f13 false true false false) := by
  refine returnsInHanded_of_change_sized (C := Try.checked) own started (by kernel_rfl) Try.func13
    (ChangeSpec.witness6 (enc := enc) (C := Try.checked) false ⟨#[], #[.string ByteArray.empty, .string ByteArray.empty, .agg #[.int .i64 0, .int .i64 0, .int .i64 0, .int .i64 0, .int .i64 0, .int .i64 0, .int .i64 0, .int .i64 0, .int .i64 0, .int .i64 0, .string ByteArray.empty, .slice none 0 0]], []⟩ 8 (by kernel_rfl) (by kernel_rfl) (by kernel_rfl) (by kernel_rfl)) ?_
  intro W base args ds gs before hval0 hW hcnd hsz0 _
  have hsz : (DataW.weightsEach Try.prog (Try.f13.params.toList ++ Rows.identSameSpec.plain.varTypes Try.prog) (ds ++ gs)).all (· ≤ reachBytes) = true := hsz0
  have hval : ∀ (j : Nat) t v, Try.f13.params[j]? = some t → args[j]? = some v → Value.okWide Try.prog W .any base t v := hval0
  have hW' := hW
  obtain ⟨p, q, hA0, hV, rfl, hfz, hnd⟩ := hW
  have hA : DataW.TrodAll enc Try.prog W 0 (fun _ => true) true Try.f13.params.toList args.toList ds p := hA0
  rw [Try.params13] at hA hval hsz
  obtain ⟨v0, vs0, d0, ds0, p0, q0, hargs, rfl, rfl, h0, r0⟩ := trodAll_cons hA
  obtain ⟨v1, vs1, d1, ds1, p1, q1, rfl, rfl, rfl, h1, r1⟩ := trodAll_cons r0
  obtain ⟨v2, vs2, d2, ds2, p2, q2, rfl, rfl, rfl, h2, r2⟩ := trodAll_cons r1
  obtain ⟨rfl, rfl, rfl⟩ := trodAll_nil r2
  obtain rfl : args = #[v0, v1, v2] := by cases args; simp_all
  obtain ⟨rfl, rfl⟩ := trodVars_none hV
  have k0 := h0
  have lt0 : ∀ x ∈ p0, x.block < W.heap.size := by obtain ⟨m, hm⟩ := k0; exact DataW.trod_lt m _ _ _ hm
  obtain ⟨fu0, hf0⟩ := h0
  have fit0 := (reach_of hsz (j := 0) (t := 9) rfl rfl)
  obtain ⟨x0, hK0, hQ0⟩ := o0 hf0 fit0
  obtain ⟨s0, rfl⟩ := okWide_string Try.underlying9 (hval 0 9 v0 rfl rfl)
  obtain rfl : s0 = x0 := by simpa [Value.cells, Kd.string, Kd.scalar] using hK0
  have k1 := h1
  have lt1 : ∀ x ∈ p1, x.block < W.heap.size := by obtain ⟨m, hm⟩ := k1; exact DataW.trod_lt m _ _ _ hm
  obtain ⟨fu1, hf1⟩ := h1
  have fit1 := (reach_of hsz (j := 1) (t := 9) rfl rfl)
  obtain ⟨x1, hK1, hQ1⟩ := o1 hf1 fit1
  obtain ⟨s1, rfl⟩ := okWide_string Try.underlying9 (hval 1 9 v1 rfl rfl)
  obtain rfl : s1 = x1 := by simpa [Value.cells, Kd.string, Kd.scalar] using hK1
  have k2 := h2
  have lt2 : ∀ x ∈ p2, x.block < W.heap.size := by obtain ⟨m, hm⟩ := k2; exact DataW.trod_lt m _ _ _ hm
  obtain ⟨fu2, hf2⟩ := h2
  have fit2 := (reach_of hsz (j := 2) (t := 54) rfl rfl)
  obtain ⟨x2, hK2, hQ2⟩ := o2 hf2 fit2
  obtain ⟨cs2, rfl, hz2⟩ := okWide_struct Try.underlying54 (hval 2 54 v2 rfl rfl)
  obtain ⟨x2_0, x2_1, x2_2, x2_3, x2_4, x2_5, x2_6, x2_7, x2_8, x2_9, x2_10, x2_11⟩ := x2
  obtain ⟨c2_0, t2_0, e2_0, k2_0, c2_1, t2_1, e2_1, k2_1, c2_2, t2_2, e2_2, k2_2, c2_3, t2_3, e2_3, k2_3, c2_4, t2_4, e2_4, k2_4, c2_5, t2_5, e2_5, k2_5, c2_6, t2_6, e2_6, k2_6, c2_7, t2_7, e2_7, k2_7, c2_8, t2_8, e2_8, k2_8, c2_9, t2_9, e2_9, k2_9, c2_10, t2_10, e2_10, k2_10, k2_11⟩ := hK2
  obtain rfl : c2_0 = [.int .i64 x2_0] := k2_0
  obtain rfl : c2_1 = [.int .i64 x2_1] := k2_1
  obtain rfl : c2_2 = [.int .i64 x2_2] := k2_2
  obtain rfl : c2_3 = [.int .i64 x2_3] := k2_3
  obtain rfl : c2_4 = [.int .i64 x2_4] := k2_4
  obtain rfl : c2_5 = [.int .i64 x2_5] := k2_5
  obtain rfl : c2_6 = [.int .i64 x2_6] := k2_6
  obtain rfl : c2_7 = [.int .i64 x2_7] := k2_7
  obtain rfl : c2_8 = [.int .i64 x2_8] := k2_8
  obtain rfl : c2_9 = [.int .i64 x2_9] := k2_9
  obtain rfl : c2_10 = [.string x2_10] := k2_10
  obtain ⟨A2_11, b2_11, rfl, hc2_11, hr2_11⟩ := k2_11
  subst e2_10
  subst e2_9
  subst e2_8
  subst e2_7
  subst e2_6
  subst e2_5
  subst e2_4
  subst e2_3
  subst e2_2
  subst e2_1
  have hcs2 : cs2 = #[.int .i64 x2_0, .int .i64 x2_1, .int .i64 x2_2, .int .i64 x2_3, .int .i64 x2_4, .int .i64 x2_5, .int .i64 x2_6, .int .i64 x2_7, .int .i64 x2_8, .int .i64 x2_9, .string x2_10, .slice A2_11 x2_11.length b2_11] := Array.toList_inj.1 (by simpa [Value.cells] using e2_0)
  subst hcs2
  obtain ⟨q2_0, q2_1, q2_2, q2_3, q2_4, q2_5, q2_6, q2_7, q2_8, q2_9, q2_10, q2_11⟩ := hQ2
  refine (PIdentSame.pinfoldlaw9_IdentSame.walk Pure.IdentSame s0 s1 x2_0 x2_1 x2_2 x2_3 x2_4 x2_5 x2_6 x2_7 x2_8 x2_9 x2_10 _ _ x2_11 W hr2_11 hc2_11 hQ0 hQ1 q2_0 q2_1 q2_2 q2_3 q2_4 q2_5 q2_6 q2_7 q2_8 q2_9 q2_10 q2_11).mono fun e W' ⟨he, bel⟩ => ?_
  subst he
  exact ⟨_, rfl, _, _, _, [], _, [], hW', trodAll_mk1 (shut_bool Try.underlying4 _), (trodAll_cons_mk (Below.trod laidOut (by kernel_rfl) (of_decide_eq_true (by kernel_rfl)) k0 bel lt0) (trodAll_cons_mk (Below.trod laidOut (by kernel_rfl) (of_decide_eq_true (by kernel_rfl)) k1 bel lt1) (trodAll_cons_mk (Below.trod laidOut (by kernel_rfl) (of_decide_eq_true (by kernel_rfl)) k2 bel lt2) trodAll_mk0))), rfl, bel.frame _, fun h => by cases h⟩
theorem over : Rows.identSameRow.holds Try.pinned (OpenSpec.ofChange Rows.identSameSpec) :=
  OpenClaim.holds_of_wide 13 Try.f13 rfl rfl rfl rfl rfl rfl rfl ⟨rfl, rfl, rfl, rfl, rfl⟩ rfl rfl rfl rfl rfl (by kernel_rfl) Try.func13 (by kernel_rfl)
    (of_decide_eq_true (by kernel_rfl)) (by unfold Func.isWrapper; first | (rw [if_pos (by decide +kernel)]; kernel_rfl) | (rw [if_neg (by decide +kernel)]; exact ⟨rfl, rfl⟩))
    (fun os started H enc _ => lifted os started H enc)
theorem proved : Rows.IdentSameSaid := over
end Go.Proofs.Ytpfanafggmkejaa.identSame
namespace Go.Proofs.Ytpfanafggmkejaa
/-- The row, under a short name, for the claim. -/
theorem identSame_holds : Rows.IdentSameSaid := identSame.proved
end Go.Proofs.Ytpfanafggmkejaa
