-- Made by wip/pr.py out of the translation (a turned copy of the kit's print; contracts by hand where said).
import Derived.Test.YtpfanafggmkejaaRows
import Derived.Test.YtpfanafggmkejaaPIdentsx7
import Derived.Test.YtpfanafggmkejaaPureIdents
import Derived.Test.YtpfanafggmkejaaOpenUpto
import Derived.WalkKit
import Derived.ProofKit
import Derived.OpenShut
import Derived.ShutString
import Derived.ChangeOld
import Derived.Below
import Derived.SizedLaws
import Derived.JoinedCond
namespace Go.Proofs.Ytpfanafggmkejaa.idents
open Go.ChangeShapes Go.WideShapes Go.ChangeAt Go.RowKit Go.Proofs.Ytpfanafggmkejaa.PIdents Go.Proofs.YtpfanafggmkejaaW.PrintWords Go.Proofs.Ytpfanafggmkejaa.Opening
open Go.ChangeMaps (open_string shut_string)
set_option linter.unusedVariables false
set_option linter.unusedSimpArgs false
theorem own : ownKnob Try.prog.godebug = none := by kernel_rfl
theorem laidOut : laidOutB Try.prog = true := by kernel_rfl
theorem o0 : Opens (bulk Try.prog) 54 k54 (fun x_ => ((Lit.int .i64 x_.f0).wf = true ∧ ((Lit.int .i64 x_.f1).wf = true ∧ ((Lit.int .i64 x_.f2).wf = true ∧ ((Lit.int .i64 x_.f3).wf = true ∧ ((Lit.int .i64 x_.f4).wf = true ∧ ((Lit.int .i64 x_.f5).wf = true ∧ ((Lit.int .i64 x_.f6).wf = true ∧ ((Lit.int .i64 x_.f7).wf = true ∧ ((Lit.int .i64 x_.f8).wf = true ∧ ((Lit.int .i64 x_.f9).wf = true ∧ (x_.f10.size ≤ 1048576 ∧ (x_.f11.length ≤ 1048576 ∧ ∀ y0_ ∈ x_.f11, ((Lit.int .i64 y0_.f0).wf = true ∧ y0_.f1.size ≤ 1048576)))))))))))))) := by
  have o : Opens (bulk Try.prog) 54 k54 _ := (Opens.struct (Z := bulk Try.prog) Try.underlying54 (by kernel_rfl) (by kernel_rfl) (OpensC.cons (Opens.int Try.underlying3) (OpensC.cons (Opens.int Try.underlying3) (OpensC.cons (Opens.int Try.underlying3) (OpensC.cons (Opens.int Try.underlying3) (OpensC.cons (Opens.int Try.underlying3) (OpensC.cons (Opens.int Try.underlying3) (OpensC.cons (Opens.int Try.underlying3) (OpensC.cons (Opens.int Try.underlying3) (OpensC.cons (Opens.int Try.underlying3) (OpensC.cons (Opens.int Try.underlying3) (OpensC.cons (Opens.string Try.underlying9) (OpensC.one (Opens.slice z65 Try.underlying52 (Opens.struct Try.underlying65 (by kernel_rfl) (by kernel_rfl) (OpensC.cons (Opens.int Try.underlying3) (OpensC.one (Opens.string Try.underlying9))) (fun x_ : S65 => (x_.f0, x_.f1)) (fun p_ => ⟨p_.1, p_.2⟩) (fun _ => rfl)) (by kernel_rfl)))))))))))))) (fun x_ : S54 => (x_.f0, x_.f1, x_.f2, x_.f3, x_.f4, x_.f5, x_.f6, x_.f7, x_.f8, x_.f9, x_.f10, x_.f11)) (fun p_ => ⟨p_.1, p_.2.1, p_.2.2.1, p_.2.2.2.1, p_.2.2.2.2.1, p_.2.2.2.2.2.1, p_.2.2.2.2.2.2.1, p_.2.2.2.2.2.2.2.1, p_.2.2.2.2.2.2.2.2.1, p_.2.2.2.2.2.2.2.2.2.1, p_.2.2.2.2.2.2.2.2.2.2.1, p_.2.2.2.2.2.2.2.2.2.2.2⟩) (fun _ => rfl))
  exact @o
theorem o1 : Opens (bulk Try.prog) 9 Kd.string (fun x_ => x_.size ≤ 1048576) := by
  have o : Opens (bulk Try.prog) 9 Kd.string _ := (Opens.string (Z := bulk Try.prog) Try.underlying9)
  exact @o
theorem o2 : Opens (bulk Try.prog) 9 Kd.string (fun x_ => x_.size ≤ 1048576) := by
  have o : Opens (bulk Try.prog) 9 Kd.string _ := (Opens.string (Z := bulk Try.prog) Try.underlying9)
  exact @o
set_option maxRecDepth 100000 in
theorem lifted (os : Os) (started : os.Started) (H : Type) (enc : TypeId × Value → H) (F : Stop.Interp) :
    ReturnsInHanded {} Try.checked os 11 .any ((Rows.OpenSpec.upto Rows.identsSpec).pre6 enc Try.prog Try.f11 Rows.identsUptoRow.domain false) (((Rows.OpenSpec.upto Rows.identsSpec).at F).post enc Try.prog Try.f11 false true false false) := by
  refine returnsInHanded_of_cond (C := Try.checked) (s := (Rows.OpenSpec.upto Rows.identsSpec)) (k := Rows.uptoSmall) rfl own started (by kernel_rfl) Try.func11
    (OpenSpec.witness (enc := enc) (C := Try.checked) (s := (Rows.OpenSpec.upto Rows.identsSpec)) (k := Rows.uptoSmall) rfl false ⟨#[], #[.agg #[.int .i64 0, .int .i64 0, .int .i64 0, .int .i64 0, .int .i64 0, .int .i64 0, .int .i64 0, .int .i64 0, .int .i64 0, .int .i64 0, .string ByteArray.empty, .slice none 0 0], .string ByteArray.empty, .string ByteArray.empty], []⟩ 8 (by kernel_rfl) (by kernel_rfl) (by kernel_rfl)
      (x := ([.agg [.lit (.int .i64 0), .lit (.int .i64 0), .lit (.int .i64 0), .lit (.int .i64 0), .lit (.int .i64 0), .lit (.int .i64 0), .lit (.int .i64 0), .lit (.int .i64 0), .lit (.int .i64 0), .lit (.int .i64 0), .lit (.string []), .nil], .lit (.string []), .lit (.string [])], [], [])) (by kernel_rfl) rfl (by kernel_rfl)) ?_
  intro W base args ds gs before hval0 hW _ hk0 _
  have hval : ∀ (j : Nat) t v, Try.f11.params[j]? = some t → args[j]? = some v → Value.okWide Try.prog W .any base t v := hval0
  have hW' := hW
  obtain ⟨p, q, hA0, hV, rfl, hfz, hnd⟩ := hW
  have hA : DataW.TrodAll enc Try.prog W 0 (fun _ => true) true Try.f11.params.toList args.toList ds p := hA0
  rw [Try.params11] at hA hval
  obtain ⟨v0, vs0, d0, ds0, p0, q0, hargs, rfl, rfl, h0, r0⟩ := trodAll_cons hA
  obtain ⟨v1, vs1, d1, ds1, p1, q1, rfl, rfl, rfl, h1, r1⟩ := trodAll_cons r0
  obtain ⟨v2, vs2, d2, ds2, p2, q2, rfl, rfl, rfl, h2, r2⟩ := trodAll_cons r1
  obtain ⟨rfl, rfl, rfl⟩ := trodAll_nil r2
  obtain rfl : args = #[v0, v1, v2] := by cases args; simp_all
  obtain ⟨rfl, rfl⟩ := trodVars_none hV
  have k0 := h0
  have lt0 : ∀ x ∈ p0, x.block < W.heap.size := by obtain ⟨m, hm⟩ := k0; exact DataW.trod_lt m _ _ _ hm
  obtain ⟨fu0, hf0⟩ := h0
  have fit0 := (bulk_of (P := Try.prog) hk0 (j := 0) (t := 54) rfl)
  obtain ⟨x0, hK0, hQ0⟩ := o0 hf0 fit0
  obtain ⟨cs0, rfl, hz0⟩ := okWide_struct Try.underlying54 (hval 0 54 v0 rfl rfl)
  obtain ⟨x0_0, x0_1, x0_2, x0_3, x0_4, x0_5, x0_6, x0_7, x0_8, x0_9, x0_10, x0_11⟩ := x0
  obtain ⟨c0_0, t0_0, e0_0, k0_0, c0_1, t0_1, e0_1, k0_1, c0_2, t0_2, e0_2, k0_2, c0_3, t0_3, e0_3, k0_3, c0_4, t0_4, e0_4, k0_4, c0_5, t0_5, e0_5, k0_5, c0_6, t0_6, e0_6, k0_6, c0_7, t0_7, e0_7, k0_7, c0_8, t0_8, e0_8, k0_8, c0_9, t0_9, e0_9, k0_9, c0_10, t0_10, e0_10, k0_10, k0_11⟩ := hK0
  obtain rfl : c0_0 = [.int .i64 x0_0] := k0_0
  obtain rfl : c0_1 = [.int .i64 x0_1] := k0_1
  obtain rfl : c0_2 = [.int .i64 x0_2] := k0_2
  obtain rfl : c0_3 = [.int .i64 x0_3] := k0_3
  obtain rfl : c0_4 = [.int .i64 x0_4] := k0_4
  obtain rfl : c0_5 = [.int .i64 x0_5] := k0_5
  obtain rfl : c0_6 = [.int .i64 x0_6] := k0_6
  obtain rfl : c0_7 = [.int .i64 x0_7] := k0_7
  obtain rfl : c0_8 = [.int .i64 x0_8] := k0_8
  obtain rfl : c0_9 = [.int .i64 x0_9] := k0_9
  obtain rfl : c0_10 = [.string x0_10] := k0_10
  obtain ⟨A0_11, b0_11, rfl, hc0_11, hr0_11⟩ := k0_11
  subst e0_10
  subst e0_9
  subst e0_8
  subst e0_7
  subst e0_6
  subst e0_5
  subst e0_4
  subst e0_3
  subst e0_2
  subst e0_1
  have hcs0 : cs0 = #[.int .i64 x0_0, .int .i64 x0_1, .int .i64 x0_2, .int .i64 x0_3, .int .i64 x0_4, .int .i64 x0_5, .int .i64 x0_6, .int .i64 x0_7, .int .i64 x0_8, .int .i64 x0_9, .string x0_10, .slice A0_11 x0_11.length b0_11] := Array.toList_inj.1 (by simpa [Value.cells] using e0_0)
  subst hcs0
  obtain ⟨q0_0, q0_1, q0_2, q0_3, q0_4, q0_5, q0_6, q0_7, q0_8, q0_9, q0_10, q0_11⟩ := hQ0
  have k1 := h1
  have lt1 : ∀ x ∈ p1, x.block < W.heap.size := by obtain ⟨m, hm⟩ := k1; exact DataW.trod_lt m _ _ _ hm
  obtain ⟨fu1, hf1⟩ := h1
  have fit1 := (bulk_of (P := Try.prog) hk0 (j := 1) (t := 9) rfl)
  obtain ⟨x1, hK1, hQ1⟩ := o1 hf1 fit1
  obtain ⟨s1, rfl⟩ := okWide_string Try.underlying9 (hval 1 9 v1 rfl rfl)
  obtain rfl : s1 = x1 := by simpa [Value.cells, Kd.string, Kd.scalar] using hK1
  have k2 := h2
  have lt2 : ∀ x ∈ p2, x.block < W.heap.size := by obtain ⟨m, hm⟩ := k2; exact DataW.trod_lt m _ _ _ hm
  obtain ⟨fu2, hf2⟩ := h2
  have fit2 := (bulk_of (P := Try.prog) hk0 (j := 2) (t := 9) rfl)
  obtain ⟨x2, hK2, hQ2⟩ := o2 hf2 fit2
  obtain ⟨s2, rfl⟩ := okWide_string Try.underlying9 (hval 2 9 v2 rfl rfl)
  obtain rfl : s2 = x2 := by simpa [Value.cells, Kd.string, Kd.scalar] using hK2
  refine (PIdents.pinfoldlaw9_Idents.walk Pure.Idents x0_0 x0_1 x0_2 x0_3 x0_4 x0_5 x0_6 x0_7 x0_8 x0_9 x0_10 _ _ x0_11 s1 s2 W hr0_11 hc0_11 q0_0 q0_1 q0_2 q0_3 q0_4 q0_5 q0_6 q0_7 q0_8 q0_9 q0_10 q0_11 hQ1 hQ2).mono fun e W' ⟨he, bel⟩ => ?_
  subst he
  exact ⟨_, rfl, _, _, _, [], _, [], hW', trodAll_mk1 (shut_bool Try.underlying4 _), (trodAll_cons_mk (Below.trod laidOut (by kernel_rfl) (of_decide_eq_true (by kernel_rfl)) k0 bel lt0) (trodAll_cons_mk (Below.trod laidOut (by kernel_rfl) (of_decide_eq_true (by kernel_rfl)) k1 bel lt1) (trodAll_cons_mk (Below.trod laidOut (by kernel_rfl) (of_decide_eq_true (by kernel_rfl)) k2 bel lt2) trodAll_mk0))), rfl, bel.frame _, fun h => by cases h⟩
theorem over : Rows.identsUptoRow.holds Try.pinned (Rows.OpenSpec.upto Rows.identsSpec) :=
  OpenClaim.holds_of_cond 11 Try.f11 rfl rfl rfl rfl rfl rfl rfl ⟨rfl, rfl, rfl, rfl, rfl⟩ rfl rfl rfl rfl rfl (by kernel_rfl) Try.func11 (by kernel_rfl)
    (of_decide_eq_true (by kernel_rfl)) (by unfold Func.isWrapper; first | (rw [if_pos (by decide +kernel)]; kernel_rfl) | (rw [if_neg (by decide +kernel)]; exact ⟨rfl, rfl⟩))
    (fun os started H enc _ F => lifted os started H enc F)
theorem proved : Rows.IdentsUptoSaid := over
end Go.Proofs.Ytpfanafggmkejaa.idents
namespace Go.Proofs.Ytpfanafggmkejaa
/-- The row, under a short name, for the claim. -/
theorem idents_holds : Rows.IdentsUptoSaid := idents.proved
end Go.Proofs.Ytpfanafggmkejaa
