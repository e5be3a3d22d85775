-- Made by wip/pr.py out of the translation (a turned copy of the kit's print; contracts by hand where said).
import Derived.Test.YtpfanafggmkejaaRows
import Derived.Test.YtpfanafggmkejaaPSweepsx9
import Derived.Test.YtpfanafggmkejaaPureSweeps
import Derived.Test.YtpfanafggmkejaaOpenUpto
import Derived.WalkKit
import Derived.ProofKit
import Derived.OpenShut
import Derived.ShutString
import Derived.ChangeOld
import Derived.Below
import Derived.SizedLaws
import Derived.JoinedCond
namespace Go.Proofs.Ytpfanafggmkejaa.sweeps
open Go.ChangeShapes Go.WideShapes Go.ChangeAt Go.RowKit Go.Proofs.Ytpfanafggmkejaa.PSweeps Go.Proofs.YtpfanafggmkejaaW.PrintWords Go.Proofs.Ytpfanafggmkejaa.Opening
open Go.ChangeMaps (open_string shut_string)
set_option linter.unusedVariables false
set_option linter.unusedSimpArgs false
theorem own : ownKnob Try.prog.godebug = none := by kernel_rfl
theorem laidOut : laidOutB Try.prog = true := by kernel_rfl
theorem o0 : Opens (bulk Try.prog) 33 (Kd.slice 23 k23) (fun x_ => (x_.length ≤ 1048576 ∧ ∀ y0_ ∈ x_, ((Lit.int .i64 y0_.f0).wf = true ∧ ((Lit.int .i64 y0_.f1).wf = true ∧ (y0_.f2.size ≤ 1048576 ∧ ((Lit.int .i64 y0_.f3).wf = true ∧ (y0_.f4.size ≤ 1048576 ∧ True))))))) := by
  have o : Opens (bulk Try.prog) 33 (Kd.slice 23 k23) _ := (Opens.slice (Z := bulk Try.prog) z23 Try.underlying33 (Opens.struct Try.underlying23 (by kernel_rfl) (by kernel_rfl) (OpensC.cons (Opens.int Try.underlying3) (OpensC.cons (Opens.int Try.underlying3) (OpensC.cons (Opens.string Try.underlying9) (OpensC.cons (Opens.int Try.underlying3) (OpensC.cons (Opens.string Try.underlying9) (OpensC.one (Opens.bool Try.underlying4))))))) (fun x_ : S23 => (x_.f0, x_.f1, x_.f2, x_.f3, x_.f4, x_.f5)) (fun p_ => ⟨p_.1, p_.2.1, p_.2.2.1, p_.2.2.2.1, p_.2.2.2.2.1, p_.2.2.2.2.2⟩) (fun _ => rfl)) (by kernel_rfl))
  exact @o
set_option maxRecDepth 100000 in
theorem lifted (os : Os) (started : os.Started) (H : Type) (enc : TypeId × Value → H) (F : Stop.Interp) :
    ReturnsInHanded {} Try.checked os 7 .any ((Rows.OpenSpec.upto Rows.sweepsSpec).pre6 enc Try.prog Try.f7 Rows.sweepsUptoRow.domain false) (((Rows.OpenSpec.upto Rows.sweepsSpec).at F).post enc Try.prog Try.f7 false true false false) := by
  refine returnsInHanded_of_cond (C := Try.checked) (s := (Rows.OpenSpec.upto Rows.sweepsSpec)) (k := Rows.uptoSmall) rfl own started (by kernel_rfl) Try.func7
    (OpenSpec.witness (enc := enc) (C := Try.checked) (s := (Rows.OpenSpec.upto Rows.sweepsSpec)) (k := Rows.uptoSmall) rfl false ⟨#[], #[.slice none 0 0, .int .i64 0], []⟩ 8 (by kernel_rfl) (by kernel_rfl) (by kernel_rfl)
      (x := ([.nil, .lit (.int .i64 0)], [], [])) (by kernel_rfl) rfl (by kernel_rfl)) ?_
  intro W base args ds gs before hval0 hW _ hk0 _
  have hval : ∀ (j : Nat) t v, Try.f7.params[j]? = some t → args[j]? = some v → Value.okWide Try.prog W .any base t v := hval0
  have hW' := hW
  obtain ⟨p, q, hA0, hV, rfl, hfz, hnd⟩ := hW
  have hA : DataW.TrodAll enc Try.prog W 0 (fun _ => true) true Try.f7.params.toList args.toList ds p := hA0
  rw [Try.params7] at hA hval
  obtain ⟨v0, vs0, d0, ds0, p0, q0, hargs, rfl, rfl, h0, r0⟩ := trodAll_cons hA
  obtain ⟨v1, vs1, d1, ds1, p1, q1, rfl, rfl, rfl, h1, r1⟩ := trodAll_cons r0
  obtain ⟨rfl, rfl, rfl⟩ := trodAll_nil r1
  obtain rfl : args = #[v0, v1] := by cases args; simp_all
  obtain ⟨rfl, rfl⟩ := trodVars_none hV
  have k0 := h0
  have lt0 : ∀ x ∈ p0, x.block < W.heap.size := by obtain ⟨m, hm⟩ := k0; exact DataW.trod_lt m _ _ _ hm
  obtain ⟨fu0, hf0⟩ := h0
  have fit0 := (bulk_of (P := Try.prog) hk0 (j := 0) (t := 33) rfl)
  obtain ⟨x0, hK0, hQ0⟩ := o0 hf0 fit0
  obtain ⟨b0, len0, cap0, rfl⟩ := okWide_slice Try.underlying33 (hval 0 33 v0 rfl rfl)
  obtain ⟨A0, c0, hcs0, hc0, hr0⟩ := hK0
  have hcs0' : b0 = A0 ∧ len0 = x0.length ∧ cap0 = c0 := by simpa [Value.cells] using hcs0
  obtain ⟨rfl, rfl, rfl⟩ := hcs0'
  obtain ⟨a1, rfl, rfl, rfl, w1⟩ := open_int Try.underlying3 (hval 1 3 v1 rfl rfl) h1
  refine (PSweeps.pinfoldlaw19_Sweeps.walk Pure.Sweeps _ _ x0 a1 W hr0 hc0 hQ0 w1).mono fun e W' ⟨he, bel⟩ => ?_
  subst he
  exact ⟨_, rfl, _, _, _, [], _, [], hW', trodAll_mk1 (shut_bool Try.underlying4 _), (trodAll_cons_mk (Below.trod laidOut (by kernel_rfl) (of_decide_eq_true (by kernel_rfl)) k0 bel lt0) (trodAll_cons_mk (shut_int Try.underlying3 w1) trodAll_mk0)), rfl, bel.frame _, fun h => by cases h⟩
theorem over : Rows.sweepsUptoRow.holds Try.pinned (Rows.OpenSpec.upto Rows.sweepsSpec) :=
  OpenClaim.holds_of_cond 7 Try.f7 rfl rfl rfl rfl rfl rfl rfl ⟨rfl, rfl, rfl, rfl, rfl⟩ rfl rfl rfl rfl rfl (by kernel_rfl) Try.func7 (by kernel_rfl)
    (of_decide_eq_true (by kernel_rfl)) (by unfold Func.isWrapper; first | (rw [if_pos (by decide +kernel)]; kernel_rfl) | (rw [if_neg (by decide +kernel)]; exact ⟨rfl, rfl⟩))
    (fun os started H enc _ F => lifted os started H enc F)
theorem proved : Rows.SweepsUptoSaid := over
end Go.Proofs.Ytpfanafggmkejaa.sweeps
namespace Go.Proofs.Ytpfanafggmkejaa
/-- The row, under a short name, for the claim. -/
theorem sweeps_holds : Rows.SweepsUptoSaid := sweeps.proved
end Go.Proofs.Ytpfanafggmkejaa
