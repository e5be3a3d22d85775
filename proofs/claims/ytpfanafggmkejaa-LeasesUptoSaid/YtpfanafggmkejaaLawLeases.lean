-- Made by wip/pr.py out of the translation (a turned copy of the kit's print; contracts by hand where said).
import Derived.Test.YtpfanafggmkejaaRows
import Derived.Test.YtpfanafggmkejaaPLeasesx4
import Derived.Test.YtpfanafggmkejaaPureLeases
import Derived.Test.YtpfanafggmkejaaOpenUpto
import Derived.WalkKit
import Derived.ProofKit
import Derived.OpenShut
import Derived.ShutString
import Derived.ChangeOld
import Derived.Below
import Derived.SizedLaws
import Derived.JoinedCond
namespace Go.Proofs.Ytpfanafggmkejaa.leases
open Go.ChangeShapes Go.WideShapes Go.ChangeAt Go.RowKit Go.Proofs.Ytpfanafggmkejaa.PLeases Go.Proofs.YtpfanafggmkejaaW.PrintWords Go.Proofs.Ytpfanafggmkejaa.Opening
open Go.ChangeMaps (open_string shut_string)
set_option linter.unusedVariables false
set_option linter.unusedSimpArgs false
theorem own : ownKnob Try.prog.godebug = none := by kernel_rfl
theorem laidOut : laidOutB Try.prog = true := by kernel_rfl
theorem o0 : Opens (bulk Try.prog) 23 k23 (fun x_ => ((Lit.int .i64 x_.f0).wf = true ∧ ((Lit.int .i64 x_.f1).wf = true ∧ (x_.f2.size ≤ 1048576 ∧ ((Lit.int .i64 x_.f3).wf = true ∧ (x_.f4.size ≤ 1048576 ∧ True)))))) := by
  have o : Opens (bulk Try.prog) 23 k23 _ := (Opens.struct (Z := bulk Try.prog) Try.underlying23 (by kernel_rfl) (by kernel_rfl) (OpensC.cons (Opens.int Try.underlying3) (OpensC.cons (Opens.int Try.underlying3) (OpensC.cons (Opens.string Try.underlying9) (OpensC.cons (Opens.int Try.underlying3) (OpensC.cons (Opens.string Try.underlying9) (OpensC.one (Opens.bool Try.underlying4))))))) (fun x_ : S23 => (x_.f0, x_.f1, x_.f2, x_.f3, x_.f4, x_.f5)) (fun p_ => ⟨p_.1, p_.2.1, p_.2.2.1, p_.2.2.2.1, p_.2.2.2.2.1, p_.2.2.2.2.2⟩) (fun _ => rfl))
  exact @o
set_option maxRecDepth 100000 in
theorem lifted (os : Os) (started : os.Started) (H : Type) (enc : TypeId × Value → H) (F : Stop.Interp) :
    ReturnsInHanded {} Try.checked os 3 .any ((Rows.OpenSpec.upto Rows.leasesSpec).pre6 enc Try.prog Try.f3 Rows.leasesUptoRow.domain false) (((Rows.OpenSpec.upto Rows.leasesSpec).at F).post enc Try.prog Try.f3 false true false false) := by
  refine returnsInHanded_of_cond (C := Try.checked) (s := (Rows.OpenSpec.upto Rows.leasesSpec)) (k := Rows.uptoSmall) rfl own started (by kernel_rfl) Try.func3
    (OpenSpec.witness (enc := enc) (C := Try.checked) (s := (Rows.OpenSpec.upto Rows.leasesSpec)) (k := Rows.uptoSmall) rfl false ⟨#[], #[.agg #[.int .i64 0, .int .i64 0, .string ByteArray.empty, .int .i64 0, .string ByteArray.empty, .bool false], .int .i64 0], []⟩ 8 (by kernel_rfl) (by kernel_rfl) (by kernel_rfl)
      (x := ([.agg [.lit (.int .i64 0), .lit (.int .i64 0), .lit (.string []), .lit (.int .i64 0), .lit (.string []), .lit (.bool false)], .lit (.int .i64 0)], [], [])) (by kernel_rfl) rfl (by kernel_rfl)) ?_
  intro W base args ds gs before hval0 hW _ hk0 _
  have hval : ∀ (j : Nat) t v, Try.f3.params[j]? = some t → args[j]? = some v → Value.okWide Try.prog W .any base t v := hval0
  have hW' := hW
  obtain ⟨p, q, hA0, hV, rfl, hfz, hnd⟩ := hW
  have hA : DataW.TrodAll enc Try.prog W 0 (fun _ => true) true Try.f3.params.toList args.toList ds p := hA0
  rw [Try.params3] at hA hval
  obtain ⟨v0, vs0, d0, ds0, p0, q0, hargs, rfl, rfl, h0, r0⟩ := trodAll_cons hA
  obtain ⟨v1, vs1, d1, ds1, p1, q1, rfl, rfl, rfl, h1, r1⟩ := trodAll_cons r0
  obtain ⟨rfl, rfl, rfl⟩ := trodAll_nil r1
  obtain rfl : args = #[v0, v1] := by cases args; simp_all
  obtain ⟨rfl, rfl⟩ := trodVars_none hV
  have k0 := h0
  have lt0 : ∀ x ∈ p0, x.block < W.heap.size := by obtain ⟨m, hm⟩ := k0; exact DataW.trod_lt m _ _ _ hm
  obtain ⟨fu0, hf0⟩ := h0
  have fit0 := (bulk_of (P := Try.prog) hk0 (j := 0) (t := 23) rfl)
  obtain ⟨x0, hK0, hQ0⟩ := o0 hf0 fit0
  obtain ⟨cs0, rfl, hz0⟩ := okWide_struct Try.underlying23 (hval 0 23 v0 rfl rfl)
  obtain ⟨x0_0, x0_1, x0_2, x0_3, x0_4, x0_5⟩ := x0
  obtain ⟨c0_0, t0_0, e0_0, k0_0, c0_1, t0_1, e0_1, k0_1, c0_2, t0_2, e0_2, k0_2, c0_3, t0_3, e0_3, k0_3, c0_4, t0_4, e0_4, k0_4, k0_5⟩ := hK0
  obtain rfl : c0_0 = [.int .i64 x0_0] := k0_0
  obtain rfl : c0_1 = [.int .i64 x0_1] := k0_1
  obtain rfl : c0_2 = [.string x0_2] := k0_2
  obtain rfl : c0_3 = [.int .i64 x0_3] := k0_3
  obtain rfl : c0_4 = [.string x0_4] := k0_4
  obtain rfl : t0_4 = [.bool x0_5] := k0_5
  subst e0_4
  subst e0_3
  subst e0_2
  subst e0_1
  have hcs0 : cs0 = #[.int .i64 x0_0, .int .i64 x0_1, .string x0_2, .int .i64 x0_3, .string x0_4, .bool x0_5] := Array.toList_inj.1 (by simpa [Value.cells] using e0_0)
  subst hcs0
  obtain ⟨q0_0, q0_1, q0_2, q0_3, q0_4, q0_5⟩ := hQ0
  obtain ⟨a1, rfl, rfl, rfl, w1⟩ := open_int Try.underlying3 (hval 1 3 v1 rfl rfl) h1
  refine (PLeases.pinfoldlaw12_Leases.walk Pure.Leases x0_0 x0_1 x0_2 x0_3 x0_4 x0_5 a1 W  q0_0 q0_1 q0_2 q0_3 q0_4 w1).mono fun e W' ⟨he, bel⟩ => ?_
  subst he
  exact ⟨_, rfl, _, _, _, [], _, [], hW', trodAll_mk1 (shut_bool Try.underlying4 _), (trodAll_cons_mk (Below.trod laidOut (by kernel_rfl) (of_decide_eq_true (by kernel_rfl)) k0 bel lt0) (trodAll_cons_mk (shut_int Try.underlying3 w1) trodAll_mk0)), rfl, bel.frame _, fun h => by cases h⟩
theorem over : Rows.leasesUptoRow.holds Try.pinned (Rows.OpenSpec.upto Rows.leasesSpec) :=
  OpenClaim.holds_of_cond 3 Try.f3 rfl rfl rfl rfl rfl rfl rfl ⟨rfl, rfl, rfl, rfl, rfl⟩ rfl rfl rfl rfl rfl (by kernel_rfl) Try.func3 (by kernel_rfl)
    (of_decide_eq_true (by kernel_rfl)) (by unfold Func.isWrapper; first | (rw [if_pos (by decide +kernel)]; kernel_rfl) | (rw [if_neg (by decide +kernel)]; exact ⟨rfl, rfl⟩))
    (fun os started H enc _ F => lifted os started H enc F)
theorem proved : Rows.LeasesUptoSaid := over
end Go.Proofs.Ytpfanafggmkejaa.leases
namespace Go.Proofs.Ytpfanafggmkejaa
/-- The row, under a short name, for the claim. -/
theorem leases_holds : Rows.LeasesUptoSaid := leases.proved
end Go.Proofs.Ytpfanafggmkejaa
