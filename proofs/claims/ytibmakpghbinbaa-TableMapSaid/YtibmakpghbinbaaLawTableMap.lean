-- Made by wip/pr.py out of the translation (a turned copy of the kit's print; contracts by hand where said).
import Derived.Test.YtibmakpghbinbaaRows
import Derived.Test.YtibmakpghbinbaaPMx7
import Derived.Test.YtibmakpghbinbaaPureTableMap
import Derived.Test.YtibmakpghbinbaaMOpen
import Derived.WalkKit
import Derived.ProofKit
import Derived.OpenShut
import Derived.ShutString
import Derived.ChangeOld
import Derived.Below
import Derived.SizedLaws
namespace Go.Proofs.Ytibmakpghbinbaa.tableMap
open Go.ChangeShapes Go.WideShapes Go.ChangeAt Go.RowKit Go.Proofs.Ytibmakpghbinbaa.PM Go.Proofs.YtibmakpghbinbaaW.PrintWords Go.Proofs.Ytibmakpghbinbaa.Opening
open Go.ChangeMaps (open_string shut_string)
set_option linter.unusedVariables false
set_option linter.unusedSimpArgs false
theorem own : ownKnob Try.prog.godebug = none := by kernel_rfl
theorem laidOut : laidOutB Try.prog = true := by kernel_rfl
theorem o0 : Opens (reach Try.prog) 22 (Kd.slice 3 (Kd.int .i64)) (fun x_ => (x_.length * Try.prog.bytesOf 3 ≤ 140737488351232 ∧ ∀ y0_ ∈ x_, (Lit.int .i64 y0_).wf = true)) := by
  have o : Opens (reach Try.prog) 22 (Kd.slice 3 (Kd.int .i64)) _ := (Opens.slice (Z := reach Try.prog) (0 : Int) Try.underlying22 (Opens.int Try.underlying3) (by kernel_rfl))
  exact @o
theorem o1 : Opens (reach Try.prog) 22 (Kd.slice 3 (Kd.int .i64)) (fun x_ => (x_.length * Try.prog.bytesOf 3 ≤ 140737488351232 ∧ ∀ y0_ ∈ x_, (Lit.int .i64 y0_).wf = true)) := by
  have o : Opens (reach Try.prog) 22 (Kd.slice 3 (Kd.int .i64)) _ := (Opens.slice (Z := reach Try.prog) (0 : Int) Try.underlying22 (Opens.int Try.underlying3) (by kernel_rfl))
  exact @o
set_option maxRecDepth 100000 in
theorem lifted (os : Os) (started : os.Started) (H : Type) (enc : TypeId × Value → H) :
    ReturnsInHanded {} Try.checked os 5 .any (Rows.tableMapSpec.pre6 enc Try.prog Try.f5 Rows.tableMapRow.domain false) (Rows.tableMapSpec.post enc Try.prog Try.f5 false true false false) := by
  refine returnsInHanded_of_change_sized (C := Try.checked) own started (by kernel_rfl) Try.func5
    (ChangeSpec.witness6 (enc := enc) (C := Try.checked) false ⟨#[], #[.slice none 0 0, .slice none 0 0], []⟩ 8 (by kernel_rfl) (by kernel_rfl) (by kernel_rfl) (by kernel_rfl)) ?_
  intro W base args ds gs before hval0 hW hcnd hsz0 _
  have hsz : (DataW.weightsEach Try.prog (Try.f5.params.toList ++ Rows.tableMapSpec.plain.varTypes Try.prog) (ds ++ gs)).all (· ≤ reachBytes) = true := hsz0
  have hval : ∀ (j : Nat) t v, Try.f5.params[j]? = some t → args[j]? = some v → Value.okWide Try.prog W .any base t v := hval0
  have hW' := hW
  obtain ⟨p, q, hA0, hV, rfl, hfz, hnd⟩ := hW
  have hA : DataW.TrodAll enc Try.prog W 0 (fun _ => true) true Try.f5.params.toList args.toList ds p := hA0
  rw [Try.params5] at hA hval hsz
  obtain ⟨v0, vs0, d0, ds0, p0, q0, hargs, rfl, rfl, h0, r0⟩ := trodAll_cons hA
  obtain ⟨v1, vs1, d1, ds1, p1, q1, rfl, rfl, rfl, h1, r1⟩ := trodAll_cons r0
  obtain ⟨rfl, rfl, rfl⟩ := trodAll_nil r1
  obtain rfl : args = #[v0, v1] := by cases args; simp_all
  obtain ⟨rfl, rfl⟩ := trodVars_none hV
  have k0 := h0
  have lt0 : ∀ x ∈ p0, x.block < W.heap.size := by obtain ⟨m, hm⟩ := k0; exact DataW.trod_lt m _ _ _ hm
  obtain ⟨fu0, hf0⟩ := h0
  have fit0 := (reach_of hsz (j := 0) (t := 22) rfl rfl)
  obtain ⟨x0, hK0, hQ0⟩ := o0 hf0 fit0
  obtain ⟨b0, len0, cap0, rfl⟩ := okWide_slice Try.underlying22 (hval 0 22 v0 rfl rfl)
  obtain ⟨A0, c0, hcs0, hc0, hr0⟩ := hK0
  have hcs0' : b0 = A0 ∧ len0 = x0.length ∧ cap0 = c0 := by simpa [Value.cells] using hcs0
  obtain ⟨rfl, rfl, rfl⟩ := hcs0'
  have k1 := h1
  have lt1 : ∀ x ∈ p1, x.block < W.heap.size := by obtain ⟨m, hm⟩ := k1; exact DataW.trod_lt m _ _ _ hm
  obtain ⟨fu1, hf1⟩ := h1
  have fit1 := (reach_of hsz (j := 1) (t := 22) rfl rfl)
  obtain ⟨x1, hK1, hQ1⟩ := o1 hf1 fit1
  obtain ⟨b1, len1, cap1, rfl⟩ := okWide_slice Try.underlying22 (hval 1 22 v1 rfl rfl)
  obtain ⟨A1, c1, hcs1, hc1, hr1⟩ := hK1
  have hcs1' : b1 = A1 ∧ len1 = x1.length ∧ cap1 = c1 := by simpa [Value.cells] using hcs1
  obtain ⟨rfl, rfl, rfl⟩ := hcs1'
  refine (PM.pinfoldlaw13_TableMap.walk Pure.TableMap _ _ x0 _ _ x1 W hr0 hc0 hr1 hc1 hQ0 hQ1).mono fun e W' ⟨he, bel⟩ => ?_
  subst he
  exact ⟨_, rfl, _, _, _, [], _, [], hW', trodAll_mk1 (shut_bool Try.underlying4 _), (trodAll_cons_mk (Below.trod laidOut (by kernel_rfl) (of_decide_eq_true (by kernel_rfl)) k0 bel lt0) (trodAll_cons_mk (Below.trod laidOut (by kernel_rfl) (of_decide_eq_true (by kernel_rfl)) k1 bel lt1) trodAll_mk0)), rfl, bel.frame _, fun h => by cases h⟩
theorem over : Rows.tableMapRow.holds Try.pinned (OpenSpec.ofChange Rows.tableMapSpec) :=
  OpenClaim.holds_of_wide 5 Try.f5 rfl rfl rfl rfl rfl rfl rfl ⟨rfl, rfl, rfl, rfl, rfl⟩ rfl rfl rfl rfl rfl (by kernel_rfl) Try.func5 (by kernel_rfl)
    (of_decide_eq_true (by kernel_rfl)) (by unfold Func.isWrapper; first | (rw [if_pos (by decide +kernel)]; kernel_rfl) | (rw [if_neg (by decide +kernel)]; exact ⟨rfl, rfl⟩))
    (fun os started H enc _ => lifted os started H enc)
theorem proved : Rows.TableMapSaid := over
end Go.Proofs.Ytibmakpghbinbaa.tableMap
namespace Go.Proofs.Ytibmakpghbinbaa
/-- The row, under a short name, for the claim. -/
theorem tableMap_holds : Rows.TableMapSaid := tableMap.proved
end Go.Proofs.Ytibmakpghbinbaa
