-- Made by wip/pr.py out of the translation (a turned copy of the kit's print; contracts by hand where said).
import Derived.Test.YtibalpbkmgegnaaGreatDoorRows
import Derived.Test.YtibalpbkmgegnaaGreatDoorPLx20
import Derived.Test.YtibalpbkmgegnaaGreatDoorPureClaims
import Derived.Test.YtibalpbkmgegnaaGreatDoorLOpenUpto
import Derived.WalkKit
import Derived.ProofKit
import Derived.OpenShut
import Derived.ShutString
import Derived.ChangeOld
import Derived.Below
import Derived.SizedLaws
import Derived.Test.YtibalpbkmgegnaaGreatDoorCards
import Derived.Test.YtibalpbkmgegnaaGreatDoorTie
import Derived.Deep.DeepHandedRow
import Derived.Lib.LaidTab
namespace Go.Proofs.YtibalpbkmgegnaaGreatDoor.claims
open Go.ChangeShapes Go.WideShapes Go.ChangeAt Go.RowKit Go.Proofs.YtibalpbkmgegnaaGreatDoor.PL Go.Proofs.YtibalpbkmgegnaaGreatDoorW.PrintWords Go.Proofs.YtibalpbkmgegnaaGreatDoor.Opening
open Go.ChangeMaps (open_string shut_string)
set_option linter.unusedVariables false
set_option linter.unusedSimpArgs false
theorem own : ownKnob Tryz.prog.godebug = none := by kernel_rfl
theorem laidOut : laidOutB Tryz.prog = true := by kernel_rfl
theorem o0 : Opens (bulk Tryz.prog) 26 k26 (fun x_ => ((Lit.int .i64 x_.f0).wf = true ∧ ((Lit.int .i64 x_.f1).wf = true ∧ ((x_.f2.length ≤ 1048576 ∧ ∀ y0_ ∈ x_.f2, (Lit.int .i64 y0_).wf = true) ∧ ((x_.f3.length ≤ 1048576 ∧ ∀ y0_ ∈ x_.f3, (y0_.f0.size ≤ 1048576 ∧ (Lit.int .i64 y0_.f1).wf = true)) ∧ ((Lit.int .i64 x_.f4).wf = true ∧ (x_.f5.size ≤ 1048576 ∧ (x_.f6.length ≤ 1048576 ∧ ∀ y0_ ∈ x_.f6, (y0_.f0.size ≤ 1048576 ∧ ((Lit.int .i64 y0_.f1).wf = true ∧ ((Lit.int .i64 y0_.f2).wf = true ∧ ((Lit.int .i64 y0_.f3).wf = true ∧ (y0_.f4.size ≤ 1048576 ∧ (y0_.f5.size ≤ 1048576 ∧ (Lit.int .i64 y0_.f6).wf = true)))))))))))))) := by
  have o : Opens (bulk Tryz.prog) 26 k26 _ := (Opens.struct (Z := bulk Tryz.prog) Tryz.underlying26 (by kernel_rfl) (by kernel_rfl) (OpensC.cons (Opens.int Tryz.underlying3) (OpensC.cons (Opens.int Tryz.underlying3) (OpensC.cons (Opens.slice (0 : Int) Tryz.underlying22 (Opens.int Tryz.underlying3) (by kernel_rfl)) (OpensC.cons (Opens.slice z95 Tryz.underlying23 (Opens.struct Tryz.underlying95 (by kernel_rfl) (by kernel_rfl) (OpensC.cons (Opens.string Tryz.underlying9) (OpensC.one (Opens.int Tryz.underlying3))) (fun x_ : S95 => (x_.f0, x_.f1)) (fun p_ => ⟨p_.1, p_.2⟩) (fun _ => rfl)) (by kernel_rfl)) (OpensC.cons (Opens.int Tryz.underlying3) (OpensC.cons (Opens.string Tryz.underlying9) (OpensC.one (Opens.slice z93 Tryz.underlying24 (Opens.struct Tryz.underlying93 (by kernel_rfl) (by kernel_rfl) (OpensC.cons (Opens.string Tryz.underlying9) (OpensC.cons (Opens.int Tryz.underlying3) (OpensC.cons (Opens.int Tryz.underlying3) (OpensC.cons (Opens.int Tryz.underlying3) (OpensC.cons (Opens.string Tryz.underlying9) (OpensC.cons (Opens.string Tryz.underlying9) (OpensC.one (Opens.int Tryz.underlying3)))))))) (fun x_ : S93 => (x_.f0, x_.f1, x_.f2, x_.f3, x_.f4, x_.f5, x_.f6)) (fun p_ => ⟨p_.1, p_.2.1, p_.2.2.1, p_.2.2.2.1, p_.2.2.2.2.1, p_.2.2.2.2.2.1, p_.2.2.2.2.2.2⟩) (fun _ => rfl)) (by kernel_rfl))))))))) (fun x_ : S26 => (x_.f0, x_.f1, x_.f2, x_.f3, x_.f4, x_.f5, x_.f6)) (fun p_ => ⟨p_.1, p_.2.1, p_.2.2.1, p_.2.2.2.1, p_.2.2.2.2.1, p_.2.2.2.2.2.1, p_.2.2.2.2.2.2⟩) (fun _ => rfl))
  exact @o
theorem o1 : Opens (bulk Tryz.prog) 27 (Kd.slice 44 k44) (fun x_ => (x_.length ≤ 1048576 ∧ ∀ y0_ ∈ x_, ((Lit.int .i64 y0_.f0).wf = true ∧ ((Lit.int .i64 y0_.f1).wf = true ∧ (y0_.f2.size ≤ 1048576 ∧ ((Lit.int .i64 y0_.f3).wf = true ∧ (y0_.f4.size ≤ 1048576 ∧ True))))))) := by
  have o : Opens (bulk Tryz.prog) 27 (Kd.slice 44 k44) _ := (Opens.slice (Z := bulk Tryz.prog) z44 Tryz.underlying27 (Opens.struct Tryz.underlying44 (by kernel_rfl) (by kernel_rfl) (OpensC.cons (Opens.int Tryz.underlying3) (OpensC.cons (Opens.int Tryz.underlying3) (OpensC.cons (Opens.string Tryz.underlying9) (OpensC.cons (Opens.int Tryz.underlying3) (OpensC.cons (Opens.string Tryz.underlying9) (OpensC.one (Opens.bool Tryz.underlying4))))))) (fun x_ : S44 => (x_.f0, x_.f1, x_.f2, x_.f3, x_.f4, x_.f5)) (fun p_ => ⟨p_.1, p_.2.1, p_.2.2.1, p_.2.2.2.1, p_.2.2.2.2.1, p_.2.2.2.2.2⟩) (fun _ => rfl)) (by kernel_rfl))
  exact @o
theorem o3 : Opens (bulk Tryz.prog) 9 Kd.string (fun x_ => x_.size ≤ 1048576) := by
  have o : Opens (bulk Tryz.prog) 9 Kd.string _ := (Opens.string (Z := bulk Tryz.prog) Tryz.underlying9)
  exact @o
theorem o4 : Opens (bulk Tryz.prog) 29 k29 (fun x_ => (True ∧ ((Lit.int .i64 x_.f1).wf = true ∧ ((Lit.int .i64 x_.f2).wf = true ∧ ((Lit.int .i64 x_.f3).wf = true ∧ x_.f4.size ≤ 1048576))))) := by
  have o : Opens (bulk Tryz.prog) 29 k29 _ := (Opens.struct (Z := bulk Tryz.prog) Tryz.underlying29 (by kernel_rfl) (by kernel_rfl) (OpensC.cons (Opens.bool Tryz.underlying4) (OpensC.cons (Opens.int Tryz.underlying3) (OpensC.cons (Opens.int Tryz.underlying3) (OpensC.cons (Opens.int Tryz.underlying3) (OpensC.one (Opens.string Tryz.underlying9)))))) (fun x_ : S29 => (x_.f0, x_.f1, x_.f2, x_.f3, x_.f4)) (fun p_ => ⟨p_.1, p_.2.1, p_.2.2.1, p_.2.2.2.1, p_.2.2.2.2⟩) (fun _ => rfl))
  exact @o
/-- a world for the witness: the listed tables hold what their initialisers lay. -/
noncomputable def laidWorld (os : Os) : World :=
  let w0 := World.holding Tryz.prog os ⟨#[], #[], []⟩
  let put (h : Array Obj) (g : Nat) (cs : Array Value) : Array Obj := h.modify g fun
    | .cells _ t frozen => .cells cs t frozen
    | o => o
  let h1 := put w0.heap 2 #[.int .u8 128, .int .u8 191, .int .u8 160, .int .u8 191, .int .u8 128, .int .u8 159, .int .u8 144, .int .u8 191, .int .u8 128, .int .u8 143, .int .u8 0, .int .u8 0, .int .u8 0, .int .u8 0, .int .u8 0, .int .u8 0, .int .u8 0, .int .u8 0, .int .u8 0, .int .u8 0, .int .u8 0, .int .u8 0, .int .u8 0, .int .u8 0, .int .u8 0, .int .u8 0, .int .u8 0, .int .u8 0, .int .u8 0, .int .u8 0, .int .u8 0, .int .u8 0]
  let h2 := put h1 1 (Go.Pinned.utf8FirstZ.map fun (z : Nat) => Value.int .u8 (z : Int)).toArray
  { w0 with heap := h2 }
set_option maxRecDepth 100000 in
theorem laid_met (os : Os) : laidMet Tryz.prog Rows.claimsUptoRow.laid ((laidWorld os).forCall (fun _ _ => 0) ⟨#[], #[.agg #[.int .i64 0, .int .i64 0, .slice none 0 0, .slice none 0 0, .int .i64 0, .string ByteArray.empty, .slice none 0 0], .slice none 0 0, .int .i64 0, .string ByteArray.empty, .agg #[.bool false, .int .i64 0, .int .i64 0, .int .i64 0, .string ByteArray.empty]], []⟩).memory :=
  laidMet_of_run' 8 (by kernel_rfl) (by kernel_rfl)
theorem reads (os : Os) {H : Type} (enc : TypeId × Value → H) : ∃ places, DataW.whole enc Tryz.prog ((laidWorld os).forCall (fun _ _ => 0) ⟨#[], #[.agg #[.int .i64 0, .int .i64 0, .slice none 0 0, .slice none 0 0, .int .i64 0, .string ByteArray.empty, .slice none 0 0], .slice none 0 0, .int .i64 0, .string ByteArray.empty, .agg #[.bool false, .int .i64 0, .int .i64 0, .int .i64 0, .string ByteArray.empty]], []⟩).memory Tryz.f3.params.toList Rows.claimsSpec.vars false #[.agg #[.int .i64 0, .int .i64 0, .slice none 0 0, .slice none 0 0, .int .i64 0, .string ByteArray.empty, .slice none 0 0], .slice none 0 0, .int .i64 0, .string ByteArray.empty, .agg #[.bool false, .int .i64 0, .int .i64 0, .int .i64 0, .string ByteArray.empty]].toList 8 = some ([.agg [.lit (.int .i64 0), .lit (.int .i64 0), .nil, .nil, .lit (.int .i64 0), .lit (.string []), .nil], .nil, .lit (.int .i64 0), .lit (.string []), .agg [.lit (.bool false), .lit (.int .i64 0), .lit (.int .i64 0), .lit (.int .i64 0), .lit (.string [])]], [], places) :=
  ⟨[], by kernel_rfl⟩
set_option maxRecDepth 100000 in
theorem lifted (os : Os) (started : os.Started) (H : Type) (enc : TypeId × Value → H) (F : Stop.Interp) :
    ReturnsInHanded {} Tryz.checked os 3 .any ((Rows.OpenSpec.upto Rows.claimsSpec).preRow enc Tryz.prog Tryz.f3 Rows.claimsUptoRow.domain false Rows.claimsUptoRow.laid) (((Rows.OpenSpec.upto Rows.claimsSpec).at F).post enc Tryz.prog Tryz.f3 false true false false) := by
  obtain ⟨places, hx⟩ := reads os enc
  refine returnsInHanded_of_row (C := Tryz.checked) (s := (Rows.OpenSpec.upto Rows.claimsSpec)) own started (by kernel_rfl) Tryz.func3
    (witness_row_at (enc := enc) (C := Tryz.checked) false (laidWorld os) #[.agg #[.int .i64 0, .int .i64 0, .slice none 0 0, .slice none 0 0, .int .i64 0, .string ByteArray.empty, .slice none 0 0], .slice none 0 0, .int .i64 0, .string ByteArray.empty, .agg #[.bool false, .int .i64 0, .int .i64 0, .int .i64 0, .string ByteArray.empty]] rfl (by kernel_rfl) (by kernel_rfl) (by kernel_rfl)
      (OpenSpec.preRow_of_cond 8 hx (by kernel_rfl) (fun k hk => by cases hk; kernel_rfl) (by kernel_rfl) (laid_met os))) ?_
  intro W base args ds gs before hval0 hW _ hk_ hsz0 _ _ _
  have hk0 : Rows.uptoSmall H (ds ++ gs) = true := hk_ _ rfl
  have hval : ∀ (j : Nat) t v, Tryz.f3.params[j]? = some t → args[j]? = some v → Value.okWide Tryz.prog W .any base t v := hval0
  have hW' := hW
  obtain ⟨p, q, hA0, hV, rfl, hfz, hnd⟩ := hW
  have hA : DataW.TrodAll enc Tryz.prog W 0 (fun _ => true) true Tryz.f3.params.toList args.toList ds p := hA0
  rw [Tryz.params3] at hA hval
  obtain ⟨v0, vs0, d0, ds0, p0, q0, hargs, rfl, rfl, h0, r0⟩ := trodAll_cons hA
  obtain ⟨v1, vs1, d1, ds1, p1, q1, rfl, rfl, rfl, h1, r1⟩ := trodAll_cons r0
  obtain ⟨v2, vs2, d2, ds2, p2, q2, rfl, rfl, rfl, h2, r2⟩ := trodAll_cons r1
  obtain ⟨v3, vs3, d3, ds3, p3, q3, rfl, rfl, rfl, h3, r3⟩ := trodAll_cons r2
  obtain ⟨v4, vs4, d4, ds4, p4, q4, rfl, rfl, rfl, h4, r4⟩ := trodAll_cons r3
  obtain ⟨rfl, rfl, rfl⟩ := trodAll_nil r4
  obtain rfl : args = #[v0, v1, v2, v3, v4] := by cases args; simp_all
  obtain ⟨rfl, rfl⟩ := trodVars_none hV
  have k0 := h0
  have lt0 : ∀ x ∈ p0, x.block < W.heap.size := by obtain ⟨m, hm⟩ := k0; exact DataW.trod_lt m _ _ _ hm
  obtain ⟨fu0, hf0⟩ := h0
  have fit0 := (bulk_of (P := Tryz.prog) hk0 (j := 0) (t := 26) rfl)
  obtain ⟨x0, hK0, hQ0⟩ := o0 hf0 fit0
  obtain ⟨cs0, rfl, hz0⟩ := okWide_struct Tryz.underlying26 (hval 0 26 v0 rfl rfl)
  obtain ⟨x0_0, x0_1, x0_2, x0_3, x0_4, x0_5, x0_6⟩ := x0
  obtain ⟨c0_0, t0_0, e0_0, k0_0, c0_1, t0_1, e0_1, k0_1, c0_2, t0_2, e0_2, k0_2, c0_3, t0_3, e0_3, k0_3, c0_4, t0_4, e0_4, k0_4, c0_5, t0_5, e0_5, k0_5, k0_6⟩ := hK0
  obtain rfl : c0_0 = [.int .i64 x0_0] := k0_0
  obtain rfl : c0_1 = [.int .i64 x0_1] := k0_1
  obtain ⟨A0_2, b0_2, rfl, hc0_2, hr0_2⟩ := k0_2
  obtain ⟨A0_3, b0_3, rfl, hc0_3, hr0_3⟩ := k0_3
  obtain rfl : c0_4 = [.int .i64 x0_4] := k0_4
  obtain rfl : c0_5 = [.string x0_5] := k0_5
  obtain ⟨A0_6, b0_6, rfl, hc0_6, hr0_6⟩ := k0_6
  subst e0_5
  subst e0_4
  subst e0_3
  subst e0_2
  subst e0_1
  have hcs0 : cs0 = #[.int .i64 x0_0, .int .i64 x0_1, .slice A0_2 x0_2.length b0_2, .slice A0_3 x0_3.length b0_3, .int .i64 x0_4, .string x0_5, .slice A0_6 x0_6.length b0_6] := Array.toList_inj.1 (by simpa [Value.cells] using e0_0)
  subst hcs0
  obtain ⟨q0_0, q0_1, q0_2, q0_3, q0_4, q0_5, q0_6⟩ := hQ0
  have k1 := h1
  have lt1 : ∀ x ∈ p1, x.block < W.heap.size := by obtain ⟨m, hm⟩ := k1; exact DataW.trod_lt m _ _ _ hm
  obtain ⟨fu1, hf1⟩ := h1
  have fit1 := (bulk_of (P := Tryz.prog) hk0 (j := 1) (t := 27) rfl)
  obtain ⟨x1, hK1, hQ1⟩ := o1 hf1 fit1
  obtain ⟨b1, len1, cap1, rfl⟩ := okWide_slice Tryz.underlying27 (hval 1 27 v1 rfl rfl)
  obtain ⟨A1, c1, hcs1, hc1, hr1⟩ := hK1
  have hcs1' : b1 = A1 ∧ len1 = x1.length ∧ cap1 = c1 := by simpa [Value.cells] using hcs1
  obtain ⟨rfl, rfl, rfl⟩ := hcs1'
  obtain ⟨a2, rfl, rfl, rfl, w2⟩ := open_int Tryz.underlying3 (hval 2 3 v2 rfl rfl) h2
  have k3 := h3
  have lt3 : ∀ x ∈ p3, x.block < W.heap.size := by obtain ⟨m, hm⟩ := k3; exact DataW.trod_lt m _ _ _ hm
  obtain ⟨fu3, hf3⟩ := h3
  have fit3 := (bulk_of (P := Tryz.prog) hk0 (j := 3) (t := 9) rfl)
  obtain ⟨x3, hK3, hQ3⟩ := o3 hf3 fit3
  obtain ⟨s3, rfl⟩ := okWide_string Tryz.underlying9 (hval 3 9 v3 rfl rfl)
  obtain rfl : s3 = x3 := by simpa [Value.cells, Kd.string, Kd.scalar] using hK3
  have k4 := h4
  have lt4 : ∀ x ∈ p4, x.block < W.heap.size := by obtain ⟨m, hm⟩ := k4; exact DataW.trod_lt m _ _ _ hm
  obtain ⟨fu4, hf4⟩ := h4
  have fit4 := (bulk_of (P := Tryz.prog) hk0 (j := 4) (t := 29) rfl)
  obtain ⟨x4, hK4, hQ4⟩ := o4 hf4 fit4
  obtain ⟨cs4, rfl, hz4⟩ := okWide_struct Tryz.underlying29 (hval 4 29 v4 rfl rfl)
  obtain ⟨x4_0, x4_1, x4_2, x4_3, x4_4⟩ := x4
  obtain ⟨c4_0, t4_0, e4_0, k4_0, c4_1, t4_1, e4_1, k4_1, c4_2, t4_2, e4_2, k4_2, c4_3, t4_3, e4_3, k4_3, k4_4⟩ := hK4
  obtain rfl : c4_0 = [.bool x4_0] := k4_0
  obtain rfl : c4_1 = [.int .i64 x4_1] := k4_1
  obtain rfl : c4_2 = [.int .i64 x4_2] := k4_2
  obtain rfl : c4_3 = [.int .i64 x4_3] := k4_3
  obtain rfl : t4_3 = [.string x4_4] := k4_4
  subst e4_3
  subst e4_2
  subst e4_1
  have hcs4 : cs4 = #[.bool x4_0, .int .i64 x4_1, .int .i64 x4_2, .int .i64 x4_3, .string x4_4] := Array.toList_inj.1 (by simpa [Value.cells] using e4_0)
  subst hcs4
  obtain ⟨q4_0, q4_1, q4_2, q4_3, q4_4⟩ := hQ4
  refine (PL.pinfoldlaw17_Claims.walk Pure.Claims x0_0 x0_1 _ _ x0_2 _ _ x0_3 x0_4 x0_5 _ _ x0_6 _ _ x1 a2 s3 x4_0 x4_1 x4_2 x4_3 x4_4 W hr0_2 hc0_2 hr0_3 hc0_3 hr0_6 hc0_6 hr1 hc1 q0_0 q0_1 q0_2 q0_3 q0_4 q0_5 q0_6 hQ1 w2 hQ3 q4_1 q4_2 q4_3 q4_4).mono fun e W' ⟨he, bel⟩ => ?_
  subst he
  exact ⟨_, rfl, _, _, _, [], _, [], hW', trodAll_mk1 (shut_bool Tryz.underlying4 _), (trodAll_cons_mk (Below.trod laidOut (by kernel_rfl) (of_decide_eq_true (by kernel_rfl)) k0 bel lt0) (trodAll_cons_mk (Below.trod laidOut (by kernel_rfl) (of_decide_eq_true (by kernel_rfl)) k1 bel lt1) (trodAll_cons_mk (shut_int Tryz.underlying3 w2) (trodAll_cons_mk (Below.trod laidOut (by kernel_rfl) (of_decide_eq_true (by kernel_rfl)) k3 bel lt3) (trodAll_cons_mk (Below.trod laidOut (by kernel_rfl) (of_decide_eq_true (by kernel_rfl)) k4 bel lt4) trodAll_mk0))))), rfl, bel.frame _, fun h => by cases h⟩
theorem over : Rows.ClaimsUptoSaid :=
  OpenClaim.holds_of_cond 3 Tryz.f3 rfl rfl rfl rfl rfl rfl rfl ⟨rfl, rfl, rfl, rfl, rfl⟩ rfl rfl rfl rfl rfl (by kernel_rfl) Tryz.func3 (by kernel_rfl)
    (of_decide_eq_true (by kernel_rfl)) (by unfold Func.isWrapper; first | (rw [if_pos (by decide +kernel)]; kernel_rfl) | (rw [if_neg (by decide +kernel)]; exact ⟨rfl, rfl⟩))
    (fun os started H enc _ F => by rw [OpenClaim.pre_eq_preRow]; exact lifted os started H enc F)
theorem plain (f : FuncId) (fn : Func) (hf : Tryz.pinned.checked.prog.funcNamed "pinfold/pinfoldlaw17.Claims" = some f) (hfn : Tryz.pinned.checked.prog.funcs[f]? = some fn) :
    false = Tryz.pinned.checked.prog.looks [] ∧ ∀ (j : Nat) t, fn.params[j]? = some t → Tryz.pinned.checked.prog.wantsStandIn t = false := by
  obtain rfl : f = 3 := Option.some.inj ((show Tryz.prog.funcNamed "pinfold/pinfoldlaw17.Claims" = some 3 by kernel_rfl).symm.trans hf) |>.symm
  obtain rfl : fn = Tryz.f3 := (Option.some.inj (Tryz.func3.symm.trans hfn)).symm
  refine ⟨by kernel_rfl, fun j t ht => ?_⟩
  rw [Tryz.params3] at ht
  have hm := Array.mem_of_getElem? ht
  have hm2 : t = 26 ∨ t = 27 ∨ t = 3 ∨ t = 9 ∨ t = 29 := by simpa using hm
  rcases hm2 with rfl | rfl | rfl | rfl | rfl
  · exact (show Tryz.prog.wantsStandIn 26 = false by kernel_rfl)
  · exact (show Tryz.prog.wantsStandIn 27 = false by kernel_rfl)
  · exact (show Tryz.prog.wantsStandIn 3 = false by kernel_rfl)
  · exact (show Tryz.prog.wantsStandIn 9 = false by kernel_rfl)
  · exact (show Tryz.prog.wantsStandIn 29 = false by kernel_rfl)
theorem proved : Rows.ClaimsUptoCardSaid :=
  Claim7.holds_tied_plain_at .later [] _ _ _ _ over (fun _ h => by cases h) (by kernel_rfl) (fun _ h => by cases h) claimsUpto_row_tie rfl ⟨rfl, rfl⟩ (by kernel_rfl) rfl plain (by kernel_rfl)
end Go.Proofs.YtibalpbkmgegnaaGreatDoor.claims
namespace Go.Proofs.YtibalpbkmgegnaaGreatDoor
/-- The card, under a short name, for the claim. -/
theorem claims_holds : Rows.ClaimsUptoCardSaid := claims.proved
end Go.Proofs.YtibalpbkmgegnaaGreatDoor
