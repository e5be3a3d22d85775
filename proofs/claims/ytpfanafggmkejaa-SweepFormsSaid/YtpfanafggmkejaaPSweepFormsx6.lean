-- Made by wip/pr.py out of the translation (a turned copy of the kit's print; contracts by hand where said).
import Derived.Test.YtpfanafggmkejaaPSweepFormsx0
import Derived.Test.YtpfanafggmkejaaPSweepFormsx2
import Derived.Test.YtpfanafggmkejaaPSweepFormsx5
namespace Go.Proofs.Ytpfanafggmkejaa.PSweepForms
open Go.RowKit Go.Proofs.YtpfanafggmkejaaW.PrintWords Go.Proofs.YtpfanafggmkejaaW.PrintLast Go.Proofs.YtpfanafggmkejaaW.PrintMore
-- shrunk
abbrev am_ := @Aside0.mk
abbrev r1_ := @Kd.R_alloc
abbrev r2_ := @Kd.R_drewN
abbrev r3_ := @Kd.R_drew
abbrev p1_ := @pw_below_drewN
abbrev p2_ := @below_drew1
abbrev p3_ := @below_alloc
abbrev r4_ := @Kd.R_base
abbrev r5_ := @Kd.R_elder'
abbrev z0_ := @Addr.add_zero'
abbrev n1'_ := @Kd.N_alloc
abbrev n2'_ := @Kd.N_drewN
abbrev n3'_ := @Kd.N_drew
abbrev v1_ := @Kd.V_alloc
abbrev v2_ := @Kd.V_drewN
abbrev v3_ := @Kd.V_drew
attribute [local go_sem] max2_int min2_int max_two min_two max_three min_three max_four min_four   -- for this text's walks alone
set_option linter.unusedVariables false
set_option linter.unusedSimpArgs false

/-! ### pinfoldlaw19_SweepForms: function 9 -/
def pinfoldlaw19_SweepForms.f (k : Nat) (a0 : Int) (a1 : Int) : Option (Bool) := (pinfoldlaw19_awake.f k).bind fun t155 => (if t155 = true then ((some (([(⟨10, 2, (⟨#[109, 101]⟩ : ByteArray), 9, (⟨#[]⟩ : ByteArray), false⟩ : S23)] : List (S23)) : List (S23))).bind fun y156 => (if 0 < (y156.length : Int) then ((some (([(([(⟨0, 0, (⟨#[]⟩ : ByteArray), 0, (⟨#[]⟩ : ByteArray), false⟩ : S23)] : List (S23))), (([(⟨(rd_T23 y156 0).f0, (rd_T23 y156 0).f1, (rd_T23 y156 0).f2, (rd_T23 y156 0).f3, (rd_T23 y156 0).f4, (rd_T23 y156 0).f5⟩ : S23), (⟨(rd_T23 y156 0).f0, (rd_T23 y156 0).f1, (rd_T23 y156 0).f2, (rd_T23 y156 0).f3, (rd_T23 y156 0).f4, (rd_T23 y156 0).f5⟩ : S23)] : List (S23))), (([(⟨10, 1, (⟨#[]⟩ : ByteArray), 0, (⟨#[]⟩ : ByteArray), false⟩ : S23)] : List (S23)))] : List (List (S23))) : List (List (S23)))).bind fun y170 => (if 0 ≤ (wrap64 (Int.tmod (IntKind.u64.wrap (a0)) 3)) then (if (wrap64 (Int.tmod (IntKind.u64.wrap (a0)) 3)) < (y170.length : Int) then ((sweep_Sweep.f k (rd_L4 y170 (wrap64 (Int.tmod (IntKind.u64.wrap (a0)) 3))) 0).bind fun bt174 => ((sweep_Sweep.f k y156 (wrap64 (-(wrap64 (1 + (Go.bits .and .i64 a1 1023)))))).bind fun bt178 => ((sweep_Sweep.f k y156 (wrap64 (1099511627776 + (wrap64 (1 + (Go.bits .and .i64 a1 1023)))))).bind fun bt182 => ((sweep_Sweep.f k ([] : List (S23)) 1099511627776).bind fun bt186 => ((pinfoldlaw0_Num.f bt174.2).bind fun t190 => (if t190 = 1900 then ((pinfoldlaw0_Num.f bt178.2).bind fun t191 => (if t191 = 1900 then ((pinfoldlaw0_Num.f bt182.2).bind fun t192 => (if t192 = 1900 then (if (bt186.1.length : Int) = 0 then ((pinfoldlaw0_Num.f bt186.2).bind fun t193 => (some (t193 == 0))) else (some false)) else (some false))) else (some false))) else (some false))))))) else (none)) else (none))) else (none))) else (some false))
theorem pinfoldlaw19_SweepForms.mono : ∀ a0 a1 k, LeO (pinfoldlaw19_SweepForms.f k a0 a1) (pinfoldlaw19_SweepForms.f (k + 1) a0 a1) := by
 intro a0 a1 k
 unfold pinfoldlaw19_SweepForms.f
 repeat' first
   | (with_reducible exact pinfoldlaw19_awake.mono _)
   | (with_reducible exact sweep_Sweep.mono _ _ _)
   | (with_reducible exact LeO.refl _)
   | (with_reducible exact LeO.none _)
   | (with_reducible refine LeO.ite ?_ ?_)
   | (with_reducible refine LeO.bind ?_ (fun _ => ?_))
   | exact pinfoldlaw19_awake.mono _
   | exact sweep_Sweep.mono _ _ _
   | exact LeO.none _
   | refine LeO.ite ?_ ?_
   | refine LeO.bind ?_ (fun _ => ?_)
def pinfoldlaw19_SweepForms.T5 : Bool × List (List Nat × List Nat) := (true, [([], []), ([0], [0]), ([], []), ([2], [2]), ([3], [3]), ([], []), ([5], [5]), ([6], [6]), ([4, 7], [4, 7]), ([], []), ([9], [9]), ([1, 8, 10], [1, 8, 10]), ([11, 0, 1, 2, 3, 4, 5, 6, 7, 8, 9, 10, 11], [11])])
def pinfoldlaw19_SweepForms.B5 : List Nat := [0, 1, 0, 4, 12, 0, 32, 96, 252, 0, 512, 2047, 4095]
theorem pinfoldlaw19_SweepForms.tab5 : rtab .any (opsOf Try.f9 5) = pinfoldlaw19_SweepForms.T5 := by kernel_rfl
theorem pinfoldlaw19_SweepForms.bits5 : waitsOk pinfoldlaw19_SweepForms.T5.2 pinfoldlaw19_SweepForms.B5 = true := by kernel_rfl
set_option maxHeartbeats 8000000 in
set_option maxRecDepth 100000 in
theorem pinfoldlaw19_SweepForms.calls (k : Nat) (a0 : Int) (a1 : Int) (r : Bool) (w : World) (h : pinfoldlaw19_SweepForms.f k a0 a1 = some r) :
  Calls Try.prog 9 #[.int .i64 a0, .int .i64 a1] w fun e w' => e = .returned (.bool r) ∧ Below w.heap.size w w' := by
 have hu23 := Try.underlying23
 have HB := am_ (Below.refl w.heap.size w)
 have H : ((pinfoldlaw19_awake.f k).bind fun t155 => (if t155 = true then ((some (([(⟨10, 2, (⟨#[109, 101]⟩ : ByteArray), 9, (⟨#[]⟩ : ByteArray), false⟩ : S23)] : List (S23)) : List (S23))).bind fun y156 => (if 0 < (y156.length : Int) then ((some (([(([(⟨0, 0, (⟨#[]⟩ : ByteArray), 0, (⟨#[]⟩ : ByteArray), false⟩ : S23)] : List (S23))), (([(⟨(rd_T23 y156 0).f0, (rd_T23 y156 0).f1, (rd_T23 y156 0).f2, (rd_T23 y156 0).f3, (rd_T23 y156 0).f4, (rd_T23 y156 0).f5⟩ : S23), (⟨(rd_T23 y156 0).f0, (rd_T23 y156 0).f1, (rd_T23 y156 0).f2, (rd_T23 y156 0).f3, (rd_T23 y156 0).f4, (rd_T23 y156 0).f5⟩ : S23)] : List (S23))), (([(⟨10, 1, (⟨#[]⟩ : ByteArray), 0, (⟨#[]⟩ : ByteArray), false⟩ : S23)] : List (S23)))] : List (List (S23))) : List (List (S23)))).bind fun y170 => (if 0 ≤ (wrap64 (Int.tmod (IntKind.u64.wrap (a0)) 3)) then (if (wrap64 (Int.tmod (IntKind.u64.wrap (a0)) 3)) < (y170.length : Int) then ((sweep_Sweep.f k (rd_L4 y170 (wrap64 (Int.tmod (IntKind.u64.wrap (a0)) 3))) 0).bind fun bt174 => ((sweep_Sweep.f k y156 (wrap64 (-(wrap64 (1 + (Go.bits .and .i64 a1 1023)))))).bind fun bt178 => ((sweep_Sweep.f k y156 (wrap64 (1099511627776 + (wrap64 (1 + (Go.bits .and .i64 a1 1023)))))).bind fun bt182 => ((sweep_Sweep.f k ([] : List (S23)) 1099511627776).bind fun bt186 => ((pinfoldlaw0_Num.f bt174.2).bind fun t190 => (if t190 = 1900 then ((pinfoldlaw0_Num.f bt178.2).bind fun t191 => (if t191 = 1900 then ((pinfoldlaw0_Num.f bt182.2).bind fun t192 => (if t192 = 1900 then (if (bt186.1.length : Int) = 0 then ((pinfoldlaw0_Num.f bt186.2).bind fun t193 => (some (t193 == 0))) else (some false)) else (some false))) else (some false))) else (some false))))))) else (none)) else (none))) else (none))) else (some false))) = some r := h
 clear h
 replace H := Option.bind_eq_some_iff.mp H
 obtain ⟨t155, A30, H⟩ := H
 replace H : (if t155 = true then ((some (([(⟨10, 2, (⟨#[109, 101]⟩ : ByteArray), 9, (⟨#[]⟩ : ByteArray), false⟩ : S23)] : List (S23)) : List (S23))).bind fun y156 => (if 0 < (y156.length : Int) then ((some (([(([(⟨0, 0, (⟨#[]⟩ : ByteArray), 0, (⟨#[]⟩ : ByteArray), false⟩ : S23)] : List (S23))), (([(⟨(rd_T23 y156 0).f0, (rd_T23 y156 0).f1, (rd_T23 y156 0).f2, (rd_T23 y156 0).f3, (rd_T23 y156 0).f4, (rd_T23 y156 0).f5⟩ : S23), (⟨(rd_T23 y156 0).f0, (rd_T23 y156 0).f1, (rd_T23 y156 0).f2, (rd_T23 y156 0).f3, (rd_T23 y156 0).f4, (rd_T23 y156 0).f5⟩ : S23)] : List (S23))), (([(⟨10, 1, (⟨#[]⟩ : ByteArray), 0, (⟨#[]⟩ : ByteArray), false⟩ : S23)] : List (S23)))] : List (List (S23))) : List (List (S23)))).bind fun y170 => (if 0 ≤ (wrap64 (Int.tmod (IntKind.u64.wrap (a0)) 3)) then (if (wrap64 (Int.tmod (IntKind.u64.wrap (a0)) 3)) < (y170.length : Int) then ((sweep_Sweep.f k (rd_L4 y170 (wrap64 (Int.tmod (IntKind.u64.wrap (a0)) 3))) 0).bind fun bt174 => ((sweep_Sweep.f k y156 (wrap64 (-(wrap64 (1 + (Go.bits .and .i64 a1 1023)))))).bind fun bt178 => ((sweep_Sweep.f k y156 (wrap64 (1099511627776 + (wrap64 (1 + (Go.bits .and .i64 a1 1023)))))).bind fun bt182 => ((sweep_Sweep.f k ([] : List (S23)) 1099511627776).bind fun bt186 => ((pinfoldlaw0_Num.f bt174.2).bind fun t190 => (if t190 = 1900 then ((pinfoldlaw0_Num.f bt178.2).bind fun t191 => (if t191 = 1900 then ((pinfoldlaw0_Num.f bt182.2).bind fun t192 => (if t192 = 1900 then (if (bt186.1.length : Int) = 0 then ((pinfoldlaw0_Num.f bt186.2).bind fun t193 => (some (t193 == 0))) else (some false)) else (some false))) else (some false))) else (some false))))))) else (none)) else (none))) else (none))) else (some false)) = some r := H
 have A3 := am_ A30
 clear A30
 by_cases c4 : t155 = true
 ·subst c4
  have H1 : ((some (([(⟨10, 2, (⟨#[109, 101]⟩ : ByteArray), 9, (⟨#[]⟩ : ByteArray), false⟩ : S23)] : List (S23)) : List (S23))).bind fun y156 => (if 0 < (y156.length : Int) then ((some (([(([(⟨0, 0, (⟨#[]⟩ : ByteArray), 0, (⟨#[]⟩ : ByteArray), false⟩ : S23)] : List (S23))), (([(⟨(rd_T23 y156 0).f0, (rd_T23 y156 0).f1, (rd_T23 y156 0).f2, (rd_T23 y156 0).f3, (rd_T23 y156 0).f4, (rd_T23 y156 0).f5⟩ : S23), (⟨(rd_T23 y156 0).f0, (rd_T23 y156 0).f1, (rd_T23 y156 0).f2, (rd_T23 y156 0).f3, (rd_T23 y156 0).f4, (rd_T23 y156 0).f5⟩ : S23)] : List (S23))), (([(⟨10, 1, (⟨#[]⟩ : ByteArray), 0, (⟨#[]⟩ : ByteArray), false⟩ : S23)] : List (S23)))] : List (List (S23))) : List (List (S23)))).bind fun y170 => (if 0 ≤ (wrap64 (Int.tmod (IntKind.u64.wrap (a0)) 3)) then (if (wrap64 (Int.tmod (IntKind.u64.wrap (a0)) 3)) < (y170.length : Int) then ((sweep_Sweep.f k (rd_L4 y170 (wrap64 (Int.tmod (IntKind.u64.wrap (a0)) 3))) 0).bind fun bt174 => ((sweep_Sweep.f k y156 (wrap64 (-(wrap64 (1 + (Go.bits .and .i64 a1 1023)))))).bind fun bt178 => ((sweep_Sweep.f k y156 (wrap64 (1099511627776 + (wrap64 (1 + (Go.bits .and .i64 a1 1023)))))).bind fun bt182 => ((sweep_Sweep.f k ([] : List (S23)) 1099511627776).bind fun bt186 => ((pinfoldlaw0_Num.f bt174.2).bind fun t190 => (if t190 = 1900 then ((pinfoldlaw0_Num.f bt178.2).bind fun t191 => (if t191 = 1900 then ((pinfoldlaw0_Num.f bt182.2).bind fun t192 => (if t192 = 1900 then (if (bt186.1.length : Int) = 0 then ((pinfoldlaw0_Num.f bt186.2).bind fun t193 => (some (t193 == 0))) else (some false)) else (some false))) else (some false))) else (some false))))))) else (none)) else (none))) else (none))) = some r := by rw [if_pos rfl] at H; exact H
  clear H
  have H := H1
  clear H1
  obtain ⟨y156, hy156⟩ : ∃ y_ : List (S23), y_ = (([(⟨10, 2, (⟨#[109, 101]⟩ : ByteArray), 9, (⟨#[]⟩ : ByteArray), false⟩ : S23)] : List (S23))) := ⟨_, rfl⟩
  replace H : (if 0 < (y156.length : Int) then ((some (([(([(⟨0, 0, (⟨#[]⟩ : ByteArray), 0, (⟨#[]⟩ : ByteArray), false⟩ : S23)] : List (S23))), (([(⟨(rd_T23 y156 0).f0, (rd_T23 y156 0).f1, (rd_T23 y156 0).f2, (rd_T23 y156 0).f3, (rd_T23 y156 0).f4, (rd_T23 y156 0).f5⟩ : S23), (⟨(rd_T23 y156 0).f0, (rd_T23 y156 0).f1, (rd_T23 y156 0).f2, (rd_T23 y156 0).f3, (rd_T23 y156 0).f4, (rd_T23 y156 0).f5⟩ : S23)] : List (S23))), (([(⟨10, 1, (⟨#[]⟩ : ByteArray), 0, (⟨#[]⟩ : ByteArray), false⟩ : S23)] : List (S23)))] : List (List (S23))) : List (List (S23)))).bind fun y170 => (if 0 ≤ (wrap64 (Int.tmod (IntKind.u64.wrap (a0)) 3)) then (if (wrap64 (Int.tmod (IntKind.u64.wrap (a0)) 3)) < (y170.length : Int) then ((sweep_Sweep.f k (rd_L4 y170 (wrap64 (Int.tmod (IntKind.u64.wrap (a0)) 3))) 0).bind fun bt174 => ((sweep_Sweep.f k y156 (wrap64 (-(wrap64 (1 + (Go.bits .and .i64 a1 1023)))))).bind fun bt178 => ((sweep_Sweep.f k y156 (wrap64 (1099511627776 + (wrap64 (1 + (Go.bits .and .i64 a1 1023)))))).bind fun bt182 => ((sweep_Sweep.f k ([] : List (S23)) 1099511627776).bind fun bt186 => ((pinfoldlaw0_Num.f bt174.2).bind fun t190 => (if t190 = 1900 then ((pinfoldlaw0_Num.f bt178.2).bind fun t191 => (if t191 = 1900 then ((pinfoldlaw0_Num.f bt182.2).bind fun t192 => (if t192 = 1900 then (if (bt186.1.length : Int) = 0 then ((pinfoldlaw0_Num.f bt186.2).bind fun t193 => (some (t193 == 0))) else (some false)) else (some false))) else (some false))) else (some false))))))) else (none)) else (none))) else (none)) = some r := by first | (rw [hy156]; with_reducible exact H) | (have H2_ := (Option.bind_some _ _).symm.trans H; rw [hy156]; with_reducible exact H2_) | (have H2_ := (Option.bind_some _ _).symm.trans H; with_reducible exact H2_) | with_reducible exact H | (rw [hy156]; exact H) | exact H
  have Ny156 := am_ hy156
  clear hy156
  obtain ⟨y159, hy159⟩ : ∃ y_ : List (S23), y_ = (([(⟨0, 0, (⟨#[]⟩ : ByteArray), 0, (⟨#[]⟩ : ByteArray), false⟩ : S23)] : List (S23))) := ⟨_, rfl⟩
  replace H : (if 0 < (y156.length : Int) then ((some (([y159, (([(⟨(rd_T23 y156 0).f0, (rd_T23 y156 0).f1, (rd_T23 y156 0).f2, (rd_T23 y156 0).f3, (rd_T23 y156 0).f4, (rd_T23 y156 0).f5⟩ : S23), (⟨(rd_T23 y156 0).f0, (rd_T23 y156 0).f1, (rd_T23 y156 0).f2, (rd_T23 y156 0).f3, (rd_T23 y156 0).f4, (rd_T23 y156 0).f5⟩ : S23)] : List (S23))), (([(⟨10, 1, (⟨#[]⟩ : ByteArray), 0, (⟨#[]⟩ : ByteArray), false⟩ : S23)] : List (S23)))] : List (List (S23))) : List (List (S23)))).bind fun y170 => (if 0 ≤ (wrap64 (Int.tmod (IntKind.u64.wrap (a0)) 3)) then (if (wrap64 (Int.tmod (IntKind.u64.wrap (a0)) 3)) < (y170.length : Int) then ((sweep_Sweep.f k (rd_L4 y170 (wrap64 (Int.tmod (IntKind.u64.wrap (a0)) 3))) 0).bind fun bt174 => ((sweep_Sweep.f k y156 (wrap64 (-(wrap64 (1 + (Go.bits .and .i64 a1 1023)))))).bind fun bt178 => ((sweep_Sweep.f k y156 (wrap64 (1099511627776 + (wrap64 (1 + (Go.bits .and .i64 a1 1023)))))).bind fun bt182 => ((sweep_Sweep.f k ([] : List (S23)) 1099511627776).bind fun bt186 => ((pinfoldlaw0_Num.f bt174.2).bind fun t190 => (if t190 = 1900 then ((pinfoldlaw0_Num.f bt178.2).bind fun t191 => (if t191 = 1900 then ((pinfoldlaw0_Num.f bt182.2).bind fun t192 => (if t192 = 1900 then (if (bt186.1.length : Int) = 0 then ((pinfoldlaw0_Num.f bt186.2).bind fun t193 => (some (t193 == 0))) else (some false)) else (some false))) else (some false))) else (some false))))))) else (none)) else (none))) else (none)) = some r := by first | (rw [hy159]; with_reducible exact H) | (have H2_ := (Option.bind_some _ _).symm.trans H; rw [hy159]; with_reducible exact H2_) | (have H2_ := (Option.bind_some _ _).symm.trans H; with_reducible exact H2_) | with_reducible exact H | (rw [hy159]; exact H) | exact H
  have Ny159 := am_ hy159
  clear hy159
  by_cases c5 : 0 < (y156.length : Int)
  rotate_left
  ·rw [if_neg c5] at H
   exact absurd H (by simp)
  rw [if_pos c5] at H
  have c5b0 : decide (0 < (y156.length : Int)) = true := decide_eq_true c5
  have c5b1 : decide (0 < y156.length) = true := decide_eq_true (by omega)
  clear c5
  obtain ⟨y164, hy164⟩ : ∃ y_ : List (S23), y_ = (([(⟨(rd_T23 y156 0).f0, (rd_T23 y156 0).f1, (rd_T23 y156 0).f2, (rd_T23 y156 0).f3, (rd_T23 y156 0).f4, (rd_T23 y156 0).f5⟩ : S23), (⟨(rd_T23 y156 0).f0, (rd_T23 y156 0).f1, (rd_T23 y156 0).f2, (rd_T23 y156 0).f3, (rd_T23 y156 0).f4, (rd_T23 y156 0).f5⟩ : S23)] : List (S23))) := ⟨_, rfl⟩
  replace H : ((some (([y159, y164, (([(⟨10, 1, (⟨#[]⟩ : ByteArray), 0, (⟨#[]⟩ : ByteArray), false⟩ : S23)] : List (S23)))] : List (List (S23))) : List (List (S23)))).bind fun y170 => (if 0 ≤ (wrap64 (Int.tmod (IntKind.u64.wrap (a0)) 3)) then (if (wrap64 (Int.tmod (IntKind.u64.wrap (a0)) 3)) < (y170.length : Int) then ((sweep_Sweep.f k (rd_L4 y170 (wrap64 (Int.tmod (IntKind.u64.wrap (a0)) 3))) 0).bind fun bt174 => ((sweep_Sweep.f k y156 (wrap64 (-(wrap64 (1 + (Go.bits .and .i64 a1 1023)))))).bind fun bt178 => ((sweep_Sweep.f k y156 (wrap64 (1099511627776 + (wrap64 (1 + (Go.bits .and .i64 a1 1023)))))).bind fun bt182 => ((sweep_Sweep.f k ([] : List (S23)) 1099511627776).bind fun bt186 => ((pinfoldlaw0_Num.f bt174.2).bind fun t190 => (if t190 = 1900 then ((pinfoldlaw0_Num.f bt178.2).bind fun t191 => (if t191 = 1900 then ((pinfoldlaw0_Num.f bt182.2).bind fun t192 => (if t192 = 1900 then (if (bt186.1.length : Int) = 0 then ((pinfoldlaw0_Num.f bt186.2).bind fun t193 => (some (t193 == 0))) else (some false)) else (some false))) else (some false))) else (some false))))))) else (none)) else (none))) = some r := by first | (rw [hy164]; with_reducible exact H) | (have H2_ := (Option.bind_some _ _).symm.trans H; rw [hy164]; with_reducible exact H2_) | (have H2_ := (Option.bind_some _ _).symm.trans H; with_reducible exact H2_) | with_reducible exact H | (rw [hy164]; exact H) | exact H
  have Ny164 := am_ hy164
  clear hy164
  obtain ⟨y167, hy167⟩ : ∃ y_ : List (S23), y_ = (([(⟨10, 1, (⟨#[]⟩ : ByteArray), 0, (⟨#[]⟩ : ByteArray), false⟩ : S23)] : List (S23))) := ⟨_, rfl⟩
  replace H : ((some (([y159, y164, y167] : List (List (S23))) : List (List (S23)))).bind fun y170 => (if 0 ≤ (wrap64 (Int.tmod (IntKind.u64.wrap (a0)) 3)) then (if (wrap64 (Int.tmod (IntKind.u64.wrap (a0)) 3)) < (y170.length : Int) then ((sweep_Sweep.f k (rd_L4 y170 (wrap64 (Int.tmod (IntKind.u64.wrap (a0)) 3))) 0).bind fun bt174 => ((sweep_Sweep.f k y156 (wrap64 (-(wrap64 (1 + (Go.bits .and .i64 a1 1023)))))).bind fun bt178 => ((sweep_Sweep.f k y156 (wrap64 (1099511627776 + (wrap64 (1 + (Go.bits .and .i64 a1 1023)))))).bind fun bt182 => ((sweep_Sweep.f k ([] : List (S23)) 1099511627776).bind fun bt186 => ((pinfoldlaw0_Num.f bt174.2).bind fun t190 => (if t190 = 1900 then ((pinfoldlaw0_Num.f bt178.2).bind fun t191 => (if t191 = 1900 then ((pinfoldlaw0_Num.f bt182.2).bind fun t192 => (if t192 = 1900 then (if (bt186.1.length : Int) = 0 then ((pinfoldlaw0_Num.f bt186.2).bind fun t193 => (some (t193 == 0))) else (some false)) else (some false))) else (some false))) else (some false))))))) else (none)) else (none))) = some r := by first | (rw [hy167]; with_reducible exact H) | (have H2_ := (Option.bind_some _ _).symm.trans H; rw [hy167]; with_reducible exact H2_) | (have H2_ := (Option.bind_some _ _).symm.trans H; with_reducible exact H2_) | with_reducible exact H | (rw [hy167]; exact H) | exact H
  have Ny167 := am_ hy167
  clear hy167
  obtain ⟨y170, hy170⟩ : ∃ y_ : List (List (S23)), y_ = (([y159, y164, y167] : List (List (S23)))) := ⟨_, rfl⟩
  replace H : (if 0 ≤ (wrap64 (Int.tmod (IntKind.u64.wrap (a0)) 3)) then (if (wrap64 (Int.tmod (IntKind.u64.wrap (a0)) 3)) < (y170.length : Int) then ((sweep_Sweep.f k (rd_L4 y170 (wrap64 (Int.tmod (IntKind.u64.wrap (a0)) 3))) 0).bind fun bt174 => ((sweep_Sweep.f k y156 (wrap64 (-(wrap64 (1 + (Go.bits .and .i64 a1 1023)))))).bind fun bt178 => ((sweep_Sweep.f k y156 (wrap64 (1099511627776 + (wrap64 (1 + (Go.bits .and .i64 a1 1023)))))).bind fun bt182 => ((sweep_Sweep.f k ([] : List (S23)) 1099511627776).bind fun bt186 => ((pinfoldlaw0_Num.f bt174.2).bind fun t190 => (if t190 = 1900 then ((pinfoldlaw0_Num.f bt178.2).bind fun t191 => (if t191 = 1900 then ((pinfoldlaw0_Num.f bt182.2).bind fun t192 => (if t192 = 1900 then (if (bt186.1.length : Int) = 0 then ((pinfoldlaw0_Num.f bt186.2).bind fun t193 => (some (t193 == 0))) else (some false)) else (some false))) else (some false))) else (some false))))))) else (none)) else (none)) = some r := by first | (rw [hy170]; with_reducible exact H) | (have H2_ := (Option.bind_some _ _).symm.trans H; rw [hy170]; with_reducible exact H2_) | (have H2_ := (Option.bind_some _ _).symm.trans H; with_reducible exact H2_) | with_reducible exact H | (rw [hy170]; exact H) | exact H
  have Ny170 := am_ hy170
  clear hy170
  obtain ⟨ji6, hji6⟩ : ∃ j_ : Int, (wrap64 (Int.tmod (IntKind.u64.wrap (a0)) 3)) = j_ := ⟨_, rfl⟩
  replace H : (if 0 ≤ (ji6) then (if (ji6) < (y170.length : Int) then ((sweep_Sweep.f k (rd_L4 y170 (ji6)) 0).bind fun bt174 => ((sweep_Sweep.f k y156 (wrap64 (-(wrap64 (1 + (Go.bits .and .i64 a1 1023)))))).bind fun bt178 => ((sweep_Sweep.f k y156 (wrap64 (1099511627776 + (wrap64 (1 + (Go.bits .and .i64 a1 1023)))))).bind fun bt182 => ((sweep_Sweep.f k ([] : List (S23)) 1099511627776).bind fun bt186 => ((pinfoldlaw0_Num.f bt174.2).bind fun t190 => (if t190 = 1900 then ((pinfoldlaw0_Num.f bt178.2).bind fun t191 => (if t191 = 1900 then ((pinfoldlaw0_Num.f bt182.2).bind fun t192 => (if t192 = 1900 then (if (bt186.1.length : Int) = 0 then ((pinfoldlaw0_Num.f bt186.2).bind fun t193 => (some (t193 == 0))) else (some false)) else (some false))) else (some false))) else (some false))))))) else (none)) else (none)) = some r := by first | (rw [hji6] at H; exact H) | (simp only [hji6] at H ⊢; exact H)
  (try rw [hji6] at A3)
  have hji6w : (IntKind.i64.wrap (Int.tmod (IntKind.u64.wrap (a0)) 3)) = ji6 := (i64_w _).trans hji6
  by_cases c7 : 0 ≤ (ji6)
  rotate_left
  ·rw [if_neg c7] at H
   exact absurd H (by simp)
  rw [if_pos c7] at H
  have c7b0 : decide (0 ≤ (ji6)) = true := decide_eq_true c7
  clear c7
  by_cases c8 : (ji6) < (y170.length : Int)
  rotate_left
  ·rw [if_neg c8] at H
   exact absurd H (by simp)
  rw [if_pos c8] at H
  have c8b0 : decide ((ji6) < (y170.length : Int)) = true := decide_eq_true c8
  clear c8
  replace H := Option.bind_eq_some_iff.mp H
  obtain ⟨⟨t174, t175⟩, A90, H⟩ := H
  replace H : ((sweep_Sweep.f k y156 (wrap64 (-(wrap64 (1 + (Go.bits .and .i64 a1 1023)))))).bind fun bt178 => ((sweep_Sweep.f k y156 (wrap64 (1099511627776 + (wrap64 (1 + (Go.bits .and .i64 a1 1023)))))).bind fun bt182 => ((sweep_Sweep.f k ([] : List (S23)) 1099511627776).bind fun bt186 => ((pinfoldlaw0_Num.f t175).bind fun t190 => (if t190 = 1900 then ((pinfoldlaw0_Num.f bt178.2).bind fun t191 => (if t191 = 1900 then ((pinfoldlaw0_Num.f bt182.2).bind fun t192 => (if t192 = 1900 then (if (bt186.1.length : Int) = 0 then ((pinfoldlaw0_Num.f bt186.2).bind fun t193 => (some (t193 == 0))) else (some false)) else (some false))) else (some false))) else (some false)))))) = some r := H
  have A9 := am_ A90
  clear A90
  replace H := Option.bind_eq_some_iff.mp H
  obtain ⟨⟨t178, t179⟩, A100, H⟩ := H
  replace H : ((sweep_Sweep.f k y156 (wrap64 (1099511627776 + (wrap64 (1 + (Go.bits .and .i64 a1 1023)))))).bind fun bt182 => ((sweep_Sweep.f k ([] : List (S23)) 1099511627776).bind fun bt186 => ((pinfoldlaw0_Num.f t175).bind fun t190 => (if t190 = 1900 then ((pinfoldlaw0_Num.f t179).bind fun t191 => (if t191 = 1900 then ((pinfoldlaw0_Num.f bt182.2).bind fun t192 => (if t192 = 1900 then (if (bt186.1.length : Int) = 0 then ((pinfoldlaw0_Num.f bt186.2).bind fun t193 => (some (t193 == 0))) else (some false)) else (some false))) else (some false))) else (some false))))) = some r := H
  have A10 := am_ A100
  clear A100
  replace H := Option.bind_eq_some_iff.mp H
  obtain ⟨⟨t182, t183⟩, A110, H⟩ := H
  replace H : ((sweep_Sweep.f k ([] : List (S23)) 1099511627776).bind fun bt186 => ((pinfoldlaw0_Num.f t175).bind fun t190 => (if t190 = 1900 then ((pinfoldlaw0_Num.f t179).bind fun t191 => (if t191 = 1900 then ((pinfoldlaw0_Num.f t183).bind fun t192 => (if t192 = 1900 then (if (bt186.1.length : Int) = 0 then ((pinfoldlaw0_Num.f bt186.2).bind fun t193 => (some (t193 == 0))) else (some false)) else (some false))) else (some false))) else (some false)))) = some r := H
  have A11 := am_ A110
  clear A110
  replace H := Option.bind_eq_some_iff.mp H
  obtain ⟨⟨t186, t187⟩, A120, H⟩ := H
  replace H : ((pinfoldlaw0_Num.f t175).bind fun t190 => (if t190 = 1900 then ((pinfoldlaw0_Num.f t179).bind fun t191 => (if t191 = 1900 then ((pinfoldlaw0_Num.f t183).bind fun t192 => (if t192 = 1900 then (if (t186.length : Int) = 0 then ((pinfoldlaw0_Num.f t187).bind fun t193 => (some (t193 == 0))) else (some false)) else (some false))) else (some false))) else (some false))) = some r := H
  have A12 := am_ A120
  clear A120
  replace H := Option.bind_eq_some_iff.mp H
  obtain ⟨t190, A130, H⟩ := H
  replace H : (if t190 = 1900 then ((pinfoldlaw0_Num.f t179).bind fun t191 => (if t191 = 1900 then ((pinfoldlaw0_Num.f t183).bind fun t192 => (if t192 = 1900 then (if (t186.length : Int) = 0 then ((pinfoldlaw0_Num.f t187).bind fun t193 => (some (t193 == 0))) else (some false)) else (some false))) else (some false))) else (some false)) = some r := H
  have A13 := am_ A130
  clear A130
  by_cases c14 : t190 = 1900
  ·rw [if_pos c14] at H
   have c14b0 : (t190 == 1900) = true := beq_iff_eq.mpr c14
   have c14b1 : (t190 != 1900) = false := bne_eq_false_iff_eq.mpr c14
   clear c14
   replace H := Option.bind_eq_some_iff.mp H
   obtain ⟨t191, A150, H⟩ := H
   replace H : (if t191 = 1900 then ((pinfoldlaw0_Num.f t183).bind fun t192 => (if t192 = 1900 then (if (t186.length : Int) = 0 then ((pinfoldlaw0_Num.f t187).bind fun t193 => (some (t193 == 0))) else (some false)) else (some false))) else (some false)) = some r := H
   have A15 := am_ A150
   clear A150
   by_cases c16 : t191 = 1900
   ·rw [if_pos c16] at H
    have c16b0 : (t191 == 1900) = true := beq_iff_eq.mpr c16
    have c16b1 : (t191 != 1900) = false := bne_eq_false_iff_eq.mpr c16
    clear c16
    replace H := Option.bind_eq_some_iff.mp H
    obtain ⟨t192, A170, H⟩ := H
    replace H : (if t192 = 1900 then (if (t186.length : Int) = 0 then ((pinfoldlaw0_Num.f t187).bind fun t193 => (some (t193 == 0))) else (some false)) else (some false)) = some r := H
    have A17 := am_ A170
    clear A170
    by_cases c18 : t192 = 1900
    ·rw [if_pos c18] at H
     have c18b0 : (t192 == 1900) = true := beq_iff_eq.mpr c18
     have c18b1 : (t192 != 1900) = false := bne_eq_false_iff_eq.mpr c18
     clear c18
     by_cases c19 : (t186.length : Int) = 0
     ·rw [if_pos c19] at H
      have c19b0 : ((t186.length : Int) == 0) = true := beq_iff_eq.mpr c19
      have c19b1 : ((t186.length : Int) != 0) = false := bne_eq_false_iff_eq.mpr c19
      clear c19
      replace H := Option.bind_eq_some_iff.mp H
      obtain ⟨t193, A200, H⟩ := H
      replace H : (some (t193 == 0)) = some r := H
      have A20 := am_ A200
      clear A200
      obtain rfl := Option.some.inj H
      go_enter Try.func9, Try.ntmps9
      try go_wp2_with (first | ((with_reducible refine gate_callee (f := 27) rfl ?_); refine goesL_ (some 16) rfl rfl Try.func27 (by kernel_rfl) rfl #[] rfl (by (try simp only [List.map_toArray, List.map_cons, List.map_nil]); first | done | rfl | (simp only [List.length_drop, List.length_take]; rfl)) ?_; (with_reducible refine (pinfoldlaw19_awake.calls k  true _ A3.out).mono ?_); rintro e w21 ⟨rfl, hb⟩; refine ⟨_, rfl, ?_⟩; have n0_ := am_ (below_step (by repeat (with_reducible first | exact HB.out | apply p3_ | apply p1_ | apply p2_)) hb); clear HB; have HB := n0_; clear n0_; (try clear hb)) | ((with_reducible refine gate_dst (N := 22) rfl ?_); (try (refine gate_guard (by rfl) ?_; dsimp only)); refine Kd.R_lit k23 _ 23 ?hg (N := 22) ?hd (xs := ([(⟨10, 2, (⟨#[109, 101]⟩ : ByteArray), 9, (⟨#[]⟩ : ByteArray), false⟩ : S23)] : List (S23))) (inner := [.int .i64 10, .int .i64 2, .string (⟨#[109, 101]⟩ : ByteArray), .int .i64 9, .string (⟨#[]⟩ : ByteArray), .bool false]) (ok := fun _ => True) (okp := fun _ => True) ?hr ?hp (fun _ hk => hk) trivial (Below.refl _ _) (Nat.le_refl _) (by simp) ?_; (case hd => rfl); (case hg => rfl); (case hr => first | (go_simp; done) | (go_simp; rfl)); (case hp => exact (Reps.c6 (show Kd.M k23 _ _ _ (⟨10, 2, (⟨#[109, 101]⟩ : ByteArray), 9, (⟨#[]⟩ : ByteArray), false⟩ : S23) [.int .i64 10, .int .i64 2, .string (⟨#[109, 101]⟩ : ByteArray), .int .i64 9, .string (⟨#[]⟩ : ByteArray), .bool false] from (k23_mkM _ _ _ (⟨10, 2, (⟨#[109, 101]⟩ : ByteArray), 9, (⟨#[]⟩ : ByteArray), false⟩ : S23) )) (Reps.none _ _))); intro v157 w22 ho23 hb hg_ hnew_; clear hg_ hnew_; (first | rw [← Ny156.out] at ho23 | (simp only [Int.reduceToNat] at ho23; rw [← Ny156.out] at ho23)); have n0_ := am_ (Kd.R_lower ho23 (below_size (by repeat (with_reducible first | exact HB.out | apply p3_ | apply p1_ | apply p2_)))); have n1_ := am_ (below_step (by repeat (with_reducible first | exact HB.out | apply p3_ | apply p1_ | apply p2_)) hb); clear HB; have HO158 := n0_; have HB := n1_; clear n0_ n1_; clear hb ho23))
      have n0_ := am_ (r3_ HO158.out)
      have n1_ := am_ (p2_ HB.out)
      clear HO158
      clear HB
      have HO158 := n0_
      have HB := n1_
      clear n0_ n1_
      obtain ⟨Ao25, co25, eo25⟩ := Kd.R_slice HO158.out
      (first | subst eo25 | (injection eo25 with f1_ f2_ f3_; have f4_ := f1_.symm; have f5_ := f3_.symm; clear f1_ f2_ f3_; subst f4_; subst f5_))
      have p162 : 0 ≤ (0 : Int) := (by omega)
      have q162 : 0 < (y156.length : Int) := of_decide_eq_true (by first | (with_reducible assumption) | assumption)
      obtain ⟨ad162, e162, hx162_0, hx162_1, hx162_2, hx162_3, hx162_4, hx162_5⟩ := at_T23 (Kd.R_reads' HO158.out).2.2 0 p162 q162
      cases e162
      have qi162 : (0 < y156.length) = True := eq_true (by omega)
      (try rw [show ((0 : Int)).toNat = 0 from rfl] at hx162_0)
      (try rw [show 0 * 6 = 0 from rfl] at hx162_0)
      (try rw [z0_] at hx162_0)
      (try rw [show ((0 : Int)).toNat = 0 from rfl] at hx162_1)
      (try rw [show 0 * 6 = 0 from rfl] at hx162_1)
      (try rw [z0_] at hx162_1)
      (try rw [show ((0 : Int)).toNat = 0 from rfl] at hx162_2)
      (try rw [show 0 * 6 = 0 from rfl] at hx162_2)
      (try rw [z0_] at hx162_2)
      (try rw [show ((0 : Int)).toNat = 0 from rfl] at hx162_3)
      (try rw [show 0 * 6 = 0 from rfl] at hx162_3)
      (try rw [z0_] at hx162_3)
      (try rw [show ((0 : Int)).toNat = 0 from rfl] at hx162_4)
      (try rw [show 0 * 6 = 0 from rfl] at hx162_4)
      (try rw [z0_] at hx162_4)
      (try rw [show ((0 : Int)).toNat = 0 from rfl] at hx162_5)
      (try rw [show 0 * 6 = 0 from rfl] at hx162_5)
      (try rw [z0_] at hx162_5)
      replace p162 := eq_true p162
      replace q162 := eq_true q162
      have p163 : 0 ≤ (0 : Int) := (by omega)
      have q163 : 0 < (y156.length : Int) := of_decide_eq_true (by first | (with_reducible assumption) | assumption)
      obtain ⟨ad163, e163, hx163_0, hx163_1, hx163_2, hx163_3, hx163_4, hx163_5⟩ := at_T23 (Kd.R_reads' HO158.out).2.2 0 p163 q163
      obtain rfl : ad162 = ad163 := (by injection e163)
      have qi163 : (0 < y156.length) = True := eq_true (by omega)
      (try rw [show ((0 : Int)).toNat = 0 from rfl] at hx163_0)
      (try rw [show 0 * 6 = 0 from rfl] at hx163_0)
      (try rw [z0_] at hx163_0)
      (try rw [show ((0 : Int)).toNat = 0 from rfl] at hx163_1)
      (try rw [show 0 * 6 = 0 from rfl] at hx163_1)
      (try rw [z0_] at hx163_1)
      (try rw [show ((0 : Int)).toNat = 0 from rfl] at hx163_2)
      (try rw [show 0 * 6 = 0 from rfl] at hx163_2)
      (try rw [z0_] at hx163_2)
      (try rw [show ((0 : Int)).toNat = 0 from rfl] at hx163_3)
      (try rw [show 0 * 6 = 0 from rfl] at hx163_3)
      (try rw [z0_] at hx163_3)
      (try rw [show ((0 : Int)).toNat = 0 from rfl] at hx163_4)
      (try rw [show 0 * 6 = 0 from rfl] at hx163_4)
      (try rw [z0_] at hx163_4)
      (try rw [show ((0 : Int)).toNat = 0 from rfl] at hx163_5)
      (try rw [show 0 * 6 = 0 from rfl] at hx163_5)
      (try rw [z0_] at hx163_5)
      replace p163 := eq_true p163
      replace q163 := eq_true q163
      refine start_ (n := 13) (S := fun w' => True) (ds := []) #[false, false, false, false, false, false, false, false, false, false, false, false, false] (by kernel_rfl) rfl rfl trivial (fun hHeld => ?_); refine with_tabW pinfoldlaw19_SweepForms.tab5 pinfoldlaw19_SweepForms.bits5 (fun HT_ HW_ => ?_)
      generalize w22.drew = w24 at HO158 HB hx162_0 hx162_1 hx162_2 hx162_3 hx162_4 hx162_5 hx163_0 hx163_1 hx163_2 hx163_3 hx163_4 hx163_5 hHeld ⊢
      refine pure_ (i := 2) (N := some 25) (v := ?_) (a' := ?_) #[false, false, true, false, false, false, false, false, false, false, false, false, false] rfl rfl (any_of HT_.out (by kernel_rfl)) (fun _ _ _ h => h) (Or.inl ⟨by rfl, ?_⟩) ?_ ?_
      rotate_left
      ·intro w'
       go_simp
       with_reducible rfl
      rotate_left
      ·simp only [Act.put, List.setIfInBounds_toArray, List.set_cons_zero, List.set_cons_succ, i64_w, i32_w]
       rfl
      refine pure_ (i := 5) (N := some 28) (v := ?_) (a' := ?_) #[false, false, true, false, false, true, false, false, false, false, false, false, false] rfl rfl (any_of HT_.out (by kernel_rfl)) (fun _ _ _ h => h) (Or.inl ⟨by rfl, ?_⟩) ?_ ?_
      rotate_left
      ·intro w'
       go_simp
       with_reducible rfl
      rotate_left
      ·simp only [Act.put, List.setIfInBounds_toArray, List.set_cons_zero, List.set_cons_succ, i64_w, i32_w]
       rfl
      refine inv_at [0, 1, 3, 4, 6, 7, 8, 9, 10, 11, 12] (fun a0_ b a w' => ∃ (v160 : Value) (v165 : Value) (v168 : Value) (v171 : Value) (m12_ : Value), a = putSel a0_ b [(0, 23, .agg #[.int .i64 0, .int .i64 0, .string (⟨#[]⟩ : ByteArray), .int .i64 0, .string (⟨#[]⟩ : ByteArray), .bool false]), (1, 24, v160), (3, 26, .pointer (some ad162)), (4, 27, .agg #[.int .i64 ((rd_T23 y156 0).f0), .int .i64 ((rd_T23 y156 0).f1), .string ((rd_T23 y156 0).f2), .int .i64 ((rd_T23 y156 0).f3), .string ((rd_T23 y156 0).f4), .bool ((rd_T23 y156 0).f5)]), (6, 29, .pointer (some ad162)), (7, 30, .agg #[.int .i64 ((rd_T23 y156 0).f0), .int .i64 ((rd_T23 y156 0).f1), .string ((rd_T23 y156 0).f2), .int .i64 ((rd_T23 y156 0).f3), .string ((rd_T23 y156 0).f4), .bool ((rd_T23 y156 0).f5)]), (8, 31, v165), (9, 32, .agg #[.int .i64 10, .int .i64 1, .string (⟨#[]⟩ : ByteArray), .int .i64 0, .string (⟨#[]⟩ : ByteArray), .bool false]), (10, 33, v168), (11, 34, v171), (12, 7, m12_)] ∧ (Kd.R k23 23 w' w.heap.size (fun _ => True) (.slice (some ad162) y156.length co25) y156) ∧ (Below w.heap.size w w') ∧ (b 1 = true → b 11 = false → Kd.R k23 23 w' w.heap.size (fun k_ => some k_ ≠ (.slice (some ad162) y156.length co25 : Value).ownBlock) v160 y159) ∧ (b 8 = true → b 11 = false → Kd.R k23 23 w' w.heap.size (fun k_ => some k_ ≠ (.slice (some ad162) y156.length co25 : Value).ownBlock) v165 y164) ∧ (b 10 = true → b 11 = false → Kd.R k23 23 w' w.heap.size (fun k_ => some k_ ≠ (.slice (some ad162) y156.length co25 : Value).ownBlock) v168 y167) ∧ (b 11 = true → Kd.N (Kd.slice 23 k23) 33 w' w.heap.size (fun k_ => some k_ ≠ (.slice (some ad162) y156.length co25 : Value).ownBlock) v171 y170) ∧ (b 12 = true → (m12_ : Value) = v171)) HT_.out HW_.out (by kernel_rfl) (by kernel_rfl) ?_ ?_ ?_
      ·exact ⟨.bool false, .bool false, .bool false, .bool false, .bool false, by simp only [putSel, Bool.false_eq_true, if_false], HO158.out, HB.out, fun h_ => absurd h_ (by decide), fun h_ => absurd h_ (by decide), fun h_ => absurd h_ (by decide), fun h_ => absurd h_ (by decide), fun h_ => absurd h_ (by decide)⟩
      ·skip
       clear HB HO158
       refine steps_cons ?_ ?_
       ·rintro b a w' ⟨v160, v165, v168, v171, m12_, ha, Q_HO158, Q_HB, Q_HO161, Q_HO166, Q_HO169, Q_HO172, Q_X12_⟩ hb_ hon hoff
        refine ⟨_, rfl, fun K hK => ?_⟩
        replace ha := am_ ha
        have HO158 := am_ Q_HO158
        have HB := am_ Q_HB
        refine value_ (w1 := w') (v := .agg #[.int .i64 0, .int .i64 0, .string (⟨#[]⟩ : ByteArray), .int .i64 0, .string (⟨#[]⟩ : ByteArray), .bool false]) (by rfl) rfl ?_ ?_
        ·go_simp
         (try simp only [i64_w])
         try rfl
        refine hK.out _ _ ⟨v160, v165, v168, v171, m12_, (by rw [ha.out]; exact putSel_upk 0 hb_ rfl rfl rfl), Q_HO158, Q_HB, fun h0_ _ => absurd ((hoff 1 (by kernel_rfl)).symm.trans h0_) (by decide), Q_HO166, Q_HO169, fun h0_ => absurd ((hoff 11 (by kernel_rfl)).symm.trans h0_) (by decide), fun h0_ => absurd ((hoff 12 (by kernel_rfl)).symm.trans h0_) (by decide)⟩
       refine steps_cons ?_ ?_
       ·rintro b a w' ⟨v160, v165, v168, v171, m12_, ha, Q_HO158, Q_HB, Q_HO161, Q_HO166, Q_HO169, Q_HO172, Q_X12_⟩ hb_ hon hoff
        refine ⟨_, rfl, fun K hK => ?_⟩
        have e23 : a.tmps[23]? = some (.agg #[.int .i64 0, .int .i64 0, .string (⟨#[]⟩ : ByteArray), .int .i64 0, .string (⟨#[]⟩ : ByteArray), .bool false]) := by rw [ha]; exact putSel_on (e := (0, 23, .agg #[.int .i64 0, .int .i64 0, .string (⟨#[]⟩ : ByteArray), .int .i64 0, .string (⟨#[]⟩ : ByteArray), .bool false])) 0 rfl rfl (hon 0 (by kernel_rfl)) rfl
        replace ha := am_ ha
        have HO158 := am_ Q_HO158
        have HB := am_ Q_HB
        refine Kd.R_lit_step k23 _ 23 ?hg (N := 24) ?hd (xs := ([(⟨0, 0, (⟨#[]⟩ : ByteArray), 0, (⟨#[]⟩ : ByteArray), false⟩ : S23)] : List (S23))) (inner := [.int .i64 0, .int .i64 0, .string (⟨#[]⟩ : ByteArray), .int .i64 0, .string (⟨#[]⟩ : ByteArray), .bool false]) (ok := fun _ => True) (okp := fun _ => True) ?hr ?hp (fun _ hk => hk) trivial (Below.refl _ _) (Nat.le_refl _) (by simp) ?_; (case hd => rfl); (case hg => rfl); (case hr => first | (go_simp; done) | (go_simp; rfl)); (case hp => exact (Reps.c6 (show Kd.M k23 _ _ _ (⟨0, 0, (⟨#[]⟩ : ByteArray), 0, (⟨#[]⟩ : ByteArray), false⟩ : S23) [.int .i64 0, .int .i64 0, .string (⟨#[]⟩ : ByteArray), .int .i64 0, .string (⟨#[]⟩ : ByteArray), .bool false] from (k23_mkM _ _ _ (⟨0, 0, (⟨#[]⟩ : ByteArray), 0, (⟨#[]⟩ : ByteArray), false⟩ : S23) )) (Reps.none _ _)))
        intro v160 w26 ho27 hb hg_ hnew_
        clear hg_ hnew_
        (first | rw [← Ny159.out] at ho27 | (simp only [Int.reduceToNat] at ho27; rw [← Ny159.out] at ho27))
        have n0_ := am_ (r5_ (by (with_reducible repeat (first | apply r1_ | apply r2_ | apply r3_)); exact HO158.out) (r4_ ho27) hb)
        have n1_ := am_ (Kd.R_lower (Kd.R_new' ho27 (Kd.R_lt (by (with_reducible repeat (first | apply r1_ | apply r2_ | apply r3_)); exact HO158.out))) (below_size (by repeat (with_reducible first | exact HB.out | apply p3_ | apply p1_ | apply p2_))))
        have n2_ := am_ (below_step (by repeat (with_reducible first | exact HB.out | apply p3_ | apply p1_ | apply p2_)) hb)
        have z_HO166 := fun (h0_ : b 8 = true) (h1_ : b 11 = false) => (show Kd.R k23 23 w26 w.heap.size (fun k_ => some k_ ≠ (.slice (some ad162) y156.length co25 : Value).ownBlock) v165 y164 from by first | exact (r5_ (by (with_reducible repeat (first | apply r1_ | apply r2_ | apply r3_)); exact (Q_HO166 h0_ h1_)) (r4_ ho27) hb) | exact Kd.R_mono (r5_ (by (with_reducible repeat (first | apply r1_ | apply r2_ | apply r3_)); exact (Q_HO166 h0_ h1_)) (r4_ ho27) hb) (fun _ h_ => by first | trivial | exact h_ | exact h_.1))
        have z_HO169 := fun (h0_ : b 10 = true) (h1_ : b 11 = false) => (show Kd.R k23 23 w26 w.heap.size (fun k_ => some k_ ≠ (.slice (some ad162) y156.length co25 : Value).ownBlock) v168 y167 from by first | exact (r5_ (by (with_reducible repeat (first | apply r1_ | apply r2_ | apply r3_)); exact (Q_HO169 h0_ h1_)) (r4_ ho27) hb) | exact Kd.R_mono (r5_ (by (with_reducible repeat (first | apply r1_ | apply r2_ | apply r3_)); exact (Q_HO169 h0_ h1_)) (r4_ ho27) hb) (fun _ h_ => by first | trivial | exact h_ | exact h_.1))
        clear HO158
        clear HB
        have HO158 := n0_
        have HO161 := n1_
        have HB := n2_
        clear n0_ n1_ n2_
        clear hb ho27
        refine hK.out _ _ ⟨v160, v165, v168, v171, m12_, (by rw [ha.out]; exact putSel_upk 1 hb_ rfl rfl rfl), (by (with_reducible repeat (first | apply r1_ | apply r2_ | apply r3_)); exact Kd.R_mono HO158.out (fun _ hk => by first | trivial | exact hk.2)), (by repeat (with_reducible first | exact HB.out | apply p3_ | apply p1_ | apply p2_)), fun _ _ => (by (with_reducible repeat (first | apply r1_ | apply r2_ | apply r3_)); exact Kd.R_mono HO161.out (fun _ hk => by first | trivial | exact hk.2)), z_HO166, z_HO169, fun h0_ => absurd ((hoff 11 (by kernel_rfl)).symm.trans h0_) (by decide), fun h0_ => absurd ((hoff 12 (by kernel_rfl)).symm.trans h0_) (by decide)⟩
       refine steps_cons ?_ ?_
       ·rintro b a w' ⟨v160, v165, v168, v171, m12_, ha, Q_HO158, Q_HB, Q_HO161, Q_HO166, Q_HO169, Q_HO172, Q_X12_⟩ hb_ hon hoff
        refine ⟨_, rfl, fun K hK => ?_⟩
        have e25 : a.tmps[25]? = some (.slice (some ad162) y156.length co25) := by rw [ha]; exact (putSel_off rfl).trans rfl
        replace ha := am_ ha
        have HO158 := am_ Q_HO158
        have HB := am_ Q_HB
        refine value_ (w1 := w') (v := .pointer (some ad162)) (by rfl) rfl ?_ ?_
        ·go_simp
         (try simp only [i64_w])
         try rfl
        refine hK.out _ _ ⟨v160, v165, v168, v171, m12_, (by rw [ha.out]; exact putSel_upk 2 hb_ rfl rfl rfl), Q_HO158, Q_HB, Q_HO161, fun h0_ _ => absurd ((hoff 8 (by kernel_rfl)).symm.trans h0_) (by decide), Q_HO169, fun h0_ => absurd ((hoff 11 (by kernel_rfl)).symm.trans h0_) (by decide), fun h0_ => absurd ((hoff 12 (by kernel_rfl)).symm.trans h0_) (by decide)⟩
       refine steps_cons ?_ ?_
       ·rintro b a w' ⟨v160, v165, v168, v171, m12_, ha, Q_HO158, Q_HB, Q_HO161, Q_HO166, Q_HO169, Q_HO172, Q_X12_⟩ hb_ hon hoff
        refine ⟨_, rfl, fun K hK => ?_⟩
        have e26 : a.tmps[26]? = some (.pointer (some ad162)) := by rw [ha]; exact putSel_on (e := (3, 26, .pointer (some ad162))) 2 rfl rfl (hon 3 (by kernel_rfl)) rfl
        replace ha := am_ ha
        have HO158 := am_ Q_HO158
        have HB := am_ Q_HB
        obtain ⟨ad162_z, e162_z, hx162_0_z, hx162_1_z, hx162_2_z, hx162_3_z, hx162_4_z, hx162_5_z⟩ := at_T23 (Kd.R_reads' HO158.out).2.2 0 (of_eq_true p162) (of_eq_true q162)
        cases e162_z
        have hs0_ : w'.cell? ad162 = some (.int .i64 ((rd_T23 y156 0).f0)) := (by first | exact hx162_0_z | (have h_ := hx162_0_z; (try simp only [Int.reduceToNat, Nat.zero_mul, Nat.reduceMul, Nat.reduceEqDiff, Go.Addr.add, ↓reduceIte, z0_] at h_); exact h_))
        have hs1_ : w'.cell? ⟨ad162.block, ad162.off + 1, none⟩ = some (.int .i64 ((rd_T23 y156 0).f1)) := (by first | exact hx162_1_z | (have h_ := hx162_1_z; (try simp only [Int.reduceToNat, Nat.zero_mul, Nat.reduceMul, Nat.reduceEqDiff, Go.Addr.add, ↓reduceIte, z0_] at h_); exact h_))
        have hs2_ : w'.cell? ⟨ad162.block, ad162.off + 2, none⟩ = some (.string ((rd_T23 y156 0).f2)) := (by first | exact hx162_2_z | (have h_ := hx162_2_z; (try simp only [Int.reduceToNat, Nat.zero_mul, Nat.reduceMul, Nat.reduceEqDiff, Go.Addr.add, ↓reduceIte, z0_] at h_); exact h_))
        have hs3_ : w'.cell? ⟨ad162.block, ad162.off + 3, none⟩ = some (.int .i64 ((rd_T23 y156 0).f3)) := (by first | exact hx162_3_z | (have h_ := hx162_3_z; (try simp only [Int.reduceToNat, Nat.zero_mul, Nat.reduceMul, Nat.reduceEqDiff, Go.Addr.add, ↓reduceIte, z0_] at h_); exact h_))
        have hs4_ : w'.cell? ⟨ad162.block, ad162.off + 4, none⟩ = some (.string ((rd_T23 y156 0).f4)) := (by first | exact hx162_4_z | (have h_ := hx162_4_z; (try simp only [Int.reduceToNat, Nat.zero_mul, Nat.reduceMul, Nat.reduceEqDiff, Go.Addr.add, ↓reduceIte, z0_] at h_); exact h_))
        have hs5_ : w'.cell? ⟨ad162.block, ad162.off + 5, none⟩ = some (.bool ((rd_T23 y156 0).f5)) := (by first | exact hx162_5_z | (have h_ := hx162_5_z; (try simp only [Int.reduceToNat, Nat.zero_mul, Nat.reduceMul, Nat.reduceEqDiff, Go.Addr.add, ↓reduceIte, z0_] at h_); exact h_))
        refine value_ (w1 := w') (v := .agg #[.int .i64 ((rd_T23 y156 0).f0), .int .i64 ((rd_T23 y156 0).f1), .string ((rd_T23 y156 0).f2), .int .i64 ((rd_T23 y156 0).f3), .string ((rd_T23 y156 0).f4), .bool ((rd_T23 y156 0).f5)]) (by rfl) rfl ?_ ?_
        ·go_simp
         (try simp only [i64_w])
         try rfl
        refine hK.out _ _ ⟨v160, v165, v168, v171, m12_, (by rw [ha.out]; exact putSel_upk 3 hb_ rfl rfl rfl), Q_HO158, Q_HB, Q_HO161, fun h0_ _ => absurd ((hoff 8 (by kernel_rfl)).symm.trans h0_) (by decide), Q_HO169, fun h0_ => absurd ((hoff 11 (by kernel_rfl)).symm.trans h0_) (by decide), fun h0_ => absurd ((hoff 12 (by kernel_rfl)).symm.trans h0_) (by decide)⟩
       refine steps_cons ?_ ?_
       ·rintro b a w' ⟨v160, v165, v168, v171, m12_, ha, Q_HO158, Q_HB, Q_HO161, Q_HO166, Q_HO169, Q_HO172, Q_X12_⟩ hb_ hon hoff
        refine ⟨_, rfl, fun K hK => ?_⟩
        have e28 : a.tmps[28]? = some (.slice (some ad162) y156.length co25) := by rw [ha]; exact (putSel_off rfl).trans rfl
        replace ha := am_ ha
        have HO158 := am_ Q_HO158
        have HB := am_ Q_HB
        refine value_ (w1 := w') (v := .pointer (some ad162)) (by rfl) rfl ?_ ?_
        ·go_simp
         (try simp only [i64_w])
         try rfl
        refine hK.out _ _ ⟨v160, v165, v168, v171, m12_, (by rw [ha.out]; exact putSel_upk 4 hb_ rfl rfl rfl), Q_HO158, Q_HB, Q_HO161, fun h0_ _ => absurd ((hoff 8 (by kernel_rfl)).symm.trans h0_) (by decide), Q_HO169, fun h0_ => absurd ((hoff 11 (by kernel_rfl)).symm.trans h0_) (by decide), fun h0_ => absurd ((hoff 12 (by kernel_rfl)).symm.trans h0_) (by decide)⟩
       refine steps_cons ?_ ?_
       ·rintro b a w' ⟨v160, v165, v168, v171, m12_, ha, Q_HO158, Q_HB, Q_HO161, Q_HO166, Q_HO169, Q_HO172, Q_X12_⟩ hb_ hon hoff
        refine ⟨_, rfl, fun K hK => ?_⟩
        have e29 : a.tmps[29]? = some (.pointer (some ad162)) := by rw [ha]; exact putSel_on (e := (6, 29, .pointer (some ad162))) 4 rfl rfl (hon 6 (by kernel_rfl)) rfl
        replace ha := am_ ha
        have HO158 := am_ Q_HO158
        have HB := am_ Q_HB
        obtain ⟨ad163_z, e163_z, hx163_0_z, hx163_1_z, hx163_2_z, hx163_3_z, hx163_4_z, hx163_5_z⟩ := at_T23 (Kd.R_reads' HO158.out).2.2 0 (of_eq_true p163) (of_eq_true q163)
        cases e163_z
        have hs6_ : w'.cell? ad162 = some (.int .i64 ((rd_T23 y156 0).f0)) := (by first | exact hx163_0_z | (have h_ := hx163_0_z; (try simp only [Int.reduceToNat, Nat.zero_mul, Nat.reduceMul, Nat.reduceEqDiff, Go.Addr.add, ↓reduceIte, z0_] at h_); exact h_))
        have hs7_ : w'.cell? ⟨ad162.block, ad162.off + 1, none⟩ = some (.int .i64 ((rd_T23 y156 0).f1)) := (by first | exact hx163_1_z | (have h_ := hx163_1_z; (try simp only [Int.reduceToNat, Nat.zero_mul, Nat.reduceMul, Nat.reduceEqDiff, Go.Addr.add, ↓reduceIte, z0_] at h_); exact h_))
        have hs8_ : w'.cell? ⟨ad162.block, ad162.off + 2, none⟩ = some (.string ((rd_T23 y156 0).f2)) := (by first | exact hx163_2_z | (have h_ := hx163_2_z; (try simp only [Int.reduceToNat, Nat.zero_mul, Nat.reduceMul, Nat.reduceEqDiff, Go.Addr.add, ↓reduceIte, z0_] at h_); exact h_))
        have hs9_ : w'.cell? ⟨ad162.block, ad162.off + 3, none⟩ = some (.int .i64 ((rd_T23 y156 0).f3)) := (by first | exact hx163_3_z | (have h_ := hx163_3_z; (try simp only [Int.reduceToNat, Nat.zero_mul, Nat.reduceMul, Nat.reduceEqDiff, Go.Addr.add, ↓reduceIte, z0_] at h_); exact h_))
        have hs10_ : w'.cell? ⟨ad162.block, ad162.off + 4, none⟩ = some (.string ((rd_T23 y156 0).f4)) := (by first | exact hx163_4_z | (have h_ := hx163_4_z; (try simp only [Int.reduceToNat, Nat.zero_mul, Nat.reduceMul, Nat.reduceEqDiff, Go.Addr.add, ↓reduceIte, z0_] at h_); exact h_))
        have hs11_ : w'.cell? ⟨ad162.block, ad162.off + 5, none⟩ = some (.bool ((rd_T23 y156 0).f5)) := (by first | exact hx163_5_z | (have h_ := hx163_5_z; (try simp only [Int.reduceToNat, Nat.zero_mul, Nat.reduceMul, Nat.reduceEqDiff, Go.Addr.add, ↓reduceIte, z0_] at h_); exact h_))
        refine value_ (w1 := w') (v := .agg #[.int .i64 ((rd_T23 y156 0).f0), .int .i64 ((rd_T23 y156 0).f1), .string ((rd_T23 y156 0).f2), .int .i64 ((rd_T23 y156 0).f3), .string ((rd_T23 y156 0).f4), .bool ((rd_T23 y156 0).f5)]) (by rfl) rfl ?_ ?_
        ·go_simp
         (try simp only [i64_w])
         try rfl
        refine hK.out _ _ ⟨v160, v165, v168, v171, m12_, (by rw [ha.out]; exact putSel_upk 5 hb_ rfl rfl rfl), Q_HO158, Q_HB, Q_HO161, fun h0_ _ => absurd ((hoff 8 (by kernel_rfl)).symm.trans h0_) (by decide), Q_HO169, fun h0_ => absurd ((hoff 11 (by kernel_rfl)).symm.trans h0_) (by decide), fun h0_ => absurd ((hoff 12 (by kernel_rfl)).symm.trans h0_) (by decide)⟩
       refine steps_cons ?_ ?_
       ·rintro b a w' ⟨v160, v165, v168, v171, m12_, ha, Q_HO158, Q_HB, Q_HO161, Q_HO166, Q_HO169, Q_HO172, Q_X12_⟩ hb_ hon hoff
        refine ⟨_, rfl, fun K hK => ?_⟩
        have e27 : a.tmps[27]? = some (.agg #[.int .i64 ((rd_T23 y156 0).f0), .int .i64 ((rd_T23 y156 0).f1), .string ((rd_T23 y156 0).f2), .int .i64 ((rd_T23 y156 0).f3), .string ((rd_T23 y156 0).f4), .bool ((rd_T23 y156 0).f5)]) := by rw [ha]; exact putSel_on (e := (4, 27, .agg #[.int .i64 ((rd_T23 y156 0).f0), .int .i64 ((rd_T23 y156 0).f1), .string ((rd_T23 y156 0).f2), .int .i64 ((rd_T23 y156 0).f3), .string ((rd_T23 y156 0).f4), .bool ((rd_T23 y156 0).f5)])) 3 rfl rfl (hon 4 (by kernel_rfl)) rfl
        have e30 : a.tmps[30]? = some (.agg #[.int .i64 ((rd_T23 y156 0).f0), .int .i64 ((rd_T23 y156 0).f1), .string ((rd_T23 y156 0).f2), .int .i64 ((rd_T23 y156 0).f3), .string ((rd_T23 y156 0).f4), .bool ((rd_T23 y156 0).f5)]) := by rw [ha]; exact putSel_on (e := (7, 30, .agg #[.int .i64 ((rd_T23 y156 0).f0), .int .i64 ((rd_T23 y156 0).f1), .string ((rd_T23 y156 0).f2), .int .i64 ((rd_T23 y156 0).f3), .string ((rd_T23 y156 0).f4), .bool ((rd_T23 y156 0).f5)])) 5 rfl rfl (hon 7 (by kernel_rfl)) rfl
        replace ha := am_ ha
        have HO158 := am_ Q_HO158
        have HB := am_ Q_HB
        refine Kd.R_lit_step k23 _ 23 ?hg (N := 31) ?hd (xs := ([(⟨(rd_T23 y156 0).f0, (rd_T23 y156 0).f1, (rd_T23 y156 0).f2, (rd_T23 y156 0).f3, (rd_T23 y156 0).f4, (rd_T23 y156 0).f5⟩ : S23), (⟨(rd_T23 y156 0).f0, (rd_T23 y156 0).f1, (rd_T23 y156 0).f2, (rd_T23 y156 0).f3, (rd_T23 y156 0).f4, (rd_T23 y156 0).f5⟩ : S23)] : List (S23))) (inner := [.int .i64 ((rd_T23 y156 0).f0), .int .i64 ((rd_T23 y156 0).f1), .string ((rd_T23 y156 0).f2), .int .i64 ((rd_T23 y156 0).f3), .string ((rd_T23 y156 0).f4), .bool ((rd_T23 y156 0).f5), .int .i64 ((rd_T23 y156 0).f0), .int .i64 ((rd_T23 y156 0).f1), .string ((rd_T23 y156 0).f2), .int .i64 ((rd_T23 y156 0).f3), .string ((rd_T23 y156 0).f4), .bool ((rd_T23 y156 0).f5)]) (ok := fun _ => True) (okp := fun _ => True) ?hr ?hp (fun _ hk => hk) trivial (Below.refl _ _) (Nat.le_refl _) (by simp) ?_; (case hd => rfl); (case hg => rfl); (case hr => first | (go_simp; done) | (go_simp; rfl)); (case hp => exact (Reps.c6 (show Kd.M k23 _ _ _ (⟨(rd_T23 y156 0).f0, (rd_T23 y156 0).f1, (rd_T23 y156 0).f2, (rd_T23 y156 0).f3, (rd_T23 y156 0).f4, (rd_T23 y156 0).f5⟩ : S23) [.int .i64 ((rd_T23 y156 0).f0), .int .i64 ((rd_T23 y156 0).f1), .string ((rd_T23 y156 0).f2), .int .i64 ((rd_T23 y156 0).f3), .string ((rd_T23 y156 0).f4), .bool ((rd_T23 y156 0).f5)] from (k23_mkM _ _ _ (⟨(rd_T23 y156 0).f0, (rd_T23 y156 0).f1, (rd_T23 y156 0).f2, (rd_T23 y156 0).f3, (rd_T23 y156 0).f4, (rd_T23 y156 0).f5⟩ : S23) )) (Reps.c6 (show Kd.M k23 _ _ _ (⟨(rd_T23 y156 0).f0, (rd_T23 y156 0).f1, (rd_T23 y156 0).f2, (rd_T23 y156 0).f3, (rd_T23 y156 0).f4, (rd_T23 y156 0).f5⟩ : S23) [.int .i64 ((rd_T23 y156 0).f0), .int .i64 ((rd_T23 y156 0).f1), .string ((rd_T23 y156 0).f2), .int .i64 ((rd_T23 y156 0).f3), .string ((rd_T23 y156 0).f4), .bool ((rd_T23 y156 0).f5)] from (k23_mkM _ _ _ (⟨(rd_T23 y156 0).f0, (rd_T23 y156 0).f1, (rd_T23 y156 0).f2, (rd_T23 y156 0).f3, (rd_T23 y156 0).f4, (rd_T23 y156 0).f5⟩ : S23) )) (Reps.none _ _))))
        intro v165 w26 ho27 hb hg_ hnew_
        clear hg_ hnew_
        (first | rw [← Ny164.out] at ho27 | (simp only [Int.reduceToNat] at ho27; rw [← Ny164.out] at ho27))
        have n0_ := am_ (r5_ (by (with_reducible repeat (first | apply r1_ | apply r2_ | apply r3_)); exact HO158.out) (r4_ ho27) hb)
        have n1_ := am_ (Kd.R_lower (Kd.R_new' ho27 (Kd.R_lt (by (with_reducible repeat (first | apply r1_ | apply r2_ | apply r3_)); exact HO158.out))) (below_size (by repeat (with_reducible first | exact HB.out | apply p3_ | apply p1_ | apply p2_))))
        have n2_ := am_ (below_step (by repeat (with_reducible first | exact HB.out | apply p3_ | apply p1_ | apply p2_)) hb)
        have z_HO161 := fun (h0_ : b 1 = true) (h1_ : b 11 = false) => (show Kd.R k23 23 w26 w.heap.size (fun k_ => some k_ ≠ (.slice (some ad162) y156.length co25 : Value).ownBlock) v160 y159 from by first | exact (r5_ (by (with_reducible repeat (first | apply r1_ | apply r2_ | apply r3_)); exact (Q_HO161 h0_ h1_)) (r4_ ho27) hb) | exact Kd.R_mono (r5_ (by (with_reducible repeat (first | apply r1_ | apply r2_ | apply r3_)); exact (Q_HO161 h0_ h1_)) (r4_ ho27) hb) (fun _ h_ => by first | trivial | exact h_ | exact h_.1))
        have z_HO169 := fun (h0_ : b 10 = true) (h1_ : b 11 = false) => (show Kd.R k23 23 w26 w.heap.size (fun k_ => some k_ ≠ (.slice (some ad162) y156.length co25 : Value).ownBlock) v168 y167 from by first | exact (r5_ (by (with_reducible repeat (first | apply r1_ | apply r2_ | apply r3_)); exact (Q_HO169 h0_ h1_)) (r4_ ho27) hb) | exact Kd.R_mono (r5_ (by (with_reducible repeat (first | apply r1_ | apply r2_ | apply r3_)); exact (Q_HO169 h0_ h1_)) (r4_ ho27) hb) (fun _ h_ => by first | trivial | exact h_ | exact h_.1))
        clear HO158
        clear HB
        have HO158 := n0_
        have HO166 := n1_
        have HB := n2_
        clear n0_ n1_ n2_
        clear hb ho27
        refine hK.out _ _ ⟨v160, v165, v168, v171, m12_, (by rw [ha.out]; exact putSel_upk 6 hb_ rfl rfl rfl), (by (with_reducible repeat (first | apply r1_ | apply r2_ | apply r3_)); exact Kd.R_mono HO158.out (fun _ hk => by first | trivial | exact hk.2)), (by repeat (with_reducible first | exact HB.out | apply p3_ | apply p1_ | apply p2_)), z_HO161, fun _ _ => (by (with_reducible repeat (first | apply r1_ | apply r2_ | apply r3_)); exact Kd.R_mono HO166.out (fun _ hk => by first | trivial | exact hk.2)), z_HO169, fun h0_ => absurd ((hoff 11 (by kernel_rfl)).symm.trans h0_) (by decide), fun h0_ => absurd ((hoff 12 (by kernel_rfl)).symm.trans h0_) (by decide)⟩
       refine steps_cons ?_ ?_
       ·rintro b a w' ⟨v160, v165, v168, v171, m12_, ha, Q_HO158, Q_HB, Q_HO161, Q_HO166, Q_HO169, Q_HO172, Q_X12_⟩ hb_ hon hoff
        refine ⟨_, rfl, fun K hK => ?_⟩
        replace ha := am_ ha
        have HO158 := am_ Q_HO158
        have HB := am_ Q_HB
        refine value_ (w1 := w') (v := .agg #[.int .i64 10, .int .i64 1, .string (⟨#[]⟩ : ByteArray), .int .i64 0, .string (⟨#[]⟩ : ByteArray), .bool false]) (by rfl) rfl ?_ ?_
        ·go_simp
         (try simp only [i64_w])
         try rfl
        refine hK.out _ _ ⟨v160, v165, v168, v171, m12_, (by rw [ha.out]; exact putSel_upk 7 hb_ rfl rfl rfl), Q_HO158, Q_HB, Q_HO161, Q_HO166, fun h0_ _ => absurd ((hoff 10 (by kernel_rfl)).symm.trans h0_) (by decide), fun h0_ => absurd ((hoff 11 (by kernel_rfl)).symm.trans h0_) (by decide), fun h0_ => absurd ((hoff 12 (by kernel_rfl)).symm.trans h0_) (by decide)⟩
       refine steps_cons ?_ ?_
       ·rintro b a w' ⟨v160, v165, v168, v171, m12_, ha, Q_HO158, Q_HB, Q_HO161, Q_HO166, Q_HO169, Q_HO172, Q_X12_⟩ hb_ hon hoff
        refine ⟨_, rfl, fun K hK => ?_⟩
        have e32 : a.tmps[32]? = some (.agg #[.int .i64 10, .int .i64 1, .string (⟨#[]⟩ : ByteArray), .int .i64 0, .string (⟨#[]⟩ : ByteArray), .bool false]) := by rw [ha]; exact putSel_on (e := (9, 32, .agg #[.int .i64 10, .int .i64 1, .string (⟨#[]⟩ : ByteArray), .int .i64 0, .string (⟨#[]⟩ : ByteArray), .bool false])) 7 rfl rfl (hon 9 (by kernel_rfl)) rfl
        replace ha := am_ ha
        have HO158 := am_ Q_HO158
        have HB := am_ Q_HB
        refine Kd.R_lit_step k23 _ 23 ?hg (N := 33) ?hd (xs := ([(⟨10, 1, (⟨#[]⟩ : ByteArray), 0, (⟨#[]⟩ : ByteArray), false⟩ : S23)] : List (S23))) (inner := [.int .i64 10, .int .i64 1, .string (⟨#[]⟩ : ByteArray), .int .i64 0, .string (⟨#[]⟩ : ByteArray), .bool false]) (ok := fun _ => True) (okp := fun _ => True) ?hr ?hp (fun _ hk => hk) trivial (Below.refl _ _) (Nat.le_refl _) (by simp) ?_; (case hd => rfl); (case hg => rfl); (case hr => first | (go_simp; done) | (go_simp; rfl)); (case hp => exact (Reps.c6 (show Kd.M k23 _ _ _ (⟨10, 1, (⟨#[]⟩ : ByteArray), 0, (⟨#[]⟩ : ByteArray), false⟩ : S23) [.int .i64 10, .int .i64 1, .string (⟨#[]⟩ : ByteArray), .int .i64 0, .string (⟨#[]⟩ : ByteArray), .bool false] from (k23_mkM _ _ _ (⟨10, 1, (⟨#[]⟩ : ByteArray), 0, (⟨#[]⟩ : ByteArray), false⟩ : S23) )) (Reps.none _ _)))
        intro v168 w26 ho27 hb hg_ hnew_
        clear hg_ hnew_
        (first | rw [← Ny167.out] at ho27 | (simp only [Int.reduceToNat] at ho27; rw [← Ny167.out] at ho27))
        have n0_ := am_ (r5_ (by (with_reducible repeat (first | apply r1_ | apply r2_ | apply r3_)); exact HO158.out) (r4_ ho27) hb)
        have n1_ := am_ (Kd.R_lower (Kd.R_new' ho27 (Kd.R_lt (by (with_reducible repeat (first | apply r1_ | apply r2_ | apply r3_)); exact HO158.out))) (below_size (by repeat (with_reducible first | exact HB.out | apply p3_ | apply p1_ | apply p2_))))
        have n2_ := am_ (below_step (by repeat (with_reducible first | exact HB.out | apply p3_ | apply p1_ | apply p2_)) hb)
        have z_HO161 := fun (h0_ : b 1 = true) (h1_ : b 11 = false) => (show Kd.R k23 23 w26 w.heap.size (fun k_ => some k_ ≠ (.slice (some ad162) y156.length co25 : Value).ownBlock) v160 y159 from by first | exact (r5_ (by (with_reducible repeat (first | apply r1_ | apply r2_ | apply r3_)); exact (Q_HO161 h0_ h1_)) (r4_ ho27) hb) | exact Kd.R_mono (r5_ (by (with_reducible repeat (first | apply r1_ | apply r2_ | apply r3_)); exact (Q_HO161 h0_ h1_)) (r4_ ho27) hb) (fun _ h_ => by first | trivial | exact h_ | exact h_.1))
        have z_HO166 := fun (h0_ : b 8 = true) (h1_ : b 11 = false) => (show Kd.R k23 23 w26 w.heap.size (fun k_ => some k_ ≠ (.slice (some ad162) y156.length co25 : Value).ownBlock) v165 y164 from by first | exact (r5_ (by (with_reducible repeat (first | apply r1_ | apply r2_ | apply r3_)); exact (Q_HO166 h0_ h1_)) (r4_ ho27) hb) | exact Kd.R_mono (r5_ (by (with_reducible repeat (first | apply r1_ | apply r2_ | apply r3_)); exact (Q_HO166 h0_ h1_)) (r4_ ho27) hb) (fun _ h_ => by first | trivial | exact h_ | exact h_.1))
        clear HO158
        clear HB
        have HO158 := n0_
        have HO169 := n1_
        have HB := n2_
        clear n0_ n1_ n2_
        clear hb ho27
        refine hK.out _ _ ⟨v160, v165, v168, v171, m12_, (by rw [ha.out]; exact putSel_upk 8 hb_ rfl rfl rfl), (by (with_reducible repeat (first | apply r1_ | apply r2_ | apply r3_)); exact Kd.R_mono HO158.out (fun _ hk => by first | trivial | exact hk.2)), (by repeat (with_reducible first | exact HB.out | apply p3_ | apply p1_ | apply p2_)), z_HO161, z_HO166, fun _ _ => (by (with_reducible repeat (first | apply r1_ | apply r2_ | apply r3_)); exact Kd.R_mono HO169.out (fun _ hk => by first | trivial | exact hk.2)), fun h0_ => absurd ((hoff 11 (by kernel_rfl)).symm.trans h0_) (by decide), fun h0_ => absurd ((hoff 12 (by kernel_rfl)).symm.trans h0_) (by decide)⟩
       refine steps_cons ?_ ?_
       ·rintro b a w' ⟨v160, v165, v168, v171, m12_, ha, Q_HO158, Q_HB, Q_HO161, Q_HO166, Q_HO169, Q_HO172, Q_X12_⟩ hb_ hon hoff
        refine ⟨_, rfl, fun K hK => ?_⟩
        have e24 : a.tmps[24]? = some (v160) := by rw [ha]; exact putSel_on (e := (1, 24, v160)) 1 rfl rfl (hon 1 (by kernel_rfl)) rfl
        have e31 : a.tmps[31]? = some (v165) := by rw [ha]; exact putSel_on (e := (8, 31, v165)) 6 rfl rfl (hon 8 (by kernel_rfl)) rfl
        have e33 : a.tmps[33]? = some (v168) := by rw [ha]; exact putSel_on (e := (10, 33, v168)) 8 rfl rfl (hon 10 (by kernel_rfl)) rfl
        replace ha := am_ ha
        have HO158 := am_ Q_HO158
        have HB := am_ Q_HB
        have HO161 := am_ (Q_HO161 (hon 1 (by kernel_rfl)) hb_)
        have HO166 := am_ (Q_HO166 (hon 8 (by kernel_rfl)) hb_)
        have HO169 := am_ (Q_HO169 (hon 10 (by kernel_rfl)) hb_)
        obtain ⟨Ao33, co33, eo33⟩ := Kd.R_slice HO161.out
        (first | subst eo33 | (injection eo33 with f1_ f2_ f3_; have f4_ := f1_.symm; have f5_ := f3_.symm; clear f1_ f2_ f3_; subst f4_; subst f5_))
        obtain ⟨Ao34, co34, eo34⟩ := Kd.R_slice HO166.out
        (first | subst eo34 | (injection eo34 with f1_ f2_ f3_; have f4_ := f1_.symm; have f5_ := f3_.symm; clear f1_ f2_ f3_; subst f4_; subst f5_))
        obtain ⟨Ao35, co35, eo35⟩ := Kd.R_slice HO169.out
        (first | subst eo35 | (injection eo35 with f1_ f2_ f3_; have f4_ := f1_.symm; have f5_ := f3_.symm; clear f1_ f2_ f3_; subst f4_; subst f5_))
        refine Kd.N_lit_step (Kd.slice 23 k23) _ 33 ?hg (N' := 34) ?hd (xs := ([y159, y164, y167] : List (List (S23)))) (inner := [.slice Ao33 y159.length co33, .slice Ao34 y164.length co34, .slice Ao35 y167.length co35]) (ok := (fun k_ => some k_ ≠ (.slice (some ad162) y156.length co25 : Value).ownBlock)) (okp := (fun k_ => some k_ ≠ (.slice (some ad162) y156.length co25 : Value).ownBlock)) ?hr ?hp (fun _ hk => hk) ((show ∀ k_, w'.heap.size ≤ k_ → (fun k_ => some k_ ≠ (.slice (some ad162) y156.length co25 : Value).ownBlock) k_ from fun k_ hk => Kd.fresh' (Kd.R_lt (by (with_reducible repeat (first | apply r1_ | apply r2_ | apply r3_)); exact HO158.out)) k_ hk) _ (Nat.le_refl _)) (Below.refl _ _) (Nat.le_refl _) (by simp) ?_; (case hd => rfl); (case hg => rfl); (case hr => first | (go_simp; done) | (go_simp; rfl)); (case hp => exact (Reps.one (show Kd.FK (Kd.slice 23 k23) _ _ y159 [.slice Ao33 y159.length co33] from (Kd.FK_slice_mk (Kd.R_reads' (Kd.R_mono (ok' := (fun k_ => some k_ ≠ (.slice (some ad162) y156.length co25 : Value).ownBlock)) (HO161.out) (fun k_ hk => by first | exact hk | exact hk.1))).2.1 (Kd.R_F (Kd.R_mono (ok' := (fun k_ => some k_ ≠ (.slice (some ad162) y156.length co25 : Value).ownBlock)) (HO161.out) (fun k_ hk => by first | exact hk | exact hk.1))))) (Reps.one (show Kd.FK (Kd.slice 23 k23) _ _ y164 [.slice Ao34 y164.length co34] from (Kd.FK_slice_mk (Kd.R_reads' (Kd.R_mono (ok' := (fun k_ => some k_ ≠ (.slice (some ad162) y156.length co25 : Value).ownBlock)) (HO166.out) (fun k_ hk => by first | exact hk | exact hk.1))).2.1 (Kd.R_F (Kd.R_mono (ok' := (fun k_ => some k_ ≠ (.slice (some ad162) y156.length co25 : Value).ownBlock)) (HO166.out) (fun k_ hk => by first | exact hk | exact hk.1))))) (Reps.one (show Kd.FK (Kd.slice 23 k23) _ _ y167 [.slice Ao35 y167.length co35] from (Kd.FK_slice_mk (Kd.R_reads' (Kd.R_mono (ok' := (fun k_ => some k_ ≠ (.slice (some ad162) y156.length co25 : Value).ownBlock)) (HO169.out) (fun k_ hk => by first | exact hk | exact hk.1))).2.1 (Kd.R_F (Kd.R_mono (ok' := (fun k_ => some k_ ≠ (.slice (some ad162) y156.length co25 : Value).ownBlock)) (HO169.out) (fun k_ hk => by first | exact hk | exact hk.1))))) (Reps.none _ _)))))
        intro v171 w36 ho37 hb hg_ hnew_
        clear hg_ hnew_
        (first | rw [← Ny170.out] at ho37 | (simp only [Int.reduceToNat] at ho37; rw [← Ny170.out] at ho37))
        have n0_ := am_ (Kd.R_below (by (with_reducible repeat (first | apply r1_ | apply r2_ | apply r3_)); exact HO158.out) hb)
        have n1_ := am_ (Kd.N_lower ho37 (below_size (by repeat (with_reducible first | exact HB.out | apply p3_ | apply p1_ | apply p2_))))
        have n2_ := am_ (below_step (by repeat (with_reducible first | exact HB.out | apply p3_ | apply p1_ | apply p2_)) hb)
        clear HO158
        clear HB
        clear HO161
        clear HO166
        clear HO169
        have HO158 := n0_
        have HO172 := n1_
        have HB := n2_
        clear n0_ n1_ n2_
        clear hb ho37
        refine hK.out _ _ ⟨.slice Ao33 y159.length co33, .slice Ao34 y164.length co34, .slice Ao35 y167.length co35, v171, m12_, (by rw [ha.out]; exact putSel_upk 9 hb_ rfl rfl rfl), (by (with_reducible repeat (first | apply r1_ | apply r2_ | apply r3_)); exact Kd.R_mono HO158.out (fun _ hk => trivial)), (by repeat (with_reducible first | exact HB.out | apply p3_ | apply p1_ | apply p2_)), fun _ h1_ => absurd ((up_self b 11).symm.trans h1_) (by decide), fun _ h1_ => absurd ((up_self b 11).symm.trans h1_) (by decide), fun _ h1_ => absurd ((up_self b 11).symm.trans h1_) (by decide), fun _ => (by (with_reducible repeat (first | apply n1'_ | apply n2'_ | apply n3'_)); exact HO172.out), fun h0_ => absurd ((hoff 12 (by kernel_rfl)).symm.trans h0_) (by decide)⟩
       refine steps_cons ?_ ?_
       ·rintro b a w' ⟨v160, v165, v168, v171, m12_, ha, Q_HO158, Q_HB, Q_HO161, Q_HO166, Q_HO169, Q_HO172, Q_X12_⟩ hb_ hon hoff
        refine ⟨_, rfl, fun K hK => ?_⟩
        have e34 : a.tmps[34]? = some (v171) := by rw [ha]; exact putSel_on (e := (11, 34, v171)) 9 rfl rfl (hon 11 (by kernel_rfl)) rfl
        replace ha := am_ ha
        have HO158 := am_ Q_HO158
        have HB := am_ Q_HB
        have HO172 := am_ (Q_HO172 (hon 11 (by kernel_rfl)))
        refine value_ (w1 := w') (v := v171) (by rfl) rfl ?_ ?_
        ·go_simp
         (try simp only [i64_w])
         try rfl
        refine hK.out _ _ ⟨v160, v165, v168, v171, (v171), (by rw [ha.out]; exact putSel_upk 10 hb_ rfl rfl rfl), Q_HO158, Q_HB, fun _ h1_ => absurd ((hon 11 (by kernel_rfl)).symm.trans h1_) (by decide), fun _ h1_ => absurd ((hon 11 (by kernel_rfl)).symm.trans h1_) (by decide), fun _ h1_ => absurd ((hon 11 (by kernel_rfl)).symm.trans h1_) (by decide), Q_HO172, fun _ => rfl⟩
       exact steps_nil
      rintro b a w37 hall ⟨v160, v165, v168, v171, m12_, ha, Q_HO158, Q_HB, Q_HO161, Q_HO166, Q_HO169, Q_HO172, Q_X12_⟩
      clear HB HO158
      have hb0_ := hall 0 (by kernel_rfl)
      have hb1_ := hall 1 (by kernel_rfl)
      have hb3_ := hall 3 (by kernel_rfl)
      have hb4_ := hall 4 (by kernel_rfl)
      have hb6_ := hall 6 (by kernel_rfl)
      have hb7_ := hall 7 (by kernel_rfl)
      have hb8_ := hall 8 (by kernel_rfl)
      have hb9_ := hall 9 (by kernel_rfl)
      have hb10_ := hall 10 (by kernel_rfl)
      have hb11_ := hall 11 (by kernel_rfl)
      have hb12_ := hall 12 (by kernel_rfl)
      subst ha
      obtain rfl := Q_X12_ hb12_
      simp only [putSel, hb0_, hb1_, hb3_, hb4_, hb6_, hb7_, hb8_, hb9_, hb10_, hb11_, hb12_, if_true, Act.put, List.setIfInBounds_toArray, List.set_cons_zero, List.set_cons_succ]
      have HO158 := am_ Q_HO158
      clear Q_HO158
      have HB := am_ Q_HB
      clear Q_HB
      clear Q_HO161
      clear Q_HO166
      clear Q_HO169
      have HO172 := am_ (Q_HO172 hb11_)
      clear Q_HO172
      clear hall hb0_ hb1_ hb3_ hb4_ hb6_ hb7_ hb8_ hb9_ hb10_ hb11_ hb12_
      obtain ⟨Ao38, co38, eo38⟩ := Kd.N_slice HO172.out
      subst eo38
      have p173 : 0 ≤ ((ji6) : Int) := of_decide_eq_true (by first | (with_reducible assumption) | assumption)
      have q173 : (ji6) < (y170.length : Int) := of_decide_eq_true (by first | (with_reducible assumption) | assumption)
      obtain ⟨ad173, A173_0, c173_0, e173, hx173_0, hl173_0, hi173_0⟩ := at_L4 (Kd.N_reads' HO172.out).2.2 (ji6) p173 q173
      cases e173
      obtain ⟨ce173, hce173, hMe173, hcc173⟩ := Kd.N_get HO172.out [] (ji6) p173 (by first | exact q173 | exact of_decide_eq_true (by first | (with_reducible assumption) | assumption) | (have e_ := (Kd.N_reads' HO172.out).1; omega))
      obtain ⟨ua173_0, uc173_0, rfl, ul173_0, ge173_0⟩ := Kd.FK_slice_open hMe173
      have hv173_0 := hcc173 0 _ rfl
      rw [Nat.add_zero, show ((Kd.slice 23 k23)).sz = 1 from rfl, Nat.mul_one] at hv173_0
      replace hv173_0 := Option.some.inj (hv173_0.symm.trans hx173_0)
      injection hv173_0 with hva_ hvn_ hvc_
      rw [hva_] at ge173_0
      rw [hvc_] at ul173_0
      have HL173_0 := am_ (show Kd.V k23 23 _ w.heap.size _ _ (rd_L4 y170 (ji6)) from Kd.V_mk ul173_0 ge173_0)
      clear hva_ hvn_ hvc_ ge173_0 ul173_0
      clear hcc173 hce173
      have HR173_0 := am_ hi173_0
      have HC173_0 := am_ hl173_0
      clear hi173_0 hl173_0
      replace p173 := eq_true p173
      replace q173 := eq_true q173
      try go_wp2_with (first | ((with_reducible refine gate_callee (f := 22) rfl ?_); refine goesL_ (some 43) rfl rfl Try.func22 (by kernel_rfl) rfl #[.slice A173_0 (rd_L4 y170 (ji6)).length c173_0, .int .i64 0] rfl (by (try simp only [List.map_toArray, List.map_cons, List.map_nil]); first | done | (simp only [hji6]; rfl) | rfl | (simp only [List.length_drop, List.length_take]; rfl)) ?_; (with_reducible refine (sweep_Sweep.calls k _ _ (rd_L4 y170 (ji6)) 0 t174 t175 _ ?side1 ?side2 A9.out).mono ?_); (case side1 => repeat (first | exact (by repeat (first | (with_reducible exact HR173_0.out) | (with_reducible refine Kd.C_alloc ?_ _) | (with_reducible refine Kd.C_drewN ?_ _) | (with_reducible refine Kd.C_drew ?_) | exact HR173_0.out)) | (with_reducible refine Kd.C_alloc ?_ _) | (with_reducible refine Kd.C_drewN ?_ _) | (with_reducible refine Kd.C_drew ?_))); (case side2 => exact HC173_0.out); rintro e w39 ⟨v176, rfl, ho0, hb⟩; refine ⟨_, rfl, ?_⟩; have n0_ := am_ (r5_ (by (with_reducible repeat (first | apply r1_ | apply r2_ | apply r3_)); exact HO158.out) (r4_ ho0) hb); have n1_ := am_ (Kd.N_elder' (by (with_reducible repeat (first | apply n1'_ | apply n2'_ | apply n3'_)); exact HO172.out) (r4_ ho0) hb); have n2_ := am_ (Kd.V_elder' (by (with_reducible repeat (first | apply v1_ | apply v2_ | apply v3_)); exact HL173_0.out) (r4_ ho0) hb); have n3_ := am_ (Kd.R_lower (Kd.R_new' ho0 (Kd.R_lt (by (with_reducible repeat (first | apply r1_ | apply r2_ | apply r3_)); exact HO158.out))) (below_size (by repeat (with_reducible first | exact HB.out | apply p3_ | apply p1_ | apply p2_)))); have n4_ := am_ (Kd.C_below (by repeat (first | (with_reducible exact HR173_0.out) | (with_reducible refine Kd.C_alloc ?_ _) | (with_reducible refine Kd.C_drewN ?_ _) | (with_reducible refine Kd.C_drew ?_) | exact HR173_0.out)) hb); have n5_ := am_ (below_step (by repeat (with_reducible first | exact HB.out | apply p3_ | apply p1_ | apply p2_)) hb); clear HO158; clear HO172; clear HL173_0; clear HR173_0; clear HB; have HO158 := n0_; have HO172 := n1_; have HL173_0 := n2_; have HO177 := n3_; have HR173_0 := n4_; have HB := n5_; clear n0_ n1_ n2_ n3_ n4_ n5_; (try clear hb); (try clear ho0)) | ((with_reducible refine gate_callee (f := 22) rfl ?_); refine goesL_ (some 50) rfl rfl Try.func22 (by kernel_rfl) rfl #[.slice (some ad162) y156.length co25, .int .i64 (wrap64 (-(wrap64 (1 + (Go.bits .and .i64 a1 1023)))))] rfl (by (try simp only [List.map_toArray, List.map_cons, List.map_nil]); first | done | rfl | (simp only [List.length_drop, List.length_take]; rfl)) ?_; (with_reducible refine (sweep_Sweep.calls k _ _ y156 (wrap64 (-(wrap64 (1 + (Go.bits .and .i64 a1 1023))))) t178 t179 _ ?side1 ?side2 A10.out).mono ?_); (case side1 => repeat (first | exact (Kd.R_reads' HO158.out).2.2 | (with_reducible refine Kd.C_alloc ?_ _) | (with_reducible refine Kd.C_drewN ?_ _) | (with_reducible refine Kd.C_drew ?_))); (case side2 => exact (Kd.R_reads' HO158.out).2.1); rintro e w40 ⟨v180, rfl, ho0, hb⟩; refine ⟨_, rfl, ?_⟩; have n0_ := am_ (r5_ (by (with_reducible repeat (first | apply r1_ | apply r2_ | apply r3_)); exact HO158.out) (r4_ ho0) hb); have n1_ := am_ (Kd.N_elder' (by (with_reducible repeat (first | apply n1'_ | apply n2'_ | apply n3'_)); exact HO172.out) (r4_ ho0) hb); have n2_ := am_ (Kd.V_elder' (by (with_reducible repeat (first | apply v1_ | apply v2_ | apply v3_)); exact HL173_0.out) (r4_ ho0) hb); have n3_ := am_ (r5_ (by (with_reducible repeat (first | apply r1_ | apply r2_ | apply r3_)); exact HO177.out) (r4_ ho0) hb); have n4_ := am_ (Kd.R_lower (Kd.R_new' (Kd.R_new' ho0 (Kd.R_lt (by (with_reducible repeat (first | apply r1_ | apply r2_ | apply r3_)); exact HO158.out))) (Kd.R_lt (by (with_reducible repeat (first | apply r1_ | apply r2_ | apply r3_)); exact HO177.out))) (below_size (by repeat (with_reducible first | exact HB.out | apply p3_ | apply p1_ | apply p2_)))); have n5_ := am_ (Kd.C_below (by repeat (first | (with_reducible exact HR173_0.out) | (with_reducible refine Kd.C_alloc ?_ _) | (with_reducible refine Kd.C_drewN ?_ _) | (with_reducible refine Kd.C_drew ?_) | exact HR173_0.out)) hb); have n6_ := am_ (below_step (by repeat (with_reducible first | exact HB.out | apply p3_ | apply p1_ | apply p2_)) hb); clear HO158; clear HO172; clear HL173_0; clear HO177; clear HR173_0; clear HB; have HO158 := n0_; have HO172 := n1_; have HL173_0 := n2_; have HO177 := n3_; have HO181 := n4_; have HR173_0 := n5_; have HB := n6_; clear n0_ n1_ n2_ n3_ n4_ n5_ n6_; (try clear hb); (try clear ho0)) | ((with_reducible refine gate_callee (f := 22) rfl ?_); refine goesL_ (some 57) rfl rfl Try.func22 (by kernel_rfl) rfl #[.slice (some ad162) y156.length co25, .int .i64 (wrap64 (1099511627776 + (wrap64 (1 + (Go.bits .and .i64 a1 1023)))))] rfl (by (try simp only [List.map_toArray, List.map_cons, List.map_nil]); first | done | rfl | (simp only [List.length_drop, List.length_take]; rfl)) ?_; (with_reducible refine (sweep_Sweep.calls k _ _ y156 (wrap64 (1099511627776 + (wrap64 (1 + (Go.bits .and .i64 a1 1023))))) t182 t183 _ ?side1 ?side2 A11.out).mono ?_); (case side1 => repeat (first | exact (Kd.R_reads' HO158.out).2.2 | (with_reducible refine Kd.C_alloc ?_ _) | (with_reducible refine Kd.C_drewN ?_ _) | (with_reducible refine Kd.C_drew ?_))); (case side2 => exact (Kd.R_reads' HO158.out).2.1); rintro e w41 ⟨v184, rfl, ho0, hb⟩; refine ⟨_, rfl, ?_⟩; have n0_ := am_ (r5_ (by (with_reducible repeat (first | apply r1_ | apply r2_ | apply r3_)); exact HO158.out) (r4_ ho0) hb); have n1_ := am_ (Kd.N_elder' (by (with_reducible repeat (first | apply n1'_ | apply n2'_ | apply n3'_)); exact HO172.out) (r4_ ho0) hb); have n2_ := am_ (Kd.V_elder' (by (with_reducible repeat (first | apply v1_ | apply v2_ | apply v3_)); exact HL173_0.out) (r4_ ho0) hb); have n3_ := am_ (r5_ (by (with_reducible repeat (first | apply r1_ | apply r2_ | apply r3_)); exact HO177.out) (r4_ ho0) hb); have n4_ := am_ (r5_ (by (with_reducible repeat (first | apply r1_ | apply r2_ | apply r3_)); exact HO181.out) (r4_ ho0) hb); have n5_ := am_ (Kd.R_lower (Kd.R_new' (Kd.R_new' (Kd.R_new' ho0 (Kd.R_lt (by (with_reducible repeat (first | apply r1_ | apply r2_ | apply r3_)); exact HO158.out))) (Kd.R_lt (by (with_reducible repeat (first | apply r1_ | apply r2_ | apply r3_)); exact HO177.out))) (Kd.R_lt (by (with_reducible repeat (first | apply r1_ | apply r2_ | apply r3_)); exact HO181.out))) (below_size (by repeat (with_reducible first | exact HB.out | apply p3_ | apply p1_ | apply p2_)))); have n6_ := am_ (Kd.C_below (by repeat (first | (with_reducible exact HR173_0.out) | (with_reducible refine Kd.C_alloc ?_ _) | (with_reducible refine Kd.C_drewN ?_ _) | (with_reducible refine Kd.C_drew ?_) | exact HR173_0.out)) hb); have n7_ := am_ (below_step (by repeat (with_reducible first | exact HB.out | apply p3_ | apply p1_ | apply p2_)) hb); clear HO158; clear HO172; clear HL173_0; clear HO177; clear HO181; clear HR173_0; clear HB; have HO158 := n0_; have HO172 := n1_; have HL173_0 := n2_; have HO177 := n3_; have HO181 := n4_; have HO185 := n5_; have HR173_0 := n6_; have HB := n7_; clear n0_ n1_ n2_ n3_ n4_ n5_ n6_ n7_; (try clear hb); (try clear ho0)) | ((with_reducible refine gate_callee (f := 22) rfl ?_); refine goesL_ (some 61) rfl rfl Try.func22 (by kernel_rfl) rfl #[.slice none 0 0, .int .i64 1099511627776] rfl (by (try simp only [List.map_toArray, List.map_cons, List.map_nil]); first | done | rfl | (simp only [List.length_drop, List.length_take]; rfl)) ?_; (refine (sweep_Sweep.calls k _ _ ([] : List (S23)) 1099511627776 t186 t187 _ ?side1 ?side2 A12.out).mono ?_); (case side1 => exact Kd.C_nil _ _); (case side2 => exact Nat.le_refl _); rintro e w42 ⟨v188, rfl, ho0, hb⟩; refine ⟨_, rfl, ?_⟩; have n0_ := am_ (r5_ (by (with_reducible repeat (first | apply r1_ | apply r2_ | apply r3_)); exact HO158.out) (r4_ ho0) hb); have n1_ := am_ (Kd.N_elder' (by (with_reducible repeat (first | apply n1'_ | apply n2'_ | apply n3'_)); exact HO172.out) (r4_ ho0) hb); have n2_ := am_ (Kd.V_elder' (by (with_reducible repeat (first | apply v1_ | apply v2_ | apply v3_)); exact HL173_0.out) (r4_ ho0) hb); have n3_ := am_ (r5_ (by (with_reducible repeat (first | apply r1_ | apply r2_ | apply r3_)); exact HO177.out) (r4_ ho0) hb); have n4_ := am_ (r5_ (by (with_reducible repeat (first | apply r1_ | apply r2_ | apply r3_)); exact HO181.out) (r4_ ho0) hb); have n5_ := am_ (r5_ (by (with_reducible repeat (first | apply r1_ | apply r2_ | apply r3_)); exact HO185.out) (r4_ ho0) hb); have n6_ := am_ (Kd.R_lower (Kd.R_new' (Kd.R_new' (Kd.R_new' (Kd.R_new' ho0 (Kd.R_lt (by (with_reducible repeat (first | apply r1_ | apply r2_ | apply r3_)); exact HO158.out))) (Kd.R_lt (by (with_reducible repeat (first | apply r1_ | apply r2_ | apply r3_)); exact HO177.out))) (Kd.R_lt (by (with_reducible repeat (first | apply r1_ | apply r2_ | apply r3_)); exact HO181.out))) (Kd.R_lt (by (with_reducible repeat (first | apply r1_ | apply r2_ | apply r3_)); exact HO185.out))) (below_size (by repeat (with_reducible first | exact HB.out | apply p3_ | apply p1_ | apply p2_)))); have n7_ := am_ (Kd.C_below (by repeat (first | (with_reducible exact HR173_0.out) | (with_reducible refine Kd.C_alloc ?_ _) | (with_reducible refine Kd.C_drewN ?_ _) | (with_reducible refine Kd.C_drew ?_) | exact HR173_0.out)) hb); have n8_ := am_ (below_step (by repeat (with_reducible first | exact HB.out | apply p3_ | apply p1_ | apply p2_)) hb); clear HO158; clear HO172; clear HL173_0; clear HO177; clear HO181; clear HO185; clear HR173_0; clear HB; have HO158 := n0_; have HO172 := n1_; have HL173_0 := n2_; have HO177 := n3_; have HO181 := n4_; have HO185 := n5_; have HO189 := n6_; have HR173_0 := n7_; have HB := n8_; clear n0_ n1_ n2_ n3_ n4_ n5_ n6_ n7_ n8_; (try clear hb); (try clear ho0)) | ((with_reducible refine gate_callee (f := 20) rfl ?_); refine goesL_ (some 65) rfl rfl Try.func20 (by kernel_rfl) rfl #[.int .i64 t175] rfl (by (try simp only [List.map_toArray, List.map_cons, List.map_nil]); first | done | rfl | (simp only [List.length_drop, List.length_take]; rfl)) ?_; (with_reducible refine (pinfoldlaw0_Num.calls t175 t190 _ A13.out).mono ?_); rintro e w' ⟨rfl, ⟨nd, rfl⟩⟩; refine ⟨_, rfl, ?_⟩) | (go_at_call 20; (with_reducible refine (pinfoldlaw0_Num.calls t179 t191 _ A15.out).mono ?_); rintro e w' ⟨rfl, ⟨nd, rfl⟩⟩) | (go_at_call 20; (with_reducible refine (pinfoldlaw0_Num.calls t183 t192 _ A17.out).mono ?_); rintro e w' ⟨rfl, ⟨nd, rfl⟩⟩; obtain ⟨Ao43, co43, eo43⟩ := Kd.R_slice HO189.out; subst eo43) | (go_at_call 20; (with_reducible refine (pinfoldlaw0_Num.calls t187 t193 _ A20.out).mono ?_); rintro e w' ⟨rfl, ⟨nd, rfl⟩⟩))
      go_ret
      exact ⟨by first | rfl | (simp [errW_none, errW_some] <;> rfl) | (simp only [← hji6]; first | rfl | (simp [errW_none, errW_some] <;> rfl)) | (simp [*, errW_none, errW_some] <;> rfl), by repeat (with_reducible first | exact HB.out | apply p3_ | apply p1_ | apply p2_)⟩
     rw [if_neg c19] at H
     have c19b0 : ((t186.length : Int) == 0) = false := beq_eq_false_iff_ne.mpr c19
     have c19b1 : ((t186.length : Int) != 0) = true := bne_iff_ne.mpr c19
     have c19b2 : ¬ (t186 = []) := fun h_ => c19 (by rw [h_]; rfl)
     obtain rfl := Option.some.inj H
     go_enter Try.func9, Try.ntmps9
     try go_wp2_with (first | ((with_reducible refine gate_callee (f := 27) rfl ?_); refine goesL_ (some 16) rfl rfl Try.func27 (by kernel_rfl) rfl #[] rfl (by (try simp only [List.map_toArray, List.map_cons, List.map_nil]); first | done | rfl | (simp only [List.length_drop, List.length_take]; rfl)) ?_; (with_reducible refine (pinfoldlaw19_awake.calls k  true _ A3.out).mono ?_); rintro e w44 ⟨rfl, hb⟩; refine ⟨_, rfl, ?_⟩; have n0_ := am_ (below_step (by repeat (with_reducible first | exact HB.out | apply p3_ | apply p1_ | apply p2_)) hb); clear HB; have HB := n0_; clear n0_; (try clear hb)) | ((with_reducible refine gate_dst (N := 22) rfl ?_); (try (refine gate_guard (by rfl) ?_; dsimp only)); refine Kd.R_lit k23 _ 23 ?hg (N := 22) ?hd (xs := ([(⟨10, 2, (⟨#[109, 101]⟩ : ByteArray), 9, (⟨#[]⟩ : ByteArray), false⟩ : S23)] : List (S23))) (inner := [.int .i64 10, .int .i64 2, .string (⟨#[109, 101]⟩ : ByteArray), .int .i64 9, .string (⟨#[]⟩ : ByteArray), .bool false]) (ok := fun _ => True) (okp := fun _ => True) ?hr ?hp (fun _ hk => hk) trivial (Below.refl _ _) (Nat.le_refl _) (by simp) ?_; (case hd => rfl); (case hg => rfl); (case hr => first | (go_simp; done) | (go_simp; rfl)); (case hp => exact (Reps.c6 (show Kd.M k23 _ _ _ (⟨10, 2, (⟨#[109, 101]⟩ : ByteArray), 9, (⟨#[]⟩ : ByteArray), false⟩ : S23) [.int .i64 10, .int .i64 2, .string (⟨#[109, 101]⟩ : ByteArray), .int .i64 9, .string (⟨#[]⟩ : ByteArray), .bool false] from (k23_mkM _ _ _ (⟨10, 2, (⟨#[109, 101]⟩ : ByteArray), 9, (⟨#[]⟩ : ByteArray), false⟩ : S23) )) (Reps.none _ _))); intro v157 w45 ho46 hb hg_ hnew_; clear hg_ hnew_; (first | rw [← Ny156.out] at ho46 | (simp only [Int.reduceToNat] at ho46; rw [← Ny156.out] at ho46)); have n0_ := am_ (Kd.R_lower ho46 (below_size (by repeat (with_reducible first | exact HB.out | apply p3_ | apply p1_ | apply p2_)))); have n1_ := am_ (below_step (by repeat (with_reducible first | exact HB.out | apply p3_ | apply p1_ | apply p2_)) hb); clear HB; have HO158 := n0_; have HB := n1_; clear n0_ n1_; clear hb ho46))
     have n0_ := am_ (r3_ HO158.out)
     have n1_ := am_ (p2_ HB.out)
     clear HO158
     clear HB
     have HO158 := n0_
     have HB := n1_
     clear n0_ n1_
     obtain ⟨Ao48, co48, eo48⟩ := Kd.R_slice HO158.out
     (first | subst eo48 | (injection eo48 with f1_ f2_ f3_; have f4_ := f1_.symm; have f5_ := f3_.symm; clear f1_ f2_ f3_; subst f4_; subst f5_))
     have p162 : 0 ≤ (0 : Int) := (by omega)
     have q162 : 0 < (y156.length : Int) := of_decide_eq_true (by first | (with_reducible assumption) | assumption)
     obtain ⟨ad162, e162, hx162_0, hx162_1, hx162_2, hx162_3, hx162_4, hx162_5⟩ := at_T23 (Kd.R_reads' HO158.out).2.2 0 p162 q162
     cases e162
     have qi162 : (0 < y156.length) = True := eq_true (by omega)
     (try rw [show ((0 : Int)).toNat = 0 from rfl] at hx162_0)
     (try rw [show 0 * 6 = 0 from rfl] at hx162_0)
     (try rw [z0_] at hx162_0)
     (try rw [show ((0 : Int)).toNat = 0 from rfl] at hx162_1)
     (try rw [show 0 * 6 = 0 from rfl] at hx162_1)
     (try rw [z0_] at hx162_1)
     (try rw [show ((0 : Int)).toNat = 0 from rfl] at hx162_2)
     (try rw [show 0 * 6 = 0 from rfl] at hx162_2)
     (try rw [z0_] at hx162_2)
     (try rw [show ((0 : Int)).toNat = 0 from rfl] at hx162_3)
     (try rw [show 0 * 6 = 0 from rfl] at hx162_3)
     (try rw [z0_] at hx162_3)
     (try rw [show ((0 : Int)).toNat = 0 from rfl] at hx162_4)
     (try rw [show 0 * 6 = 0 from rfl] at hx162_4)
     (try rw [z0_] at hx162_4)
     (try rw [show ((0 : Int)).toNat = 0 from rfl] at hx162_5)
     (try rw [show 0 * 6 = 0 from rfl] at hx162_5)
     (try rw [z0_] at hx162_5)
     replace p162 := eq_true p162
     replace q162 := eq_true q162
     have p163 : 0 ≤ (0 : Int) := (by omega)
     have q163 : 0 < (y156.length : Int) := of_decide_eq_true (by first | (with_reducible assumption) | assumption)
     obtain ⟨ad163, e163, hx163_0, hx163_1, hx163_2, hx163_3, hx163_4, hx163_5⟩ := at_T23 (Kd.R_reads' HO158.out).2.2 0 p163 q163
     obtain rfl : ad162 = ad163 := (by injection e163)
     have qi163 : (0 < y156.length) = True := eq_true (by omega)
     (try rw [show ((0 : Int)).toNat = 0 from rfl] at hx163_0)
     (try rw [show 0 * 6 = 0 from rfl] at hx163_0)
     (try rw [z0_] at hx163_0)
     (try rw [show ((0 : Int)).toNat = 0 from rfl] at hx163_1)
     (try rw [show 0 * 6 = 0 from rfl] at hx163_1)
     (try rw [z0_] at hx163_1)
     (try rw [show ((0 : Int)).toNat = 0 from rfl] at hx163_2)
     (try rw [show 0 * 6 = 0 from rfl] at hx163_2)
     (try rw [z0_] at hx163_2)
     (try rw [show ((0 : Int)).toNat = 0 from rfl] at hx163_3)
     (try rw [show 0 * 6 = 0 from rfl] at hx163_3)
     (try rw [z0_] at hx163_3)
     (try rw [show ((0 : Int)).toNat = 0 from rfl] at hx163_4)
     (try rw [show 0 * 6 = 0 from rfl] at hx163_4)
     (try rw [z0_] at hx163_4)
     (try rw [show ((0 : Int)).toNat = 0 from rfl] at hx163_5)
     (try rw [show 0 * 6 = 0 from rfl] at hx163_5)
     (try rw [z0_] at hx163_5)
     replace p163 := eq_true p163
     replace q163 := eq_true q163
     refine start_ (n := 13) (S := fun w' => True) (ds := []) #[false, false, false, false, false, false, false, false, false, false, false, false, false] (by kernel_rfl) rfl rfl trivial (fun hHeld => ?_); refine with_tabW pinfoldlaw19_SweepForms.tab5 pinfoldlaw19_SweepForms.bits5 (fun HT_ HW_ => ?_)
     generalize w45.drew = w47 at HO158 HB hx162_0 hx162_1 hx162_2 hx162_3 hx162_4 hx162_5 hx163_0 hx163_1 hx163_2 hx163_3 hx163_4 hx163_5 hHeld ⊢
     refine pure_ (i := 2) (N := some 25) (v := ?_) (a' := ?_) #[false, false, true, false, false, false, false, false, false, false, false, false, false] rfl rfl (any_of HT_.out (by kernel_rfl)) (fun _ _ _ h => h) (Or.inl ⟨by rfl, ?_⟩) ?_ ?_
     rotate_left
     ·intro w'
      go_simp
      with_reducible rfl
     rotate_left
     ·simp only [Act.put, List.setIfInBounds_toArray, List.set_cons_zero, List.set_cons_succ, i64_w, i32_w]
      rfl
     refine pure_ (i := 5) (N := some 28) (v := ?_) (a' := ?_) #[false, false, true, false, false, true, false, false, false, false, false, false, false] rfl rfl (any_of HT_.out (by kernel_rfl)) (fun _ _ _ h => h) (Or.inl ⟨by rfl, ?_⟩) ?_ ?_
     rotate_left
     ·intro w'
      go_simp
      with_reducible rfl
     rotate_left
     ·simp only [Act.put, List.setIfInBounds_toArray, List.set_cons_zero, List.set_cons_succ, i64_w, i32_w]
      rfl
     refine inv_at [0, 1, 3, 4, 6, 7, 8, 9, 10, 11, 12] (fun a0_ b a w' => ∃ (v160 : Value) (v165 : Value) (v168 : Value) (v171 : Value) (m12_ : Value), a = putSel a0_ b [(0, 23, .agg #[.int .i64 0, .int .i64 0, .string (⟨#[]⟩ : ByteArray), .int .i64 0, .string (⟨#[]⟩ : ByteArray), .bool false]), (1, 24, v160), (3, 26, .pointer (some ad162)), (4, 27, .agg #[.int .i64 ((rd_T23 y156 0).f0), .int .i64 ((rd_T23 y156 0).f1), .string ((rd_T23 y156 0).f2), .int .i64 ((rd_T23 y156 0).f3), .string ((rd_T23 y156 0).f4), .bool ((rd_T23 y156 0).f5)]), (6, 29, .pointer (some ad162)), (7, 30, .agg #[.int .i64 ((rd_T23 y156 0).f0), .int .i64 ((rd_T23 y156 0).f1), .string ((rd_T23 y156 0).f2), .int .i64 ((rd_T23 y156 0).f3), .string ((rd_T23 y156 0).f4), .bool ((rd_T23 y156 0).f5)]), (8, 31, v165), (9, 32, .agg #[.int .i64 10, .int .i64 1, .string (⟨#[]⟩ : ByteArray), .int .i64 0, .string (⟨#[]⟩ : ByteArray), .bool false]), (10, 33, v168), (11, 34, v171), (12, 7, m12_)] ∧ (Kd.R k23 23 w' w.heap.size (fun _ => True) (.slice (some ad162) y156.length co48) y156) ∧ (Below w.heap.size w w') ∧ (b 1 = true → b 11 = false → Kd.R k23 23 w' w.heap.size (fun k_ => some k_ ≠ (.slice (some ad162) y156.length co48 : Value).ownBlock) v160 y159) ∧ (b 8 = true → b 11 = false → Kd.R k23 23 w' w.heap.size (fun k_ => some k_ ≠ (.slice (some ad162) y156.length co48 : Value).ownBlock) v165 y164) ∧ (b 10 = true → b 11 = false → Kd.R k23 23 w' w.heap.size (fun k_ => some k_ ≠ (.slice (some ad162) y156.length co48 : Value).ownBlock) v168 y167) ∧ (b 11 = true → Kd.N (Kd.slice 23 k23) 33 w' w.heap.size (fun k_ => some k_ ≠ (.slice (some ad162) y156.length co48 : Value).ownBlock) v171 y170) ∧ (b 12 = true → (m12_ : Value) = v171)) HT_.out HW_.out (by kernel_rfl) (by kernel_rfl) ?_ ?_ ?_
     ·exact ⟨.bool false, .bool false, .bool false, .bool false, .bool false, by simp only [putSel, Bool.false_eq_true, if_false], HO158.out, HB.out, fun h_ => absurd h_ (by decide), fun h_ => absurd h_ (by decide), fun h_ => absurd h_ (by decide), fun h_ => absurd h_ (by decide), fun h_ => absurd h_ (by decide)⟩
     ·skip
      clear HB HO158
      refine steps_cons ?_ ?_
      ·rintro b a w' ⟨v160, v165, v168, v171, m12_, ha, Q_HO158, Q_HB, Q_HO161, Q_HO166, Q_HO169, Q_HO172, Q_X12_⟩ hb_ hon hoff
       refine ⟨_, rfl, fun K hK => ?_⟩
       replace ha := am_ ha
       have HO158 := am_ Q_HO158
       have HB := am_ Q_HB
       refine value_ (w1 := w') (v := .agg #[.int .i64 0, .int .i64 0, .string (⟨#[]⟩ : ByteArray), .int .i64 0, .string (⟨#[]⟩ : ByteArray), .bool false]) (by rfl) rfl ?_ ?_
       ·go_simp
        (try simp only [i64_w])
        try rfl
       refine hK.out _ _ ⟨v160, v165, v168, v171, m12_, (by rw [ha.out]; exact putSel_upk 0 hb_ rfl rfl rfl), Q_HO158, Q_HB, fun h0_ _ => absurd ((hoff 1 (by kernel_rfl)).symm.trans h0_) (by decide), Q_HO166, Q_HO169, fun h0_ => absurd ((hoff 11 (by kernel_rfl)).symm.trans h0_) (by decide), fun h0_ => absurd ((hoff 12 (by kernel_rfl)).symm.trans h0_) (by decide)⟩
      refine steps_cons ?_ ?_
      ·rintro b a w' ⟨v160, v165, v168, v171, m12_, ha, Q_HO158, Q_HB, Q_HO161, Q_HO166, Q_HO169, Q_HO172, Q_X12_⟩ hb_ hon hoff
       refine ⟨_, rfl, fun K hK => ?_⟩
       have e23 : a.tmps[23]? = some (.agg #[.int .i64 0, .int .i64 0, .string (⟨#[]⟩ : ByteArray), .int .i64 0, .string (⟨#[]⟩ : ByteArray), .bool false]) := by rw [ha]; exact putSel_on (e := (0, 23, .agg #[.int .i64 0, .int .i64 0, .string (⟨#[]⟩ : ByteArray), .int .i64 0, .string (⟨#[]⟩ : ByteArray), .bool false])) 0 rfl rfl (hon 0 (by kernel_rfl)) rfl
       replace ha := am_ ha
       have HO158 := am_ Q_HO158
       have HB := am_ Q_HB
       refine Kd.R_lit_step k23 _ 23 ?hg (N := 24) ?hd (xs := ([(⟨0, 0, (⟨#[]⟩ : ByteArray), 0, (⟨#[]⟩ : ByteArray), false⟩ : S23)] : List (S23))) (inner := [.int .i64 0, .int .i64 0, .string (⟨#[]⟩ : ByteArray), .int .i64 0, .string (⟨#[]⟩ : ByteArray), .bool false]) (ok := fun _ => True) (okp := fun _ => True) ?hr ?hp (fun _ hk => hk) trivial (Below.refl _ _) (Nat.le_refl _) (by simp) ?_; (case hd => rfl); (case hg => rfl); (case hr => first | (go_simp; done) | (go_simp; rfl)); (case hp => exact (Reps.c6 (show Kd.M k23 _ _ _ (⟨0, 0, (⟨#[]⟩ : ByteArray), 0, (⟨#[]⟩ : ByteArray), false⟩ : S23) [.int .i64 0, .int .i64 0, .string (⟨#[]⟩ : ByteArray), .int .i64 0, .string (⟨#[]⟩ : ByteArray), .bool false] from (k23_mkM _ _ _ (⟨0, 0, (⟨#[]⟩ : ByteArray), 0, (⟨#[]⟩ : ByteArray), false⟩ : S23) )) (Reps.none _ _)))
       intro v160 w49 ho50 hb hg_ hnew_
       clear hg_ hnew_
       (first | rw [← Ny159.out] at ho50 | (simp only [Int.reduceToNat] at ho50; rw [← Ny159.out] at ho50))
       have n0_ := am_ (r5_ (by (with_reducible repeat (first | apply r1_ | apply r2_ | apply r3_)); exact HO158.out) (r4_ ho50) hb)
       have n1_ := am_ (Kd.R_lower (Kd.R_new' ho50 (Kd.R_lt (by (with_reducible repeat (first | apply r1_ | apply r2_ | apply r3_)); exact HO158.out))) (below_size (by repeat (with_reducible first | exact HB.out | apply p3_ | apply p1_ | apply p2_))))
       have n2_ := am_ (below_step (by repeat (with_reducible first | exact HB.out | apply p3_ | apply p1_ | apply p2_)) hb)
       have z_HO166 := fun (h0_ : b 8 = true) (h1_ : b 11 = false) => (show Kd.R k23 23 w49 w.heap.size (fun k_ => some k_ ≠ (.slice (some ad162) y156.length co48 : Value).ownBlock) v165 y164 from by first | exact (r5_ (by (with_reducible repeat (first | apply r1_ | apply r2_ | apply r3_)); exact (Q_HO166 h0_ h1_)) (r4_ ho50) hb) | exact Kd.R_mono (r5_ (by (with_reducible repeat (first | apply r1_ | apply r2_ | apply r3_)); exact (Q_HO166 h0_ h1_)) (r4_ ho50) hb) (fun _ h_ => by first | trivial | exact h_ | exact h_.1))
       have z_HO169 := fun (h0_ : b 10 = true) (h1_ : b 11 = false) => (show Kd.R k23 23 w49 w.heap.size (fun k_ => some k_ ≠ (.slice (some ad162) y156.length co48 : Value).ownBlock) v168 y167 from by first | exact (r5_ (by (with_reducible repeat (first | apply r1_ | apply r2_ | apply r3_)); exact (Q_HO169 h0_ h1_)) (r4_ ho50) hb) | exact Kd.R_mono (r5_ (by (with_reducible repeat (first | apply r1_ | apply r2_ | apply r3_)); exact (Q_HO169 h0_ h1_)) (r4_ ho50) hb) (fun _ h_ => by first | trivial | exact h_ | exact h_.1))
       clear HO158
       clear HB
       have HO158 := n0_
       have HO161 := n1_
       have HB := n2_
       clear n0_ n1_ n2_
       clear hb ho50
       refine hK.out _ _ ⟨v160, v165, v168, v171, m12_, (by rw [ha.out]; exact putSel_upk 1 hb_ rfl rfl rfl), (by (with_reducible repeat (first | apply r1_ | apply r2_ | apply r3_)); exact Kd.R_mono HO158.out (fun _ hk => by first | trivial | exact hk.2)), (by repeat (with_reducible first | exact HB.out | apply p3_ | apply p1_ | apply p2_)), fun _ _ => (by (with_reducible repeat (first | apply r1_ | apply r2_ | apply r3_)); exact Kd.R_mono HO161.out (fun _ hk => by first | trivial | exact hk.2)), z_HO166, z_HO169, fun h0_ => absurd ((hoff 11 (by kernel_rfl)).symm.trans h0_) (by decide), fun h0_ => absurd ((hoff 12 (by kernel_rfl)).symm.trans h0_) (by decide)⟩
      refine steps_cons ?_ ?_
      ·rintro b a w' ⟨v160, v165, v168, v171, m12_, ha, Q_HO158, Q_HB, Q_HO161, Q_HO166, Q_HO169, Q_HO172, Q_X12_⟩ hb_ hon hoff
       refine ⟨_, rfl, fun K hK => ?_⟩
       have e25 : a.tmps[25]? = some (.slice (some ad162) y156.length co48) := by rw [ha]; exact (putSel_off rfl).trans rfl
       replace ha := am_ ha
       have HO158 := am_ Q_HO158
       have HB := am_ Q_HB
       refine value_ (w1 := w') (v := .pointer (some ad162)) (by rfl) rfl ?_ ?_
       ·go_simp
        (try simp only [i64_w])
        try rfl
       refine hK.out _ _ ⟨v160, v165, v168, v171, m12_, (by rw [ha.out]; exact putSel_upk 2 hb_ rfl rfl rfl), Q_HO158, Q_HB, Q_HO161, fun h0_ _ => absurd ((hoff 8 (by kernel_rfl)).symm.trans h0_) (by decide), Q_HO169, fun h0_ => absurd ((hoff 11 (by kernel_rfl)).symm.trans h0_) (by decide), fun h0_ => absurd ((hoff 12 (by kernel_rfl)).symm.trans h0_) (by decide)⟩
      refine steps_cons ?_ ?_
      ·rintro b a w' ⟨v160, v165, v168, v171, m12_, ha, Q_HO158, Q_HB, Q_HO161, Q_HO166, Q_HO169, Q_HO172, Q_X12_⟩ hb_ hon hoff
       refine ⟨_, rfl, fun K hK => ?_⟩
       have e26 : a.tmps[26]? = some (.pointer (some ad162)) := by rw [ha]; exact putSel_on (e := (3, 26, .pointer (some ad162))) 2 rfl rfl (hon 3 (by kernel_rfl)) rfl
       replace ha := am_ ha
       have HO158 := am_ Q_HO158
       have HB := am_ Q_HB
       obtain ⟨ad162_z, e162_z, hx162_0_z, hx162_1_z, hx162_2_z, hx162_3_z, hx162_4_z, hx162_5_z⟩ := at_T23 (Kd.R_reads' HO158.out).2.2 0 (of_eq_true p162) (of_eq_true q162)
       cases e162_z
       have hs0_ : w'.cell? ad162 = some (.int .i64 ((rd_T23 y156 0).f0)) := (by first | exact hx162_0_z | (have h_ := hx162_0_z; (try simp only [Int.reduceToNat, Nat.zero_mul, Nat.reduceMul, Nat.reduceEqDiff, Go.Addr.add, ↓reduceIte, z0_] at h_); exact h_))
       have hs1_ : w'.cell? ⟨ad162.block, ad162.off + 1, none⟩ = some (.int .i64 ((rd_T23 y156 0).f1)) := (by first | exact hx162_1_z | (have h_ := hx162_1_z; (try simp only [Int.reduceToNat, Nat.zero_mul, Nat.reduceMul, Nat.reduceEqDiff, Go.Addr.add, ↓reduceIte, z0_] at h_); exact h_))
       have hs2_ : w'.cell? ⟨ad162.block, ad162.off + 2, none⟩ = some (.string ((rd_T23 y156 0).f2)) := (by first | exact hx162_2_z | (have h_ := hx162_2_z; (try simp only [Int.reduceToNat, Nat.zero_mul, Nat.reduceMul, Nat.reduceEqDiff, Go.Addr.add, ↓reduceIte, z0_] at h_); exact h_))
       have hs3_ : w'.cell? ⟨ad162.block, ad162.off + 3, none⟩ = some (.int .i64 ((rd_T23 y156 0).f3)) := (by first | exact hx162_3_z | (have h_ := hx162_3_z; (try simp only [Int.reduceToNat, Nat.zero_mul, Nat.reduceMul, Nat.reduceEqDiff, Go.Addr.add, ↓reduceIte, z0_] at h_); exact h_))
       have hs4_ : w'.cell? ⟨ad162.block, ad162.off + 4, none⟩ = some (.string ((rd_T23 y156 0).f4)) := (by first | exact hx162_4_z | (have h_ := hx162_4_z; (try simp only [Int.reduceToNat, Nat.zero_mul, Nat.reduceMul, Nat.reduceEqDiff, Go.Addr.add, ↓reduceIte, z0_] at h_); exact h_))
       have hs5_ : w'.cell? ⟨ad162.block, ad162.off + 5, none⟩ = some (.bool ((rd_T23 y156 0).f5)) := (by first | exact hx162_5_z | (have h_ := hx162_5_z; (try simp only [Int.reduceToNat, Nat.zero_mul, Nat.reduceMul, Nat.reduceEqDiff, Go.Addr.add, ↓reduceIte, z0_] at h_); exact h_))
       refine value_ (w1 := w') (v := .agg #[.int .i64 ((rd_T23 y156 0).f0), .int .i64 ((rd_T23 y156 0).f1), .string ((rd_T23 y156 0).f2), .int .i64 ((rd_T23 y156 0).f3), .string ((rd_T23 y156 0).f4), .bool ((rd_T23 y156 0).f5)]) (by rfl) rfl ?_ ?_
       ·go_simp
        (try simp only [i64_w])
        try rfl
       refine hK.out _ _ ⟨v160, v165, v168, v171, m12_, (by rw [ha.out]; exact putSel_upk 3 hb_ rfl rfl rfl), Q_HO158, Q_HB, Q_HO161, fun h0_ _ => absurd ((hoff 8 (by kernel_rfl)).symm.trans h0_) (by decide), Q_HO169, fun h0_ => absurd ((hoff 11 (by kernel_rfl)).symm.trans h0_) (by decide), fun h0_ => absurd ((hoff 12 (by kernel_rfl)).symm.trans h0_) (by decide)⟩
      refine steps_cons ?_ ?_
      ·rintro b a w' ⟨v160, v165, v168, v171, m12_, ha, Q_HO158, Q_HB, Q_HO161, Q_HO166, Q_HO169, Q_HO172, Q_X12_⟩ hb_ hon hoff
       refine ⟨_, rfl, fun K hK => ?_⟩
       have e28 : a.tmps[28]? = some (.slice (some ad162) y156.length co48) := by rw [ha]; exact (putSel_off rfl).trans rfl
       replace ha := am_ ha
       have HO158 := am_ Q_HO158
       have HB := am_ Q_HB
       refine value_ (w1 := w') (v := .pointer (some ad162)) (by rfl) rfl ?_ ?_
       ·go_simp
        (try simp only [i64_w])
        try rfl
       refine hK.out _ _ ⟨v160, v165, v168, v171, m12_, (by rw [ha.out]; exact putSel_upk 4 hb_ rfl rfl rfl), Q_HO158, Q_HB, Q_HO161, fun h0_ _ => absurd ((hoff 8 (by kernel_rfl)).symm.trans h0_) (by decide), Q_HO169, fun h0_ => absurd ((hoff 11 (by kernel_rfl)).symm.trans h0_) (by decide), fun h0_ => absurd ((hoff 12 (by kernel_rfl)).symm.trans h0_) (by decide)⟩
      refine steps_cons ?_ ?_
      ·rintro b a w' ⟨v160, v165, v168, v171, m12_, ha, Q_HO158, Q_HB, Q_HO161, Q_HO166, Q_HO169, Q_HO172, Q_X12_⟩ hb_ hon hoff
       refine ⟨_, rfl, fun K hK => ?_⟩
       have e29 : a.tmps[29]? = some (.pointer (some ad162)) := by rw [ha]; exact putSel_on (e := (6, 29, .pointer (some ad162))) 4 rfl rfl (hon 6 (by kernel_rfl)) rfl
       replace ha := am_ ha
       have HO158 := am_ Q_HO158
       have HB := am_ Q_HB
       obtain ⟨ad163_z, e163_z, hx163_0_z, hx163_1_z, hx163_2_z, hx163_3_z, hx163_4_z, hx163_5_z⟩ := at_T23 (Kd.R_reads' HO158.out).2.2 0 (of_eq_true p163) (of_eq_true q163)
       cases e163_z
       have hs6_ : w'.cell? ad162 = some (.int .i64 ((rd_T23 y156 0).f0)) := (by first | exact hx163_0_z | (have h_ := hx163_0_z; (try simp only [Int.reduceToNat, Nat.zero_mul, Nat.reduceMul, Nat.reduceEqDiff, Go.Addr.add, ↓reduceIte, z0_] at h_); exact h_))
       have hs7_ : w'.cell? ⟨ad162.block, ad162.off + 1, none⟩ = some (.int .i64 ((rd_T23 y156 0).f1)) := (by first | exact hx163_1_z | (have h_ := hx163_1_z; (try simp only [Int.reduceToNat, Nat.zero_mul, Nat.reduceMul, Nat.reduceEqDiff, Go.Addr.add, ↓reduceIte, z0_] at h_); exact h_))
       have hs8_ : w'.cell? ⟨ad162.block, ad162.off + 2, none⟩ = some (.string ((rd_T23 y156 0).f2)) := (by first | exact hx163_2_z | (have h_ := hx163_2_z; (try simp only [Int.reduceToNat, Nat.zero_mul, Nat.reduceMul, Nat.reduceEqDiff, Go.Addr.add, ↓reduceIte, z0_] at h_); exact h_))
       have hs9_ : w'.cell? ⟨ad162.block, ad162.off + 3, none⟩ = some (.int .i64 ((rd_T23 y156 0).f3)) := (by first | exact hx163_3_z | (have h_ := hx163_3_z; (try simp only [Int.reduceToNat, Nat.zero_mul, Nat.reduceMul, Nat.reduceEqDiff, Go.Addr.add, ↓reduceIte, z0_] at h_); exact h_))
       have hs10_ : w'.cell? ⟨ad162.block, ad162.off + 4, none⟩ = some (.string ((rd_T23 y156 0).f4)) := (by first | exact hx163_4_z | (have h_ := hx163_4_z; (try simp only [Int.reduceToNat, Nat.zero_mul, Nat.reduceMul, Nat.reduceEqDiff, Go.Addr.add, ↓reduceIte, z0_] at h_); exact h_))
       have hs11_ : w'.cell? ⟨ad162.block, ad162.off + 5, none⟩ = some (.bool ((rd_T23 y156 0).f5)) := (by first | exact hx163_5_z | (have h_ := hx163_5_z; (try simp only [Int.reduceToNat, Nat.zero_mul, Nat.reduceMul, Nat.reduceEqDiff, Go.Addr.add, ↓reduceIte, z0_] at h_); exact h_))
       refine value_ (w1 := w') (v := .agg #[.int .i64 ((rd_T23 y156 0).f0), .int .i64 ((rd_T23 y156 0).f1), .string ((rd_T23 y156 0).f2), .int .i64 ((rd_T23 y156 0).f3), .string ((rd_T23 y156 0).f4), .bool ((rd_T23 y156 0).f5)]) (by rfl) rfl ?_ ?_
       ·go_simp
        (try simp only [i64_w])
        try rfl
       refine hK.out _ _ ⟨v160, v165, v168, v171, m12_, (by rw [ha.out]; exact putSel_upk 5 hb_ rfl rfl rfl), Q_HO158, Q_HB, Q_HO161, fun h0_ _ => absurd ((hoff 8 (by kernel_rfl)).symm.trans h0_) (by decide), Q_HO169, fun h0_ => absurd ((hoff 11 (by kernel_rfl)).symm.trans h0_) (by decide), fun h0_ => absurd ((hoff 12 (by kernel_rfl)).symm.trans h0_) (by decide)⟩
      refine steps_cons ?_ ?_
      ·rintro b a w' ⟨v160, v165, v168, v171, m12_, ha, Q_HO158, Q_HB, Q_HO161, Q_HO166, Q_HO169, Q_HO172, Q_X12_⟩ hb_ hon hoff
       refine ⟨_, rfl, fun K hK => ?_⟩
       have e27 : a.tmps[27]? = some (.agg #[.int .i64 ((rd_T23 y156 0).f0), .int .i64 ((rd_T23 y156 0).f1), .string ((rd_T23 y156 0).f2), .int .i64 ((rd_T23 y156 0).f3), .string ((rd_T23 y156 0).f4), .bool ((rd_T23 y156 0).f5)]) := by rw [ha]; exact putSel_on (e := (4, 27, .agg #[.int .i64 ((rd_T23 y156 0).f0), .int .i64 ((rd_T23 y156 0).f1), .string ((rd_T23 y156 0).f2), .int .i64 ((rd_T23 y156 0).f3), .string ((rd_T23 y156 0).f4), .bool ((rd_T23 y156 0).f5)])) 3 rfl rfl (hon 4 (by kernel_rfl)) rfl
       have e30 : a.tmps[30]? = some (.agg #[.int .i64 ((rd_T23 y156 0).f0), .int .i64 ((rd_T23 y156 0).f1), .string ((rd_T23 y156 0).f2), .int .i64 ((rd_T23 y156 0).f3), .string ((rd_T23 y156 0).f4), .bool ((rd_T23 y156 0).f5)]) := by rw [ha]; exact putSel_on (e := (7, 30, .agg #[.int .i64 ((rd_T23 y156 0).f0), .int .i64 ((rd_T23 y156 0).f1), .string ((rd_T23 y156 0).f2), .int .i64 ((rd_T23 y156 0).f3), .string ((rd_T23 y156 0).f4), .bool ((rd_T23 y156 0).f5)])) 5 rfl rfl (hon 7 (by kernel_rfl)) rfl
       replace ha := am_ ha
       have HO158 := am_ Q_HO158
       have HB := am_ Q_HB
       refine Kd.R_lit_step k23 _ 23 ?hg (N := 31) ?hd (xs := ([(⟨(rd_T23 y156 0).f0, (rd_T23 y156 0).f1, (rd_T23 y156 0).f2, (rd_T23 y156 0).f3, (rd_T23 y156 0).f4, (rd_T23 y156 0).f5⟩ : S23), (⟨(rd_T23 y156 0).f0, (rd_T23 y156 0).f1, (rd_T23 y156 0).f2, (rd_T23 y156 0).f3, (rd_T23 y156 0).f4, (rd_T23 y156 0).f5⟩ : S23)] : List (S23))) (inner := [.int .i64 ((rd_T23 y156 0).f0), .int .i64 ((rd_T23 y156 0).f1), .string ((rd_T23 y156 0).f2), .int .i64 ((rd_T23 y156 0).f3), .string ((rd_T23 y156 0).f4), .bool ((rd_T23 y156 0).f5), .int .i64 ((rd_T23 y156 0).f0), .int .i64 ((rd_T23 y156 0).f1), .string ((rd_T23 y156 0).f2), .int .i64 ((rd_T23 y156 0).f3), .string ((rd_T23 y156 0).f4), .bool ((rd_T23 y156 0).f5)]) (ok := fun _ => True) (okp := fun _ => True) ?hr ?hp (fun _ hk => hk) trivial (Below.refl _ _) (Nat.le_refl _) (by simp) ?_; (case hd => rfl); (case hg => rfl); (case hr => first | (go_simp; done) | (go_simp; rfl)); (case hp => exact (Reps.c6 (show Kd.M k23 _ _ _ (⟨(rd_T23 y156 0).f0, (rd_T23 y156 0).f1, (rd_T23 y156 0).f2, (rd_T23 y156 0).f3, (rd_T23 y156 0).f4, (rd_T23 y156 0).f5⟩ : S23) [.int .i64 ((rd_T23 y156 0).f0), .int .i64 ((rd_T23 y156 0).f1), .string ((rd_T23 y156 0).f2), .int .i64 ((rd_T23 y156 0).f3), .string ((rd_T23 y156 0).f4), .bool ((rd_T23 y156 0).f5)] from (k23_mkM _ _ _ (⟨(rd_T23 y156 0).f0, (rd_T23 y156 0).f1, (rd_T23 y156 0).f2, (rd_T23 y156 0).f3, (rd_T23 y156 0).f4, (rd_T23 y156 0).f5⟩ : S23) )) (Reps.c6 (show Kd.M k23 _ _ _ (⟨(rd_T23 y156 0).f0, (rd_T23 y156 0).f1, (rd_T23 y156 0).f2, (rd_T23 y156 0).f3, (rd_T23 y156 0).f4, (rd_T23 y156 0).f5⟩ : S23) [.int .i64 ((rd_T23 y156 0).f0), .int .i64 ((rd_T23 y156 0).f1), .string ((rd_T23 y156 0).f2), .int .i64 ((rd_T23 y156 0).f3), .string ((rd_T23 y156 0).f4), .bool ((rd_T23 y156 0).f5)] from (k23_mkM _ _ _ (⟨(rd_T23 y156 0).f0, (rd_T23 y156 0).f1, (rd_T23 y156 0).f2, (rd_T23 y156 0).f3, (rd_T23 y156 0).f4, (rd_T23 y156 0).f5⟩ : S23) )) (Reps.none _ _))))
       intro v165 w49 ho50 hb hg_ hnew_
       clear hg_ hnew_
       (first | rw [← Ny164.out] at ho50 | (simp only [Int.reduceToNat] at ho50; rw [← Ny164.out] at ho50))
       have n0_ := am_ (r5_ (by (with_reducible repeat (first | apply r1_ | apply r2_ | apply r3_)); exact HO158.out) (r4_ ho50) hb)
       have n1_ := am_ (Kd.R_lower (Kd.R_new' ho50 (Kd.R_lt (by (with_reducible repeat (first | apply r1_ | apply r2_ | apply r3_)); exact HO158.out))) (below_size (by repeat (with_reducible first | exact HB.out | apply p3_ | apply p1_ | apply p2_))))
       have n2_ := am_ (below_step (by repeat (with_reducible first | exact HB.out | apply p3_ | apply p1_ | apply p2_)) hb)
       have z_HO161 := fun (h0_ : b 1 = true) (h1_ : b 11 = false) => (show Kd.R k23 23 w49 w.heap.size (fun k_ => some k_ ≠ (.slice (some ad162) y156.length co48 : Value).ownBlock) v160 y159 from by first | exact (r5_ (by (with_reducible repeat (first | apply r1_ | apply r2_ | apply r3_)); exact (Q_HO161 h0_ h1_)) (r4_ ho50) hb) | exact Kd.R_mono (r5_ (by (with_reducible repeat (first | apply r1_ | apply r2_ | apply r3_)); exact (Q_HO161 h0_ h1_)) (r4_ ho50) hb) (fun _ h_ => by first | trivial | exact h_ | exact h_.1))
       have z_HO169 := fun (h0_ : b 10 = true) (h1_ : b 11 = false) => (show Kd.R k23 23 w49 w.heap.size (fun k_ => some k_ ≠ (.slice (some ad162) y156.length co48 : Value).ownBlock) v168 y167 from by first | exact (r5_ (by (with_reducible repeat (first | apply r1_ | apply r2_ | apply r3_)); exact (Q_HO169 h0_ h1_)) (r4_ ho50) hb) | exact Kd.R_mono (r5_ (by (with_reducible repeat (first | apply r1_ | apply r2_ | apply r3_)); exact (Q_HO169 h0_ h1_)) (r4_ ho50) hb) (fun _ h_ => by first | trivial | exact h_ | exact h_.1))
       clear HO158
       clear HB
       have HO158 := n0_
       have HO166 := n1_
       have HB := n2_
       clear n0_ n1_ n2_
       clear hb ho50
       refine hK.out _ _ ⟨v160, v165, v168, v171, m12_, (by rw [ha.out]; exact putSel_upk 6 hb_ rfl rfl rfl), (by (with_reducible repeat (first | apply r1_ | apply r2_ | apply r3_)); exact Kd.R_mono HO158.out (fun _ hk => by first | trivial | exact hk.2)), (by repeat (with_reducible first | exact HB.out | apply p3_ | apply p1_ | apply p2_)), z_HO161, fun _ _ => (by (with_reducible repeat (first | apply r1_ | apply r2_ | apply r3_)); exact Kd.R_mono HO166.out (fun _ hk => by first | trivial | exact hk.2)), z_HO169, fun h0_ => absurd ((hoff 11 (by kernel_rfl)).symm.trans h0_) (by decide), fun h0_ => absurd ((hoff 12 (by kernel_rfl)).symm.trans h0_) (by decide)⟩
      refine steps_cons ?_ ?_
      ·rintro b a w' ⟨v160, v165, v168, v171, m12_, ha, Q_HO158, Q_HB, Q_HO161, Q_HO166, Q_HO169, Q_HO172, Q_X12_⟩ hb_ hon hoff
       refine ⟨_, rfl, fun K hK => ?_⟩
       replace ha := am_ ha
       have HO158 := am_ Q_HO158
       have HB := am_ Q_HB
       refine value_ (w1 := w') (v := .agg #[.int .i64 10, .int .i64 1, .string (⟨#[]⟩ : ByteArray), .int .i64 0, .string (⟨#[]⟩ : ByteArray), .bool false]) (by rfl) rfl ?_ ?_
       ·go_simp
        (try simp only [i64_w])
        try rfl
       refine hK.out _ _ ⟨v160, v165, v168, v171, m12_, (by rw [ha.out]; exact putSel_upk 7 hb_ rfl rfl rfl), Q_HO158, Q_HB, Q_HO161, Q_HO166, fun h0_ _ => absurd ((hoff 10 (by kernel_rfl)).symm.trans h0_) (by decide), fun h0_ => absurd ((hoff 11 (by kernel_rfl)).symm.trans h0_) (by decide), fun h0_ => absurd ((hoff 12 (by kernel_rfl)).symm.trans h0_) (by decide)⟩
      refine steps_cons ?_ ?_
      ·rintro b a w' ⟨v160, v165, v168, v171, m12_, ha, Q_HO158, Q_HB, Q_HO161, Q_HO166, Q_HO169, Q_HO172, Q_X12_⟩ hb_ hon hoff
       refine ⟨_, rfl, fun K hK => ?_⟩
       have e32 : a.tmps[32]? = some (.agg #[.int .i64 10, .int .i64 1, .string (⟨#[]⟩ : ByteArray), .int .i64 0, .string (⟨#[]⟩ : ByteArray), .bool false]) := by rw [ha]; exact putSel_on (e := (9, 32, .agg #[.int .i64 10, .int .i64 1, .string (⟨#[]⟩ : ByteArray), .int .i64 0, .string (⟨#[]⟩ : ByteArray), .bool false])) 7 rfl rfl (hon 9 (by kernel_rfl)) rfl
       replace ha := am_ ha
       have HO158 := am_ Q_HO158
       have HB := am_ Q_HB
       refine Kd.R_lit_step k23 _ 23 ?hg (N := 33) ?hd (xs := ([(⟨10, 1, (⟨#[]⟩ : ByteArray), 0, (⟨#[]⟩ : ByteArray), false⟩ : S23)] : List (S23))) (inner := [.int .i64 10, .int .i64 1, .string (⟨#[]⟩ : ByteArray), .int .i64 0, .string (⟨#[]⟩ : ByteArray), .bool false]) (ok := fun _ => True) (okp := fun _ => True) ?hr ?hp (fun _ hk => hk) trivial (Below.refl _ _) (Nat.le_refl _) (by simp) ?_; (case hd => rfl); (case hg => rfl); (case hr => first | (go_simp; done) | (go_simp; rfl)); (case hp => exact (Reps.c6 (show Kd.M k23 _ _ _ (⟨10, 1, (⟨#[]⟩ : ByteArray), 0, (⟨#[]⟩ : ByteArray), false⟩ : S23) [.int .i64 10, .int .i64 1, .string (⟨#[]⟩ : ByteArray), .int .i64 0, .string (⟨#[]⟩ : ByteArray), .bool false] from (k23_mkM _ _ _ (⟨10, 1, (⟨#[]⟩ : ByteArray), 0, (⟨#[]⟩ : ByteArray), false⟩ : S23) )) (Reps.none _ _)))
       intro v168 w49 ho50 hb hg_ hnew_
       clear hg_ hnew_
       (first | rw [← Ny167.out] at ho50 | (simp only [Int.reduceToNat] at ho50; rw [← Ny167.out] at ho50))
       have n0_ := am_ (r5_ (by (with_reducible repeat (first | apply r1_ | apply r2_ | apply r3_)); exact HO158.out) (r4_ ho50) hb)
       have n1_ := am_ (Kd.R_lower (Kd.R_new' ho50 (Kd.R_lt (by (with_reducible repeat (first | apply r1_ | apply r2_ | apply r3_)); exact HO158.out))) (below_size (by repeat (with_reducible first | exact HB.out | apply p3_ | apply p1_ | apply p2_))))
       have n2_ := am_ (below_step (by repeat (with_reducible first | exact HB.out | apply p3_ | apply p1_ | apply p2_)) hb)
       have z_HO161 := fun (h0_ : b 1 = true) (h1_ : b 11 = false) => (show Kd.R k23 23 w49 w.heap.size (fun k_ => some k_ ≠ (.slice (some ad162) y156.length co48 : Value).ownBlock) v160 y159 from by first | exact (r5_ (by (with_reducible repeat (first | apply r1_ | apply r2_ | apply r3_)); exact (Q_HO161 h0_ h1_)) (r4_ ho50) hb) | exact Kd.R_mono (r5_ (by (with_reducible repeat (first | apply r1_ | apply r2_ | apply r3_)); exact (Q_HO161 h0_ h1_)) (r4_ ho50) hb) (fun _ h_ => by first | trivial | exact h_ | exact h_.1))
       have z_HO166 := fun (h0_ : b 8 = true) (h1_ : b 11 = false) => (show Kd.R k23 23 w49 w.heap.size (fun k_ => some k_ ≠ (.slice (some ad162) y156.length co48 : Value).ownBlock) v165 y164 from by first | exact (r5_ (by (with_reducible repeat (first | apply r1_ | apply r2_ | apply r3_)); exact (Q_HO166 h0_ h1_)) (r4_ ho50) hb) | exact Kd.R_mono (r5_ (by (with_reducible repeat (first | apply r1_ | apply r2_ | apply r3_)); exact (Q_HO166 h0_ h1_)) (r4_ ho50) hb) (fun _ h_ => by first | trivial | exact h_ | exact h_.1))
       clear HO158
       clear HB
       have HO158 := n0_
       have HO169 := n1_
       have HB := n2_
       clear n0_ n1_ n2_
       clear hb ho50
       refine hK.out _ _ ⟨v160, v165, v168, v171, m12_, (by rw [ha.out]; exact putSel_upk 8 hb_ rfl rfl rfl), (by (with_reducible repeat (first | apply r1_ | apply r2_ | apply r3_)); exact Kd.R_mono HO158.out (fun _ hk => by first | trivial | exact hk.2)), (by repeat (with_reducible first | exact HB.out | apply p3_ | apply p1_ | apply p2_)), z_HO161, z_HO166, fun _ _ => (by (with_reducible repeat (first | apply r1_ | apply r2_ | apply r3_)); exact Kd.R_mono HO169.out (fun _ hk => by first | trivial | exact hk.2)), fun h0_ => absurd ((hoff 11 (by kernel_rfl)).symm.trans h0_) (by decide), fun h0_ => absurd ((hoff 12 (by kernel_rfl)).symm.trans h0_) (by decide)⟩
      refine steps_cons ?_ ?_
      ·rintro b a w' ⟨v160, v165, v168, v171, m12_, ha, Q_HO158, Q_HB, Q_HO161, Q_HO166, Q_HO169, Q_HO172, Q_X12_⟩ hb_ hon hoff
       refine ⟨_, rfl, fun K hK => ?_⟩
       have e24 : a.tmps[24]? = some (v160) := by rw [ha]; exact putSel_on (e := (1, 24, v160)) 1 rfl rfl (hon 1 (by kernel_rfl)) rfl
       have e31 : a.tmps[31]? = some (v165) := by rw [ha]; exact putSel_on (e := (8, 31, v165)) 6 rfl rfl (hon 8 (by kernel_rfl)) rfl
       have e33 : a.tmps[33]? = some (v168) := by rw [ha]; exact putSel_on (e := (10, 33, v168)) 8 rfl rfl (hon 10 (by kernel_rfl)) rfl
       replace ha := am_ ha
       have HO158 := am_ Q_HO158
       have HB := am_ Q_HB
       have HO161 := am_ (Q_HO161 (hon 1 (by kernel_rfl)) hb_)
       have HO166 := am_ (Q_HO166 (hon 8 (by kernel_rfl)) hb_)
       have HO169 := am_ (Q_HO169 (hon 10 (by kernel_rfl)) hb_)
       obtain ⟨Ao56, co56, eo56⟩ := Kd.R_slice HO161.out
       (first | subst eo56 | (injection eo56 with f1_ f2_ f3_; have f4_ := f1_.symm; have f5_ := f3_.symm; clear f1_ f2_ f3_; subst f4_; subst f5_))
       obtain ⟨Ao57, co57, eo57⟩ := Kd.R_slice HO166.out
       (first | subst eo57 | (injection eo57 with f1_ f2_ f3_; have f4_ := f1_.symm; have f5_ := f3_.symm; clear f1_ f2_ f3_; subst f4_; subst f5_))
       obtain ⟨Ao58, co58, eo58⟩ := Kd.R_slice HO169.out
       (first | subst eo58 | (injection eo58 with f1_ f2_ f3_; have f4_ := f1_.symm; have f5_ := f3_.symm; clear f1_ f2_ f3_; subst f4_; subst f5_))
       refine Kd.N_lit_step (Kd.slice 23 k23) _ 33 ?hg (N' := 34) ?hd (xs := ([y159, y164, y167] : List (List (S23)))) (inner := [.slice Ao56 y159.length co56, .slice Ao57 y164.length co57, .slice Ao58 y167.length co58]) (ok := (fun k_ => some k_ ≠ (.slice (some ad162) y156.length co48 : Value).ownBlock)) (okp := (fun k_ => some k_ ≠ (.slice (some ad162) y156.length co48 : Value).ownBlock)) ?hr ?hp (fun _ hk => hk) ((show ∀ k_, w'.heap.size ≤ k_ → (fun k_ => some k_ ≠ (.slice (some ad162) y156.length co48 : Value).ownBlock) k_ from fun k_ hk => Kd.fresh' (Kd.R_lt (by (with_reducible repeat (first | apply r1_ | apply r2_ | apply r3_)); exact HO158.out)) k_ hk) _ (Nat.le_refl _)) (Below.refl _ _) (Nat.le_refl _) (by simp) ?_; (case hd => rfl); (case hg => rfl); (case hr => first | (go_simp; done) | (go_simp; rfl)); (case hp => exact (Reps.one (show Kd.FK (Kd.slice 23 k23) _ _ y159 [.slice Ao56 y159.length co56] from (Kd.FK_slice_mk (Kd.R_reads' (Kd.R_mono (ok' := (fun k_ => some k_ ≠ (.slice (some ad162) y156.length co48 : Value).ownBlock)) (HO161.out) (fun k_ hk => by first | exact hk | exact hk.1))).2.1 (Kd.R_F (Kd.R_mono (ok' := (fun k_ => some k_ ≠ (.slice (some ad162) y156.length co48 : Value).ownBlock)) (HO161.out) (fun k_ hk => by first | exact hk | exact hk.1))))) (Reps.one (show Kd.FK (Kd.slice 23 k23) _ _ y164 [.slice Ao57 y164.length co57] from (Kd.FK_slice_mk (Kd.R_reads' (Kd.R_mono (ok' := (fun k_ => some k_ ≠ (.slice (some ad162) y156.length co48 : Value).ownBlock)) (HO166.out) (fun k_ hk => by first | exact hk | exact hk.1))).2.1 (Kd.R_F (Kd.R_mono (ok' := (fun k_ => some k_ ≠ (.slice (some ad162) y156.length co48 : Value).ownBlock)) (HO166.out) (fun k_ hk => by first | exact hk | exact hk.1))))) (Reps.one (show Kd.FK (Kd.slice 23 k23) _ _ y167 [.slice Ao58 y167.length co58] from (Kd.FK_slice_mk (Kd.R_reads' (Kd.R_mono (ok' := (fun k_ => some k_ ≠ (.slice (some ad162) y156.length co48 : Value).ownBlock)) (HO169.out) (fun k_ hk => by first | exact hk | exact hk.1))).2.1 (Kd.R_F (Kd.R_mono (ok' := (fun k_ => some k_ ≠ (.slice (some ad162) y156.length co48 : Value).ownBlock)) (HO169.out) (fun k_ hk => by first | exact hk | exact hk.1))))) (Reps.none _ _)))))
       intro v171 w59 ho60 hb hg_ hnew_
       clear hg_ hnew_
       (first | rw [← Ny170.out] at ho60 | (simp only [Int.reduceToNat] at ho60; rw [← Ny170.out] at ho60))
       have n0_ := am_ (Kd.R_below (by (with_reducible repeat (first | apply r1_ | apply r2_ | apply r3_)); exact HO158.out) hb)
       have n1_ := am_ (Kd.N_lower ho60 (below_size (by repeat (with_reducible first | exact HB.out | apply p3_ | apply p1_ | apply p2_))))
       have n2_ := am_ (below_step (by repeat (with_reducible first | exact HB.out | apply p3_ | apply p1_ | apply p2_)) hb)
       clear HO158
       clear HB
       clear HO161
       clear HO166
       clear HO169
       have HO158 := n0_
       have HO172 := n1_
       have HB := n2_
       clear n0_ n1_ n2_
       clear hb ho60
       refine hK.out _ _ ⟨.slice Ao56 y159.length co56, .slice Ao57 y164.length co57, .slice Ao58 y167.length co58, v171, m12_, (by rw [ha.out]; exact putSel_upk 9 hb_ rfl rfl rfl), (by (with_reducible repeat (first | apply r1_ | apply r2_ | apply r3_)); exact Kd.R_mono HO158.out (fun _ hk => trivial)), (by repeat (with_reducible first | exact HB.out | apply p3_ | apply p1_ | apply p2_)), fun _ h1_ => absurd ((up_self b 11).symm.trans h1_) (by decide), fun _ h1_ => absurd ((up_self b 11).symm.trans h1_) (by decide), fun _ h1_ => absurd ((up_self b 11).symm.trans h1_) (by decide), fun _ => (by (with_reducible repeat (first | apply n1'_ | apply n2'_ | apply n3'_)); exact HO172.out), fun h0_ => absurd ((hoff 12 (by kernel_rfl)).symm.trans h0_) (by decide)⟩
      refine steps_cons ?_ ?_
      ·rintro b a w' ⟨v160, v165, v168, v171, m12_, ha, Q_HO158, Q_HB, Q_HO161, Q_HO166, Q_HO169, Q_HO172, Q_X12_⟩ hb_ hon hoff
       refine ⟨_, rfl, fun K hK => ?_⟩
       have e34 : a.tmps[34]? = some (v171) := by rw [ha]; exact putSel_on (e := (11, 34, v171)) 9 rfl rfl (hon 11 (by kernel_rfl)) rfl
       replace ha := am_ ha
       have HO158 := am_ Q_HO158
       have HB := am_ Q_HB
       have HO172 := am_ (Q_HO172 (hon 11 (by kernel_rfl)))
       refine value_ (w1 := w') (v := v171) (by rfl) rfl ?_ ?_
       ·go_simp
        (try simp only [i64_w])
        try rfl
       refine hK.out _ _ ⟨v160, v165, v168, v171, (v171), (by rw [ha.out]; exact putSel_upk 10 hb_ rfl rfl rfl), Q_HO158, Q_HB, fun _ h1_ => absurd ((hon 11 (by kernel_rfl)).symm.trans h1_) (by decide), fun _ h1_ => absurd ((hon 11 (by kernel_rfl)).symm.trans h1_) (by decide), fun _ h1_ => absurd ((hon 11 (by kernel_rfl)).symm.trans h1_) (by decide), Q_HO172, fun _ => rfl⟩
      exact steps_nil
     rintro b a w60 hall ⟨v160, v165, v168, v171, m12_, ha, Q_HO158, Q_HB, Q_HO161, Q_HO166, Q_HO169, Q_HO172, Q_X12_⟩
     clear HB HO158
     have hb0_ := hall 0 (by kernel_rfl)
     have hb1_ := hall 1 (by kernel_rfl)
     have hb3_ := hall 3 (by kernel_rfl)
     have hb4_ := hall 4 (by kernel_rfl)
     have hb6_ := hall 6 (by kernel_rfl)
     have hb7_ := hall 7 (by kernel_rfl)
     have hb8_ := hall 8 (by kernel_rfl)
     have hb9_ := hall 9 (by kernel_rfl)
     have hb10_ := hall 10 (by kernel_rfl)
     have hb11_ := hall 11 (by kernel_rfl)
     have hb12_ := hall 12 (by kernel_rfl)
     subst ha
     obtain rfl := Q_X12_ hb12_
     simp only [putSel, hb0_, hb1_, hb3_, hb4_, hb6_, hb7_, hb8_, hb9_, hb10_, hb11_, hb12_, if_true, Act.put, List.setIfInBounds_toArray, List.set_cons_zero, List.set_cons_succ]
     have HO158 := am_ Q_HO158
     clear Q_HO158
     have HB := am_ Q_HB
     clear Q_HB
     clear Q_HO161
     clear Q_HO166
     clear Q_HO169
     have HO172 := am_ (Q_HO172 hb11_)
     clear Q_HO172
     clear hall hb0_ hb1_ hb3_ hb4_ hb6_ hb7_ hb8_ hb9_ hb10_ hb11_ hb12_
     obtain ⟨Ao61, co61, eo61⟩ := Kd.N_slice HO172.out
     subst eo61
     have p173 : 0 ≤ ((ji6) : Int) := of_decide_eq_true (by first | (with_reducible assumption) | assumption)
     have q173 : (ji6) < (y170.length : Int) := of_decide_eq_true (by first | (with_reducible assumption) | assumption)
     obtain ⟨ad173, A173_0, c173_0, e173, hx173_0, hl173_0, hi173_0⟩ := at_L4 (Kd.N_reads' HO172.out).2.2 (ji6) p173 q173
     cases e173
     obtain ⟨ce173, hce173, hMe173, hcc173⟩ := Kd.N_get HO172.out [] (ji6) p173 (by first | exact q173 | exact of_decide_eq_true (by first | (with_reducible assumption) | assumption) | (have e_ := (Kd.N_reads' HO172.out).1; omega))
     obtain ⟨ua173_0, uc173_0, rfl, ul173_0, ge173_0⟩ := Kd.FK_slice_open hMe173
     have hv173_0 := hcc173 0 _ rfl
     rw [Nat.add_zero, show ((Kd.slice 23 k23)).sz = 1 from rfl, Nat.mul_one] at hv173_0
     replace hv173_0 := Option.some.inj (hv173_0.symm.trans hx173_0)
     injection hv173_0 with hva_ hvn_ hvc_
     rw [hva_] at ge173_0
     rw [hvc_] at ul173_0
     have HL173_0 := am_ (show Kd.V k23 23 _ w.heap.size _ _ (rd_L4 y170 (ji6)) from Kd.V_mk ul173_0 ge173_0)
     clear hva_ hvn_ hvc_ ge173_0 ul173_0
     clear hcc173 hce173
     have HR173_0 := am_ hi173_0
     have HC173_0 := am_ hl173_0
     clear hi173_0 hl173_0
     replace p173 := eq_true p173
     replace q173 := eq_true q173
     try go_wp2_with (first | ((with_reducible refine gate_callee (f := 22) rfl ?_); refine goesL_ (some 43) rfl rfl Try.func22 (by kernel_rfl) rfl #[.slice A173_0 (rd_L4 y170 (ji6)).length c173_0, .int .i64 0] rfl (by (try simp only [List.map_toArray, List.map_cons, List.map_nil]); first | done | (simp only [hji6]; rfl) | rfl | (simp only [List.length_drop, List.length_take]; rfl)) ?_; (with_reducible refine (sweep_Sweep.calls k _ _ (rd_L4 y170 (ji6)) 0 t174 t175 _ ?side1 ?side2 A9.out).mono ?_); (case side1 => repeat (first | exact (by repeat (first | (with_reducible exact HR173_0.out) | (with_reducible refine Kd.C_alloc ?_ _) | (with_reducible refine Kd.C_drewN ?_ _) | (with_reducible refine Kd.C_drew ?_) | exact HR173_0.out)) | (with_reducible refine Kd.C_alloc ?_ _) | (with_reducible refine Kd.C_drewN ?_ _) | (with_reducible refine Kd.C_drew ?_))); (case side2 => exact HC173_0.out); rintro e w62 ⟨v176, rfl, ho0, hb⟩; refine ⟨_, rfl, ?_⟩; have n0_ := am_ (r5_ (by (with_reducible repeat (first | apply r1_ | apply r2_ | apply r3_)); exact HO158.out) (r4_ ho0) hb); have n1_ := am_ (Kd.N_elder' (by (with_reducible repeat (first | apply n1'_ | apply n2'_ | apply n3'_)); exact HO172.out) (r4_ ho0) hb); have n2_ := am_ (Kd.V_elder' (by (with_reducible repeat (first | apply v1_ | apply v2_ | apply v3_)); exact HL173_0.out) (r4_ ho0) hb); have n3_ := am_ (Kd.R_lower (Kd.R_new' ho0 (Kd.R_lt (by (with_reducible repeat (first | apply r1_ | apply r2_ | apply r3_)); exact HO158.out))) (below_size (by repeat (with_reducible first | exact HB.out | apply p3_ | apply p1_ | apply p2_)))); have n4_ := am_ (Kd.C_below (by repeat (first | (with_reducible exact HR173_0.out) | (with_reducible refine Kd.C_alloc ?_ _) | (with_reducible refine Kd.C_drewN ?_ _) | (with_reducible refine Kd.C_drew ?_) | exact HR173_0.out)) hb); have n5_ := am_ (below_step (by repeat (with_reducible first | exact HB.out | apply p3_ | apply p1_ | apply p2_)) hb); clear HO158; clear HO172; clear HL173_0; clear HR173_0; clear HB; have HO158 := n0_; have HO172 := n1_; have HL173_0 := n2_; have HO177 := n3_; have HR173_0 := n4_; have HB := n5_; clear n0_ n1_ n2_ n3_ n4_ n5_; (try clear hb); (try clear ho0)) | ((with_reducible refine gate_callee (f := 22) rfl ?_); refine goesL_ (some 50) rfl rfl Try.func22 (by kernel_rfl) rfl #[.slice (some ad162) y156.length co48, .int .i64 (wrap64 (-(wrap64 (1 + (Go.bits .and .i64 a1 1023)))))] rfl (by (try simp only [List.map_toArray, List.map_cons, List.map_nil]); first | done | rfl | (simp only [List.length_drop, List.length_take]; rfl)) ?_; (with_reducible refine (sweep_Sweep.calls k _ _ y156 (wrap64 (-(wrap64 (1 + (Go.bits .and .i64 a1 1023))))) t178 t179 _ ?side1 ?side2 A10.out).mono ?_); (case side1 => repeat (first | exact (Kd.R_reads' HO158.out).2.2 | (with_reducible refine Kd.C_alloc ?_ _) | (with_reducible refine Kd.C_drewN ?_ _) | (with_reducible refine Kd.C_drew ?_))); (case side2 => exact (Kd.R_reads' HO158.out).2.1); rintro e w63 ⟨v180, rfl, ho0, hb⟩; refine ⟨_, rfl, ?_⟩; have n0_ := am_ (r5_ (by (with_reducible repeat (first | apply r1_ | apply r2_ | apply r3_)); exact HO158.out) (r4_ ho0) hb); have n1_ := am_ (Kd.N_elder' (by (with_reducible repeat (first | apply n1'_ | apply n2'_ | apply n3'_)); exact HO172.out) (r4_ ho0) hb); have n2_ := am_ (Kd.V_elder' (by (with_reducible repeat (first | apply v1_ | apply v2_ | apply v3_)); exact HL173_0.out) (r4_ ho0) hb); have n3_ := am_ (r5_ (by (with_reducible repeat (first | apply r1_ | apply r2_ | apply r3_)); exact HO177.out) (r4_ ho0) hb); have n4_ := am_ (Kd.R_lower (Kd.R_new' (Kd.R_new' ho0 (Kd.R_lt (by (with_reducible repeat (first | apply r1_ | apply r2_ | apply r3_)); exact HO158.out))) (Kd.R_lt (by (with_reducible repeat (first | apply r1_ | apply r2_ | apply r3_)); exact HO177.out))) (below_size (by repeat (with_reducible first | exact HB.out | apply p3_ | apply p1_ | apply p2_)))); have n5_ := am_ (Kd.C_below (by repeat (first | (with_reducible exact HR173_0.out) | (with_reducible refine Kd.C_alloc ?_ _) | (with_reducible refine Kd.C_drewN ?_ _) | (with_reducible refine Kd.C_drew ?_) | exact HR173_0.out)) hb); have n6_ := am_ (below_step (by repeat (with_reducible first | exact HB.out | apply p3_ | apply p1_ | apply p2_)) hb); clear HO158; clear HO172; clear HL173_0; clear HO177; clear HR173_0; clear HB; have HO158 := n0_; have HO172 := n1_; have HL173_0 := n2_; have HO177 := n3_; have HO181 := n4_; have HR173_0 := n5_; have HB := n6_; clear n0_ n1_ n2_ n3_ n4_ n5_ n6_; (try clear hb); (try clear ho0)) | ((with_reducible refine gate_callee (f := 22) rfl ?_); refine goesL_ (some 57) rfl rfl Try.func22 (by kernel_rfl) rfl #[.slice (some ad162) y156.length co48, .int .i64 (wrap64 (1099511627776 + (wrap64 (1 + (Go.bits .and .i64 a1 1023)))))] rfl (by (try simp only [List.map_toArray, List.map_cons, List.map_nil]); first | done | rfl | (simp only [List.length_drop, List.length_take]; rfl)) ?_; (with_reducible refine (sweep_Sweep.calls k _ _ y156 (wrap64 (1099511627776 + (wrap64 (1 + (Go.bits .and .i64 a1 1023))))) t182 t183 _ ?side1 ?side2 A11.out).mono ?_); (case side1 => repeat (first | exact (Kd.R_reads' HO158.out).2.2 | (with_reducible refine Kd.C_alloc ?_ _) | (with_reducible refine Kd.C_drewN ?_ _) | (with_reducible refine Kd.C_drew ?_))); (case side2 => exact (Kd.R_reads' HO158.out).2.1); rintro e w64 ⟨v184, rfl, ho0, hb⟩; refine ⟨_, rfl, ?_⟩; have n0_ := am_ (r5_ (by (with_reducible repeat (first | apply r1_ | apply r2_ | apply r3_)); exact HO158.out) (r4_ ho0) hb); have n1_ := am_ (Kd.N_elder' (by (with_reducible repeat (first | apply n1'_ | apply n2'_ | apply n3'_)); exact HO172.out) (r4_ ho0) hb); have n2_ := am_ (Kd.V_elder' (by (with_reducible repeat (first | apply v1_ | apply v2_ | apply v3_)); exact HL173_0.out) (r4_ ho0) hb); have n3_ := am_ (r5_ (by (with_reducible repeat (first | apply r1_ | apply r2_ | apply r3_)); exact HO177.out) (r4_ ho0) hb); have n4_ := am_ (r5_ (by (with_reducible repeat (first | apply r1_ | apply r2_ | apply r3_)); exact HO181.out) (r4_ ho0) hb); have n5_ := am_ (Kd.R_lower (Kd.R_new' (Kd.R_new' (Kd.R_new' ho0 (Kd.R_lt (by (with_reducible repeat (first | apply r1_ | apply r2_ | apply r3_)); exact HO158.out))) (Kd.R_lt (by (with_reducible repeat (first | apply r1_ | apply r2_ | apply r3_)); exact HO177.out))) (Kd.R_lt (by (with_reducible repeat (first | apply r1_ | apply r2_ | apply r3_)); exact HO181.out))) (below_size (by repeat (with_reducible first | exact HB.out | apply p3_ | apply p1_ | apply p2_)))); have n6_ := am_ (Kd.C_below (by repeat (first | (with_reducible exact HR173_0.out) | (with_reducible refine Kd.C_alloc ?_ _) | (with_reducible refine Kd.C_drewN ?_ _) | (with_reducible refine Kd.C_drew ?_) | exact HR173_0.out)) hb); have n7_ := am_ (below_step (by repeat (with_reducible first | exact HB.out | apply p3_ | apply p1_ | apply p2_)) hb); clear HO158; clear HO172; clear HL173_0; clear HO177; clear HO181; clear HR173_0; clear HB; have HO158 := n0_; have HO172 := n1_; have HL173_0 := n2_; have HO177 := n3_; have HO181 := n4_; have HO185 := n5_; have HR173_0 := n6_; have HB := n7_; clear n0_ n1_ n2_ n3_ n4_ n5_ n6_ n7_; (try clear hb); (try clear ho0)) | ((with_reducible refine gate_callee (f := 22) rfl ?_); refine goesL_ (some 61) rfl rfl Try.func22 (by kernel_rfl) rfl #[.slice none 0 0, .int .i64 1099511627776] rfl (by (try simp only [List.map_toArray, List.map_cons, List.map_nil]); first | done | rfl | (simp only [List.length_drop, List.length_take]; rfl)) ?_; (refine (sweep_Sweep.calls k _ _ ([] : List (S23)) 1099511627776 t186 t187 _ ?side1 ?side2 A12.out).mono ?_); (case side1 => exact Kd.C_nil _ _); (case side2 => exact Nat.le_refl _); rintro e w65 ⟨v188, rfl, ho0, hb⟩; refine ⟨_, rfl, ?_⟩; have n0_ := am_ (r5_ (by (with_reducible repeat (first | apply r1_ | apply r2_ | apply r3_)); exact HO158.out) (r4_ ho0) hb); have n1_ := am_ (Kd.N_elder' (by (with_reducible repeat (first | apply n1'_ | apply n2'_ | apply n3'_)); exact HO172.out) (r4_ ho0) hb); have n2_ := am_ (Kd.V_elder' (by (with_reducible repeat (first | apply v1_ | apply v2_ | apply v3_)); exact HL173_0.out) (r4_ ho0) hb); have n3_ := am_ (r5_ (by (with_reducible repeat (first | apply r1_ | apply r2_ | apply r3_)); exact HO177.out) (r4_ ho0) hb); have n4_ := am_ (r5_ (by (with_reducible repeat (first | apply r1_ | apply r2_ | apply r3_)); exact HO181.out) (r4_ ho0) hb); have n5_ := am_ (r5_ (by (with_reducible repeat (first | apply r1_ | apply r2_ | apply r3_)); exact HO185.out) (r4_ ho0) hb); have n6_ := am_ (Kd.R_lower (Kd.R_new' (Kd.R_new' (Kd.R_new' (Kd.R_new' ho0 (Kd.R_lt (by (with_reducible repeat (first | apply r1_ | apply r2_ | apply r3_)); exact HO158.out))) (Kd.R_lt (by (with_reducible repeat (first | apply r1_ | apply r2_ | apply r3_)); exact HO177.out))) (Kd.R_lt (by (with_reducible repeat (first | apply r1_ | apply r2_ | apply r3_)); exact HO181.out))) (Kd.R_lt (by (with_reducible repeat (first | apply r1_ | apply r2_ | apply r3_)); exact HO185.out))) (below_size (by repeat (with_reducible first | exact HB.out | apply p3_ | apply p1_ | apply p2_)))); have n7_ := am_ (Kd.C_below (by repeat (first | (with_reducible exact HR173_0.out) | (with_reducible refine Kd.C_alloc ?_ _) | (with_reducible refine Kd.C_drewN ?_ _) | (with_reducible refine Kd.C_drew ?_) | exact HR173_0.out)) hb); have n8_ := am_ (below_step (by repeat (with_reducible first | exact HB.out | apply p3_ | apply p1_ | apply p2_)) hb); clear HO158; clear HO172; clear HL173_0; clear HO177; clear HO181; clear HO185; clear HR173_0; clear HB; have HO158 := n0_; have HO172 := n1_; have HL173_0 := n2_; have HO177 := n3_; have HO181 := n4_; have HO185 := n5_; have HO189 := n6_; have HR173_0 := n7_; have HB := n8_; clear n0_ n1_ n2_ n3_ n4_ n5_ n6_ n7_ n8_; (try clear hb); (try clear ho0)) | ((with_reducible refine gate_callee (f := 20) rfl ?_); refine goesL_ (some 65) rfl rfl Try.func20 (by kernel_rfl) rfl #[.int .i64 t175] rfl (by (try simp only [List.map_toArray, List.map_cons, List.map_nil]); first | done | rfl | (simp only [List.length_drop, List.length_take]; rfl)) ?_; (with_reducible refine (pinfoldlaw0_Num.calls t175 t190 _ A13.out).mono ?_); rintro e w' ⟨rfl, ⟨nd, rfl⟩⟩; refine ⟨_, rfl, ?_⟩) | (go_at_call 20; (with_reducible refine (pinfoldlaw0_Num.calls t179 t191 _ A15.out).mono ?_); rintro e w' ⟨rfl, ⟨nd, rfl⟩⟩) | (go_at_call 20; (with_reducible refine (pinfoldlaw0_Num.calls t183 t192 _ A17.out).mono ?_); rintro e w' ⟨rfl, ⟨nd, rfl⟩⟩; obtain ⟨Ao66, co66, eo66⟩ := Kd.R_slice HO189.out; subst eo66))
     go_ret
     exact ⟨by first | rfl | (simp [errW_none, errW_some] <;> rfl) | (simp only [← hji6]; first | rfl | (simp [errW_none, errW_some] <;> rfl)) | (simp [*, errW_none, errW_some] <;> rfl), by repeat (with_reducible first | exact HB.out | apply p3_ | apply p1_ | apply p2_)⟩
    rw [if_neg c18] at H
    have c18b0 : (t192 == 1900) = false := beq_eq_false_iff_ne.mpr c18
    have c18b1 : (t192 != 1900) = true := bne_iff_ne.mpr c18
    obtain rfl := Option.some.inj H
    go_enter Try.func9, Try.ntmps9
    try go_wp2_with (first | ((with_reducible refine gate_callee (f := 27) rfl ?_); refine goesL_ (some 16) rfl rfl Try.func27 (by kernel_rfl) rfl #[] rfl (by (try simp only [List.map_toArray, List.map_cons, List.map_nil]); first | done | rfl | (simp only [List.length_drop, List.length_take]; rfl)) ?_; (with_reducible refine (pinfoldlaw19_awake.calls k  true _ A3.out).mono ?_); rintro e w67 ⟨rfl, hb⟩; refine ⟨_, rfl, ?_⟩; have n0_ := am_ (below_step (by repeat (with_reducible first | exact HB.out | apply p3_ | apply p1_ | apply p2_)) hb); clear HB; have HB := n0_; clear n0_; (try clear hb)) | ((with_reducible refine gate_dst (N := 22) rfl ?_); (try (refine gate_guard (by rfl) ?_; dsimp only)); refine Kd.R_lit k23 _ 23 ?hg (N := 22) ?hd (xs := ([(⟨10, 2, (⟨#[109, 101]⟩ : ByteArray), 9, (⟨#[]⟩ : ByteArray), false⟩ : S23)] : List (S23))) (inner := [.int .i64 10, .int .i64 2, .string (⟨#[109, 101]⟩ : ByteArray), .int .i64 9, .string (⟨#[]⟩ : ByteArray), .bool false]) (ok := fun _ => True) (okp := fun _ => True) ?hr ?hp (fun _ hk => hk) trivial (Below.refl _ _) (Nat.le_refl _) (by simp) ?_; (case hd => rfl); (case hg => rfl); (case hr => first | (go_simp; done) | (go_simp; rfl)); (case hp => exact (Reps.c6 (show Kd.M k23 _ _ _ (⟨10, 2, (⟨#[109, 101]⟩ : ByteArray), 9, (⟨#[]⟩ : ByteArray), false⟩ : S23) [.int .i64 10, .int .i64 2, .string (⟨#[109, 101]⟩ : ByteArray), .int .i64 9, .string (⟨#[]⟩ : ByteArray), .bool false] from (k23_mkM _ _ _ (⟨10, 2, (⟨#[109, 101]⟩ : ByteArray), 9, (⟨#[]⟩ : ByteArray), false⟩ : S23) )) (Reps.none _ _))); intro v157 w68 ho69 hb hg_ hnew_; clear hg_ hnew_; (first | rw [← Ny156.out] at ho69 | (simp only [Int.reduceToNat] at ho69; rw [← Ny156.out] at ho69)); have n0_ := am_ (Kd.R_lower ho69 (below_size (by repeat (with_reducible first | exact HB.out | apply p3_ | apply p1_ | apply p2_)))); have n1_ := am_ (below_step (by repeat (with_reducible first | exact HB.out | apply p3_ | apply p1_ | apply p2_)) hb); clear HB; have HO158 := n0_; have HB := n1_; clear n0_ n1_; clear hb ho69))
    have n0_ := am_ (r3_ HO158.out)
    have n1_ := am_ (p2_ HB.out)
    clear HO158
    clear HB
    have HO158 := n0_
    have HB := n1_
    clear n0_ n1_
    obtain ⟨Ao71, co71, eo71⟩ := Kd.R_slice HO158.out
    (first | subst eo71 | (injection eo71 with f1_ f2_ f3_; have f4_ := f1_.symm; have f5_ := f3_.symm; clear f1_ f2_ f3_; subst f4_; subst f5_))
    have p162 : 0 ≤ (0 : Int) := (by omega)
    have q162 : 0 < (y156.length : Int) := of_decide_eq_true (by first | (with_reducible assumption) | assumption)
    obtain ⟨ad162, e162, hx162_0, hx162_1, hx162_2, hx162_3, hx162_4, hx162_5⟩ := at_T23 (Kd.R_reads' HO158.out).2.2 0 p162 q162
    cases e162
    have qi162 : (0 < y156.length) = True := eq_true (by omega)
    (try rw [show ((0 : Int)).toNat = 0 from rfl] at hx162_0)
    (try rw [show 0 * 6 = 0 from rfl] at hx162_0)
    (try rw [z0_] at hx162_0)
    (try rw [show ((0 : Int)).toNat = 0 from rfl] at hx162_1)
    (try rw [show 0 * 6 = 0 from rfl] at hx162_1)
    (try rw [z0_] at hx162_1)
    (try rw [show ((0 : Int)).toNat = 0 from rfl] at hx162_2)
    (try rw [show 0 * 6 = 0 from rfl] at hx162_2)
    (try rw [z0_] at hx162_2)
    (try rw [show ((0 : Int)).toNat = 0 from rfl] at hx162_3)
    (try rw [show 0 * 6 = 0 from rfl] at hx162_3)
    (try rw [z0_] at hx162_3)
    (try rw [show ((0 : Int)).toNat = 0 from rfl] at hx162_4)
    (try rw [show 0 * 6 = 0 from rfl] at hx162_4)
    (try rw [z0_] at hx162_4)
    (try rw [show ((0 : Int)).toNat = 0 from rfl] at hx162_5)
    (try rw [show 0 * 6 = 0 from rfl] at hx162_5)
    (try rw [z0_] at hx162_5)
    replace p162 := eq_true p162
    replace q162 := eq_true q162
    have p163 : 0 ≤ (0 : Int) := (by omega)
    have q163 : 0 < (y156.length : Int) := of_decide_eq_true (by first | (with_reducible assumption) | assumption)
    obtain ⟨ad163, e163, hx163_0, hx163_1, hx163_2, hx163_3, hx163_4, hx163_5⟩ := at_T23 (Kd.R_reads' HO158.out).2.2 0 p163 q163
    obtain rfl : ad162 = ad163 := (by injection e163)
    have qi163 : (0 < y156.length) = True := eq_true (by omega)
    (try rw [show ((0 : Int)).toNat = 0 from rfl] at hx163_0)
    (try rw [show 0 * 6 = 0 from rfl] at hx163_0)
    (try rw [z0_] at hx163_0)
    (try rw [show ((0 : Int)).toNat = 0 from rfl] at hx163_1)
    (try rw [show 0 * 6 = 0 from rfl] at hx163_1)
    (try rw [z0_] at hx163_1)
    (try rw [show ((0 : Int)).toNat = 0 from rfl] at hx163_2)
    (try rw [show 0 * 6 = 0 from rfl] at hx163_2)
    (try rw [z0_] at hx163_2)
    (try rw [show ((0 : Int)).toNat = 0 from rfl] at hx163_3)
    (try rw [show 0 * 6 = 0 from rfl] at hx163_3)
    (try rw [z0_] at hx163_3)
    (try rw [show ((0 : Int)).toNat = 0 from rfl] at hx163_4)
    (try rw [show 0 * 6 = 0 from rfl] at hx163_4)
    (try rw [z0_] at hx163_4)
    (try rw [show ((0 : Int)).toNat = 0 from rfl] at hx163_5)
    (try rw [show 0 * 6 = 0 from rfl] at hx163_5)
    (try rw [z0_] at hx163_5)
    replace p163 := eq_true p163
    replace q163 := eq_true q163
    refine start_ (n := 13) (S := fun w' => True) (ds := []) #[false, false, false, false, false, false, false, false, false, false, false, false, false] (by kernel_rfl) rfl rfl trivial (fun hHeld => ?_); refine with_tabW pinfoldlaw19_SweepForms.tab5 pinfoldlaw19_SweepForms.bits5 (fun HT_ HW_ => ?_)
    generalize w68.drew = w70 at HO158 HB hx162_0 hx162_1 hx162_2 hx162_3 hx162_4 hx162_5 hx163_0 hx163_1 hx163_2 hx163_3 hx163_4 hx163_5 hHeld ⊢
    refine pure_ (i := 2) (N := some 25) (v := ?_) (a' := ?_) #[false, false, true, false, false, false, false, false, false, false, false, false, false] rfl rfl (any_of HT_.out (by kernel_rfl)) (fun _ _ _ h => h) (Or.inl ⟨by rfl, ?_⟩) ?_ ?_
    rotate_left
    ·intro w'
     go_simp
     with_reducible rfl
    rotate_left
    ·simp only [Act.put, List.setIfInBounds_toArray, List.set_cons_zero, List.set_cons_succ, i64_w, i32_w]
     rfl
    refine pure_ (i := 5) (N := some 28) (v := ?_) (a' := ?_) #[false, false, true, false, false, true, false, false, false, false, false, false, false] rfl rfl (any_of HT_.out (by kernel_rfl)) (fun _ _ _ h => h) (Or.inl ⟨by rfl, ?_⟩) ?_ ?_
    rotate_left
    ·intro w'
     go_simp
     with_reducible rfl
    rotate_left
    ·simp only [Act.put, List.setIfInBounds_toArray, List.set_cons_zero, List.set_cons_succ, i64_w, i32_w]
     rfl
    refine inv_at [0, 1, 3, 4, 6, 7, 8, 9, 10, 11, 12] (fun a0_ b a w' => ∃ (v160 : Value) (v165 : Value) (v168 : Value) (v171 : Value) (m12_ : Value), a = putSel a0_ b [(0, 23, .agg #[.int .i64 0, .int .i64 0, .string (⟨#[]⟩ : ByteArray), .int .i64 0, .string (⟨#[]⟩ : ByteArray), .bool false]), (1, 24, v160), (3, 26, .pointer (some ad162)), (4, 27, .agg #[.int .i64 ((rd_T23 y156 0).f0), .int .i64 ((rd_T23 y156 0).f1), .string ((rd_T23 y156 0).f2), .int .i64 ((rd_T23 y156 0).f3), .string ((rd_T23 y156 0).f4), .bool ((rd_T23 y156 0).f5)]), (6, 29, .pointer (some ad162)), (7, 30, .agg #[.int .i64 ((rd_T23 y156 0).f0), .int .i64 ((rd_T23 y156 0).f1), .string ((rd_T23 y156 0).f2), .int .i64 ((rd_T23 y156 0).f3), .string ((rd_T23 y156 0).f4), .bool ((rd_T23 y156 0).f5)]), (8, 31, v165), (9, 32, .agg #[.int .i64 10, .int .i64 1, .string (⟨#[]⟩ : ByteArray), .int .i64 0, .string (⟨#[]⟩ : ByteArray), .bool false]), (10, 33, v168), (11, 34, v171), (12, 7, m12_)] ∧ (Kd.R k23 23 w' w.heap.size (fun _ => True) (.slice (some ad162) y156.length co71) y156) ∧ (Below w.heap.size w w') ∧ (b 1 = true → b 11 = false → Kd.R k23 23 w' w.heap.size (fun k_ => some k_ ≠ (.slice (some ad162) y156.length co71 : Value).ownBlock) v160 y159) ∧ (b 8 = true → b 11 = false → Kd.R k23 23 w' w.heap.size (fun k_ => some k_ ≠ (.slice (some ad162) y156.length co71 : Value).ownBlock) v165 y164) ∧ (b 10 = true → b 11 = false → Kd.R k23 23 w' w.heap.size (fun k_ => some k_ ≠ (.slice (some ad162) y156.length co71 : Value).ownBlock) v168 y167) ∧ (b 11 = true → Kd.N (Kd.slice 23 k23) 33 w' w.heap.size (fun k_ => some k_ ≠ (.slice (some ad162) y156.length co71 : Value).ownBlock) v171 y170) ∧ (b 12 = true → (m12_ : Value) = v171)) HT_.out HW_.out (by kernel_rfl) (by kernel_rfl) ?_ ?_ ?_
    ·exact ⟨.bool false, .bool false, .bool false, .bool false, .bool false, by simp only [putSel, Bool.false_eq_true, if_false], HO158.out, HB.out, fun h_ => absurd h_ (by decide), fun h_ => absurd h_ (by decide), fun h_ => absurd h_ (by decide), fun h_ => absurd h_ (by decide), fun h_ => absurd h_ (by decide)⟩
    ·skip
     clear HB HO158
     refine steps_cons ?_ ?_
     ·rintro b a w' ⟨v160, v165, v168, v171, m12_, ha, Q_HO158, Q_HB, Q_HO161, Q_HO166, Q_HO169, Q_HO172, Q_X12_⟩ hb_ hon hoff
      refine ⟨_, rfl, fun K hK => ?_⟩
      replace ha := am_ ha
      have HO158 := am_ Q_HO158
      have HB := am_ Q_HB
      refine value_ (w1 := w') (v := .agg #[.int .i64 0, .int .i64 0, .string (⟨#[]⟩ : ByteArray), .int .i64 0, .string (⟨#[]⟩ : ByteArray), .bool false]) (by rfl) rfl ?_ ?_
      ·go_simp
       (try simp only [i64_w])
       try rfl
      refine hK.out _ _ ⟨v160, v165, v168, v171, m12_, (by rw [ha.out]; exact putSel_upk 0 hb_ rfl rfl rfl), Q_HO158, Q_HB, fun h0_ _ => absurd ((hoff 1 (by kernel_rfl)).symm.trans h0_) (by decide), Q_HO166, Q_HO169, fun h0_ => absurd ((hoff 11 (by kernel_rfl)).symm.trans h0_) (by decide), fun h0_ => absurd ((hoff 12 (by kernel_rfl)).symm.trans h0_) (by decide)⟩
     refine steps_cons ?_ ?_
     ·rintro b a w' ⟨v160, v165, v168, v171, m12_, ha, Q_HO158, Q_HB, Q_HO161, Q_HO166, Q_HO169, Q_HO172, Q_X12_⟩ hb_ hon hoff
      refine ⟨_, rfl, fun K hK => ?_⟩
      have e23 : a.tmps[23]? = some (.agg #[.int .i64 0, .int .i64 0, .string (⟨#[]⟩ : ByteArray), .int .i64 0, .string (⟨#[]⟩ : ByteArray), .bool false]) := by rw [ha]; exact putSel_on (e := (0, 23, .agg #[.int .i64 0, .int .i64 0, .string (⟨#[]⟩ : ByteArray), .int .i64 0, .string (⟨#[]⟩ : ByteArray), .bool false])) 0 rfl rfl (hon 0 (by kernel_rfl)) rfl
      replace ha := am_ ha
      have HO158 := am_ Q_HO158
      have HB := am_ Q_HB
      refine Kd.R_lit_step k23 _ 23 ?hg (N := 24) ?hd (xs := ([(⟨0, 0, (⟨#[]⟩ : ByteArray), 0, (⟨#[]⟩ : ByteArray), false⟩ : S23)] : List (S23))) (inner := [.int .i64 0, .int .i64 0, .string (⟨#[]⟩ : ByteArray), .int .i64 0, .string (⟨#[]⟩ : ByteArray), .bool false]) (ok := fun _ => True) (okp := fun _ => True) ?hr ?hp (fun _ hk => hk) trivial (Below.refl _ _) (Nat.le_refl _) (by simp) ?_; (case hd => rfl); (case hg => rfl); (case hr => first | (go_simp; done) | (go_simp; rfl)); (case hp => exact (Reps.c6 (show Kd.M k23 _ _ _ (⟨0, 0, (⟨#[]⟩ : ByteArray), 0, (⟨#[]⟩ : ByteArray), false⟩ : S23) [.int .i64 0, .int .i64 0, .string (⟨#[]⟩ : ByteArray), .int .i64 0, .string (⟨#[]⟩ : ByteArray), .bool false] from (k23_mkM _ _ _ (⟨0, 0, (⟨#[]⟩ : ByteArray), 0, (⟨#[]⟩ : ByteArray), false⟩ : S23) )) (Reps.none _ _)))
      intro v160 w72 ho73 hb hg_ hnew_
      clear hg_ hnew_
      (first | rw [← Ny159.out] at ho73 | (simp only [Int.reduceToNat] at ho73; rw [← Ny159.out] at ho73))
      have n0_ := am_ (r5_ (by (with_reducible repeat (first | apply r1_ | apply r2_ | apply r3_)); exact HO158.out) (r4_ ho73) hb)
      have n1_ := am_ (Kd.R_lower (Kd.R_new' ho73 (Kd.R_lt (by (with_reducible repeat (first | apply r1_ | apply r2_ | apply r3_)); exact HO158.out))) (below_size (by repeat (with_reducible first | exact HB.out | apply p3_ | apply p1_ | apply p2_))))
      have n2_ := am_ (below_step (by repeat (with_reducible first | exact HB.out | apply p3_ | apply p1_ | apply p2_)) hb)
      have z_HO166 := fun (h0_ : b 8 = true) (h1_ : b 11 = false) => (show Kd.R k23 23 w72 w.heap.size (fun k_ => some k_ ≠ (.slice (some ad162) y156.length co71 : Value).ownBlock) v165 y164 from by first | exact (r5_ (by (with_reducible repeat (first | apply r1_ | apply r2_ | apply r3_)); exact (Q_HO166 h0_ h1_)) (r4_ ho73) hb) | exact Kd.R_mono (r5_ (by (with_reducible repeat (first | apply r1_ | apply r2_ | apply r3_)); exact (Q_HO166 h0_ h1_)) (r4_ ho73) hb) (fun _ h_ => by first | trivial | exact h_ | exact h_.1))
      have z_HO169 := fun (h0_ : b 10 = true) (h1_ : b 11 = false) => (show Kd.R k23 23 w72 w.heap.size (fun k_ => some k_ ≠ (.slice (some ad162) y156.length co71 : Value).ownBlock) v168 y167 from by first | exact (r5_ (by (with_reducible repeat (first | apply r1_ | apply r2_ | apply r3_)); exact (Q_HO169 h0_ h1_)) (r4_ ho73) hb) | exact Kd.R_mono (r5_ (by (with_reducible repeat (first | apply r1_ | apply r2_ | apply r3_)); exact (Q_HO169 h0_ h1_)) (r4_ ho73) hb) (fun _ h_ => by first | trivial | exact h_ | exact h_.1))
      clear HO158
      clear HB
      have HO158 := n0_
      have HO161 := n1_
      have HB := n2_
      clear n0_ n1_ n2_
      clear hb ho73
      refine hK.out _ _ ⟨v160, v165, v168, v171, m12_, (by rw [ha.out]; exact putSel_upk 1 hb_ rfl rfl rfl), (by (with_reducible repeat (first | apply r1_ | apply r2_ | apply r3_)); exact Kd.R_mono HO158.out (fun _ hk => by first | trivial | exact hk.2)), (by repeat (with_reducible first | exact HB.out | apply p3_ | apply p1_ | apply p2_)), fun _ _ => (by (with_reducible repeat (first | apply r1_ | apply r2_ | apply r3_)); exact Kd.R_mono HO161.out (fun _ hk => by first | trivial | exact hk.2)), z_HO166, z_HO169, fun h0_ => absurd ((hoff 11 (by kernel_rfl)).symm.trans h0_) (by decide), fun h0_ => absurd ((hoff 12 (by kernel_rfl)).symm.trans h0_) (by decide)⟩
     refine steps_cons ?_ ?_
     ·rintro b a w' ⟨v160, v165, v168, v171, m12_, ha, Q_HO158, Q_HB, Q_HO161, Q_HO166, Q_HO169, Q_HO172, Q_X12_⟩ hb_ hon hoff
      refine ⟨_, rfl, fun K hK => ?_⟩
      have e25 : a.tmps[25]? = some (.slice (some ad162) y156.length co71) := by rw [ha]; exact (putSel_off rfl).trans rfl
      replace ha := am_ ha
      have HO158 := am_ Q_HO158
      have HB := am_ Q_HB
      refine value_ (w1 := w') (v := .pointer (some ad162)) (by rfl) rfl ?_ ?_
      ·go_simp
       (try simp only [i64_w])
       try rfl
      refine hK.out _ _ ⟨v160, v165, v168, v171, m12_, (by rw [ha.out]; exact putSel_upk 2 hb_ rfl rfl rfl), Q_HO158, Q_HB, Q_HO161, fun h0_ _ => absurd ((hoff 8 (by kernel_rfl)).symm.trans h0_) (by decide), Q_HO169, fun h0_ => absurd ((hoff 11 (by kernel_rfl)).symm.trans h0_) (by decide), fun h0_ => absurd ((hoff 12 (by kernel_rfl)).symm.trans h0_) (by decide)⟩
     refine steps_cons ?_ ?_
     ·rintro b a w' ⟨v160, v165, v168, v171, m12_, ha, Q_HO158, Q_HB, Q_HO161, Q_HO166, Q_HO169, Q_HO172, Q_X12_⟩ hb_ hon hoff
      refine ⟨_, rfl, fun K hK => ?_⟩
      have e26 : a.tmps[26]? = some (.pointer (some ad162)) := by rw [ha]; exact putSel_on (e := (3, 26, .pointer (some ad162))) 2 rfl rfl (hon 3 (by kernel_rfl)) rfl
      replace ha := am_ ha
      have HO158 := am_ Q_HO158
      have HB := am_ Q_HB
      obtain ⟨ad162_z, e162_z, hx162_0_z, hx162_1_z, hx162_2_z, hx162_3_z, hx162_4_z, hx162_5_z⟩ := at_T23 (Kd.R_reads' HO158.out).2.2 0 (of_eq_true p162) (of_eq_true q162)
      cases e162_z
      have hs0_ : w'.cell? ad162 = some (.int .i64 ((rd_T23 y156 0).f0)) := (by first | exact hx162_0_z | (have h_ := hx162_0_z; (try simp only [Int.reduceToNat, Nat.zero_mul, Nat.reduceMul, Nat.reduceEqDiff, Go.Addr.add, ↓reduceIte, z0_] at h_); exact h_))
      have hs1_ : w'.cell? ⟨ad162.block, ad162.off + 1, none⟩ = some (.int .i64 ((rd_T23 y156 0).f1)) := (by first | exact hx162_1_z | (have h_ := hx162_1_z; (try simp only [Int.reduceToNat, Nat.zero_mul, Nat.reduceMul, Nat.reduceEqDiff, Go.Addr.add, ↓reduceIte, z0_] at h_); exact h_))
      have hs2_ : w'.cell? ⟨ad162.block, ad162.off + 2, none⟩ = some (.string ((rd_T23 y156 0).f2)) := (by first | exact hx162_2_z | (have h_ := hx162_2_z; (try simp only [Int.reduceToNat, Nat.zero_mul, Nat.reduceMul, Nat.reduceEqDiff, Go.Addr.add, ↓reduceIte, z0_] at h_); exact h_))
      have hs3_ : w'.cell? ⟨ad162.block, ad162.off + 3, none⟩ = some (.int .i64 ((rd_T23 y156 0).f3)) := (by first | exact hx162_3_z | (have h_ := hx162_3_z; (try simp only [Int.reduceToNat, Nat.zero_mul, Nat.reduceMul, Nat.reduceEqDiff, Go.Addr.add, ↓reduceIte, z0_] at h_); exact h_))
      have hs4_ : w'.cell? ⟨ad162.block, ad162.off + 4, none⟩ = some (.string ((rd_T23 y156 0).f4)) := (by first | exact hx162_4_z | (have h_ := hx162_4_z; (try simp only [Int.reduceToNat, Nat.zero_mul, Nat.reduceMul, Nat.reduceEqDiff, Go.Addr.add, ↓reduceIte, z0_] at h_); exact h_))
      have hs5_ : w'.cell? ⟨ad162.block, ad162.off + 5, none⟩ = some (.bool ((rd_T23 y156 0).f5)) := (by first | exact hx162_5_z | (have h_ := hx162_5_z; (try simp only [Int.reduceToNat, Nat.zero_mul, Nat.reduceMul, Nat.reduceEqDiff, Go.Addr.add, ↓reduceIte, z0_] at h_); exact h_))
      refine value_ (w1 := w') (v := .agg #[.int .i64 ((rd_T23 y156 0).f0), .int .i64 ((rd_T23 y156 0).f1), .string ((rd_T23 y156 0).f2), .int .i64 ((rd_T23 y156 0).f3), .string ((rd_T23 y156 0).f4), .bool ((rd_T23 y156 0).f5)]) (by rfl) rfl ?_ ?_
      ·go_simp
       (try simp only [i64_w])
       try rfl
      refine hK.out _ _ ⟨v160, v165, v168, v171, m12_, (by rw [ha.out]; exact putSel_upk 3 hb_ rfl rfl rfl), Q_HO158, Q_HB, Q_HO161, fun h0_ _ => absurd ((hoff 8 (by kernel_rfl)).symm.trans h0_) (by decide), Q_HO169, fun h0_ => absurd ((hoff 11 (by kernel_rfl)).symm.trans h0_) (by decide), fun h0_ => absurd ((hoff 12 (by kernel_rfl)).symm.trans h0_) (by decide)⟩
     refine steps_cons ?_ ?_
     ·rintro b a w' ⟨v160, v165, v168, v171, m12_, ha, Q_HO158, Q_HB, Q_HO161, Q_HO166, Q_HO169, Q_HO172, Q_X12_⟩ hb_ hon hoff
      refine ⟨_, rfl, fun K hK => ?_⟩
      have e28 : a.tmps[28]? = some (.slice (some ad162) y156.length co71) := by rw [ha]; exact (putSel_off rfl).trans rfl
      replace ha := am_ ha
      have HO158 := am_ Q_HO158
      have HB := am_ Q_HB
      refine value_ (w1 := w') (v := .pointer (some ad162)) (by rfl) rfl ?_ ?_
      ·go_simp
       (try simp only [i64_w])
       try rfl
      refine hK.out _ _ ⟨v160, v165, v168, v171, m12_, (by rw [ha.out]; exact putSel_upk 4 hb_ rfl rfl rfl), Q_HO158, Q_HB, Q_HO161, fun h0_ _ => absurd ((hoff 8 (by kernel_rfl)).symm.trans h0_) (by decide), Q_HO169, fun h0_ => absurd ((hoff 11 (by kernel_rfl)).symm.trans h0_) (by decide), fun h0_ => absurd ((hoff 12 (by kernel_rfl)).symm.trans h0_) (by decide)⟩
     refine steps_cons ?_ ?_
     ·rintro b a w' ⟨v160, v165, v168, v171, m12_, ha, Q_HO158, Q_HB, Q_HO161, Q_HO166, Q_HO169, Q_HO172, Q_X12_⟩ hb_ hon hoff
      refine ⟨_, rfl, fun K hK => ?_⟩
      have e29 : a.tmps[29]? = some (.pointer (some ad162)) := by rw [ha]; exact putSel_on (e := (6, 29, .pointer (some ad162))) 4 rfl rfl (hon 6 (by kernel_rfl)) rfl
      replace ha := am_ ha
      have HO158 := am_ Q_HO158
      have HB := am_ Q_HB
      obtain ⟨ad163_z, e163_z, hx163_0_z, hx163_1_z, hx163_2_z, hx163_3_z, hx163_4_z, hx163_5_z⟩ := at_T23 (Kd.R_reads' HO158.out).2.2 0 (of_eq_true p163) (of_eq_true q163)
      cases e163_z
      have hs6_ : w'.cell? ad162 = some (.int .i64 ((rd_T23 y156 0).f0)) := (by first | exact hx163_0_z | (have h_ := hx163_0_z; (try simp only [Int.reduceToNat, Nat.zero_mul, Nat.reduceMul, Nat.reduceEqDiff, Go.Addr.add, ↓reduceIte, z0_] at h_); exact h_))
      have hs7_ : w'.cell? ⟨ad162.block, ad162.off + 1, none⟩ = some (.int .i64 ((rd_T23 y156 0).f1)) := (by first | exact hx163_1_z | (have h_ := hx163_1_z; (try simp only [Int.reduceToNat, Nat.zero_mul, Nat.reduceMul, Nat.reduceEqDiff, Go.Addr.add, ↓reduceIte, z0_] at h_); exact h_))
      have hs8_ : w'.cell? ⟨ad162.block, ad162.off + 2, none⟩ = some (.string ((rd_T23 y156 0).f2)) := (by first | exact hx163_2_z | (have h_ := hx163_2_z; (try simp only [Int.reduceToNat, Nat.zero_mul, Nat.reduceMul, Nat.reduceEqDiff, Go.Addr.add, ↓reduceIte, z0_] at h_); exact h_))
      have hs9_ : w'.cell? ⟨ad162.block, ad162.off + 3, none⟩ = some (.int .i64 ((rd_T23 y156 0).f3)) := (by first | exact hx163_3_z | (have h_ := hx163_3_z; (try simp only [Int.reduceToNat, Nat.zero_mul, Nat.reduceMul, Nat.reduceEqDiff, Go.Addr.add, ↓reduceIte, z0_] at h_); exact h_))
      have hs10_ : w'.cell? ⟨ad162.block, ad162.off + 4, none⟩ = some (.string ((rd_T23 y156 0).f4)) := (by first | exact hx163_4_z | (have h_ := hx163_4_z; (try simp only [Int.reduceToNat, Nat.zero_mul, Nat.reduceMul, Nat.reduceEqDiff, Go.Addr.add, ↓reduceIte, z0_] at h_); exact h_))
      have hs11_ : w'.cell? ⟨ad162.block, ad162.off + 5, none⟩ = some (.bool ((rd_T23 y156 0).f5)) := (by first | exact hx163_5_z | (have h_ := hx163_5_z; (try simp only [Int.reduceToNat, Nat.zero_mul, Nat.reduceMul, Nat.reduceEqDiff, Go.Addr.add, ↓reduceIte, z0_] at h_); exact h_))
      refine value_ (w1 := w') (v := .agg #[.int .i64 ((rd_T23 y156 0).f0), .int .i64 ((rd_T23 y156 0).f1), .string ((rd_T23 y156 0).f2), .int .i64 ((rd_T23 y156 0).f3), .string ((rd_T23 y156 0).f4), .bool ((rd_T23 y156 0).f5)]) (by rfl) rfl ?_ ?_
      ·go_simp
       (try simp only [i64_w])
       try rfl
      refine hK.out _ _ ⟨v160, v165, v168, v171, m12_, (by rw [ha.out]; exact putSel_upk 5 hb_ rfl rfl rfl), Q_HO158, Q_HB, Q_HO161, fun h0_ _ => absurd ((hoff 8 (by kernel_rfl)).symm.trans h0_) (by decide), Q_HO169, fun h0_ => absurd ((hoff 11 (by kernel_rfl)).symm.trans h0_) (by decide), fun h0_ => absurd ((hoff 12 (by kernel_rfl)).symm.trans h0_) (by decide)⟩
     refine steps_cons ?_ ?_
     ·rintro b a w' ⟨v160, v165, v168, v171, m12_, ha, Q_HO158, Q_HB, Q_HO161, Q_HO166, Q_HO169, Q_HO172, Q_X12_⟩ hb_ hon hoff
      refine ⟨_, rfl, fun K hK => ?_⟩
      have e27 : a.tmps[27]? = some (.agg #[.int .i64 ((rd_T23 y156 0).f0), .int .i64 ((rd_T23 y156 0).f1), .string ((rd_T23 y156 0).f2), .int .i64 ((rd_T23 y156 0).f3), .string ((rd_T23 y156 0).f4), .bool ((rd_T23 y156 0).f5)]) := by rw [ha]; exact putSel_on (e := (4, 27, .agg #[.int .i64 ((rd_T23 y156 0).f0), .int .i64 ((rd_T23 y156 0).f1), .string ((rd_T23 y156 0).f2), .int .i64 ((rd_T23 y156 0).f3), .string ((rd_T23 y156 0).f4), .bool ((rd_T23 y156 0).f5)])) 3 rfl rfl (hon 4 (by kernel_rfl)) rfl
      have e30 : a.tmps[30]? = some (.agg #[.int .i64 ((rd_T23 y156 0).f0), .int .i64 ((rd_T23 y156 0).f1), .string ((rd_T23 y156 0).f2), .int .i64 ((rd_T23 y156 0).f3), .string ((rd_T23 y156 0).f4), .bool ((rd_T23 y156 0).f5)]) := by rw [ha]; exact putSel_on (e := (7, 30, .agg #[.int .i64 ((rd_T23 y156 0).f0), .int .i64 ((rd_T23 y156 0).f1), .string ((rd_T23 y156 0).f2), .int .i64 ((rd_T23 y156 0).f3), .string ((rd_T23 y156 0).f4), .bool ((rd_T23 y156 0).f5)])) 5 rfl rfl (hon 7 (by kernel_rfl)) rfl
      replace ha := am_ ha
      have HO158 := am_ Q_HO158
      have HB := am_ Q_HB
      refine Kd.R_lit_step k23 _ 23 ?hg (N := 31) ?hd (xs := ([(⟨(rd_T23 y156 0).f0, (rd_T23 y156 0).f1, (rd_T23 y156 0).f2, (rd_T23 y156 0).f3, (rd_T23 y156 0).f4, (rd_T23 y156 0).f5⟩ : S23), (⟨(rd_T23 y156 0).f0, (rd_T23 y156 0).f1, (rd_T23 y156 0).f2, (rd_T23 y156 0).f3, (rd_T23 y156 0).f4, (rd_T23 y156 0).f5⟩ : S23)] : List (S23))) (inner := [.int .i64 ((rd_T23 y156 0).f0), .int .i64 ((rd_T23 y156 0).f1), .string ((rd_T23 y156 0).f2), .int .i64 ((rd_T23 y156 0).f3), .string ((rd_T23 y156 0).f4), .bool ((rd_T23 y156 0).f5), .int .i64 ((rd_T23 y156 0).f0), .int .i64 ((rd_T23 y156 0).f1), .string ((rd_T23 y156 0).f2), .int .i64 ((rd_T23 y156 0).f3), .string ((rd_T23 y156 0).f4), .bool ((rd_T23 y156 0).f5)]) (ok := fun _ => True) (okp := fun _ => True) ?hr ?hp (fun _ hk => hk) trivial (Below.refl _ _) (Nat.le_refl _) (by simp) ?_; (case hd => rfl); (case hg => rfl); (case hr => first | (go_simp; done) | (go_simp; rfl)); (case hp => exact (Reps.c6 (show Kd.M k23 _ _ _ (⟨(rd_T23 y156 0).f0, (rd_T23 y156 0).f1, (rd_T23 y156 0).f2, (rd_T23 y156 0).f3, (rd_T23 y156 0).f4, (rd_T23 y156 0).f5⟩ : S23) [.int .i64 ((rd_T23 y156 0).f0), .int .i64 ((rd_T23 y156 0).f1), .string ((rd_T23 y156 0).f2), .int .i64 ((rd_T23 y156 0).f3), .string ((rd_T23 y156 0).f4), .bool ((rd_T23 y156 0).f5)] from (k23_mkM _ _ _ (⟨(rd_T23 y156 0).f0, (rd_T23 y156 0).f1, (rd_T23 y156 0).f2, (rd_T23 y156 0).f3, (rd_T23 y156 0).f4, (rd_T23 y156 0).f5⟩ : S23) )) (Reps.c6 (show Kd.M k23 _ _ _ (⟨(rd_T23 y156 0).f0, (rd_T23 y156 0).f1, (rd_T23 y156 0).f2, (rd_T23 y156 0).f3, (rd_T23 y156 0).f4, (rd_T23 y156 0).f5⟩ : S23) [.int .i64 ((rd_T23 y156 0).f0), .int .i64 ((rd_T23 y156 0).f1), .string ((rd_T23 y156 0).f2), .int .i64 ((rd_T23 y156 0).f3), .string ((rd_T23 y156 0).f4), .bool ((rd_T23 y156 0).f5)] from (k23_mkM _ _ _ (⟨(rd_T23 y156 0).f0, (rd_T23 y156 0).f1, (rd_T23 y156 0).f2, (rd_T23 y156 0).f3, (rd_T23 y156 0).f4, (rd_T23 y156 0).f5⟩ : S23) )) (Reps.none _ _))))
      intro v165 w72 ho73 hb hg_ hnew_
      clear hg_ hnew_
      (first | rw [← Ny164.out] at ho73 | (simp only [Int.reduceToNat] at ho73; rw [← Ny164.out] at ho73))
      have n0_ := am_ (r5_ (by (with_reducible repeat (first | apply r1_ | apply r2_ | apply r3_)); exact HO158.out) (r4_ ho73) hb)
      have n1_ := am_ (Kd.R_lower (Kd.R_new' ho73 (Kd.R_lt (by (with_reducible repeat (first | apply r1_ | apply r2_ | apply r3_)); exact HO158.out))) (below_size (by repeat (with_reducible first | exact HB.out | apply p3_ | apply p1_ | apply p2_))))
      have n2_ := am_ (below_step (by repeat (with_reducible first | exact HB.out | apply p3_ | apply p1_ | apply p2_)) hb)
      have z_HO161 := fun (h0_ : b 1 = true) (h1_ : b 11 = false) => (show Kd.R k23 23 w72 w.heap.size (fun k_ => some k_ ≠ (.slice (some ad162) y156.length co71 : Value).ownBlock) v160 y159 from by first | exact (r5_ (by (with_reducible repeat (first | apply r1_ | apply r2_ | apply r3_)); exact (Q_HO161 h0_ h1_)) (r4_ ho73) hb) | exact Kd.R_mono (r5_ (by (with_reducible repeat (first | apply r1_ | apply r2_ | apply r3_)); exact (Q_HO161 h0_ h1_)) (r4_ ho73) hb) (fun _ h_ => by first | trivial | exact h_ | exact h_.1))
      have z_HO169 := fun (h0_ : b 10 = true) (h1_ : b 11 = false) => (show Kd.R k23 23 w72 w.heap.size (fun k_ => some k_ ≠ (.slice (some ad162) y156.length co71 : Value).ownBlock) v168 y167 from by first | exact (r5_ (by (with_reducible repeat (first | apply r1_ | apply r2_ | apply r3_)); exact (Q_HO169 h0_ h1_)) (r4_ ho73) hb) | exact Kd.R_mono (r5_ (by (with_reducible repeat (first | apply r1_ | apply r2_ | apply r3_)); exact (Q_HO169 h0_ h1_)) (r4_ ho73) hb) (fun _ h_ => by first | trivial | exact h_ | exact h_.1))
      clear HO158
      clear HB
      have HO158 := n0_
      have HO166 := n1_
      have HB := n2_
      clear n0_ n1_ n2_
      clear hb ho73
      refine hK.out _ _ ⟨v160, v165, v168, v171, m12_, (by rw [ha.out]; exact putSel_upk 6 hb_ rfl rfl rfl), (by (with_reducible repeat (first | apply r1_ | apply r2_ | apply r3_)); exact Kd.R_mono HO158.out (fun _ hk => by first | trivial | exact hk.2)), (by repeat (with_reducible first | exact HB.out | apply p3_ | apply p1_ | apply p2_)), z_HO161, fun _ _ => (by (with_reducible repeat (first | apply r1_ | apply r2_ | apply r3_)); exact Kd.R_mono HO166.out (fun _ hk => by first | trivial | exact hk.2)), z_HO169, fun h0_ => absurd ((hoff 11 (by kernel_rfl)).symm.trans h0_) (by decide), fun h0_ => absurd ((hoff 12 (by kernel_rfl)).symm.trans h0_) (by decide)⟩
     refine steps_cons ?_ ?_
     ·rintro b a w' ⟨v160, v165, v168, v171, m12_, ha, Q_HO158, Q_HB, Q_HO161, Q_HO166, Q_HO169, Q_HO172, Q_X12_⟩ hb_ hon hoff
      refine ⟨_, rfl, fun K hK => ?_⟩
      replace ha := am_ ha
      have HO158 := am_ Q_HO158
      have HB := am_ Q_HB
      refine value_ (w1 := w') (v := .agg #[.int .i64 10, .int .i64 1, .string (⟨#[]⟩ : ByteArray), .int .i64 0, .string (⟨#[]⟩ : ByteArray), .bool false]) (by rfl) rfl ?_ ?_
      ·go_simp
       (try simp only [i64_w])
       try rfl
      refine hK.out _ _ ⟨v160, v165, v168, v171, m12_, (by rw [ha.out]; exact putSel_upk 7 hb_ rfl rfl rfl), Q_HO158, Q_HB, Q_HO161, Q_HO166, fun h0_ _ => absurd ((hoff 10 (by kernel_rfl)).symm.trans h0_) (by decide), fun h0_ => absurd ((hoff 11 (by kernel_rfl)).symm.trans h0_) (by decide), fun h0_ => absurd ((hoff 12 (by kernel_rfl)).symm.trans h0_) (by decide)⟩
     refine steps_cons ?_ ?_
     ·rintro b a w' ⟨v160, v165, v168, v171, m12_, ha, Q_HO158, Q_HB, Q_HO161, Q_HO166, Q_HO169, Q_HO172, Q_X12_⟩ hb_ hon hoff
      refine ⟨_, rfl, fun K hK => ?_⟩
      have e32 : a.tmps[32]? = some (.agg #[.int .i64 10, .int .i64 1, .string (⟨#[]⟩ : ByteArray), .int .i64 0, .string (⟨#[]⟩ : ByteArray), .bool false]) := by rw [ha]; exact putSel_on (e := (9, 32, .agg #[.int .i64 10, .int .i64 1, .string (⟨#[]⟩ : ByteArray), .int .i64 0, .string (⟨#[]⟩ : ByteArray), .bool false])) 7 rfl rfl (hon 9 (by kernel_rfl)) rfl
      replace ha := am_ ha
      have HO158 := am_ Q_HO158
      have HB := am_ Q_HB
      refine Kd.R_lit_step k23 _ 23 ?hg (N := 33) ?hd (xs := ([(⟨10, 1, (⟨#[]⟩ : ByteArray), 0, (⟨#[]⟩ : ByteArray), false⟩ : S23)] : List (S23))) (inner := [.int .i64 10, .int .i64 1, .string (⟨#[]⟩ : ByteArray), .int .i64 0, .string (⟨#[]⟩ : ByteArray), .bool false]) (ok := fun _ => True) (okp := fun _ => True) ?hr ?hp (fun _ hk => hk) trivial (Below.refl _ _) (Nat.le_refl _) (by simp) ?_; (case hd => rfl); (case hg => rfl); (case hr => first | (go_simp; done) | (go_simp; rfl)); (case hp => exact (Reps.c6 (show Kd.M k23 _ _ _ (⟨10, 1, (⟨#[]⟩ : ByteArray), 0, (⟨#[]⟩ : ByteArray), false⟩ : S23) [.int .i64 10, .int .i64 1, .string (⟨#[]⟩ : ByteArray), .int .i64 0, .string (⟨#[]⟩ : ByteArray), .bool false] from (k23_mkM _ _ _ (⟨10, 1, (⟨#[]⟩ : ByteArray), 0, (⟨#[]⟩ : ByteArray), false⟩ : S23) )) (Reps.none _ _)))
      intro v168 w72 ho73 hb hg_ hnew_
      clear hg_ hnew_
      (first | rw [← Ny167.out] at ho73 | (simp only [Int.reduceToNat] at ho73; rw [← Ny167.out] at ho73))
      have n0_ := am_ (r5_ (by (with_reducible repeat (first | apply r1_ | apply r2_ | apply r3_)); exact HO158.out) (r4_ ho73) hb)
      have n1_ := am_ (Kd.R_lower (Kd.R_new' ho73 (Kd.R_lt (by (with_reducible repeat (first | apply r1_ | apply r2_ | apply r3_)); exact HO158.out))) (below_size (by repeat (with_reducible first | exact HB.out | apply p3_ | apply p1_ | apply p2_))))
      have n2_ := am_ (below_step (by repeat (with_reducible first | exact HB.out | apply p3_ | apply p1_ | apply p2_)) hb)
      have z_HO161 := fun (h0_ : b 1 = true) (h1_ : b 11 = false) => (show Kd.R k23 23 w72 w.heap.size (fun k_ => some k_ ≠ (.slice (some ad162) y156.length co71 : Value).ownBlock) v160 y159 from by first | exact (r5_ (by (with_reducible repeat (first | apply r1_ | apply r2_ | apply r3_)); exact (Q_HO161 h0_ h1_)) (r4_ ho73) hb) | exact Kd.R_mono (r5_ (by (with_reducible repeat (first | apply r1_ | apply r2_ | apply r3_)); exact (Q_HO161 h0_ h1_)) (r4_ ho73) hb) (fun _ h_ => by first | trivial | exact h_ | exact h_.1))
      have z_HO166 := fun (h0_ : b 8 = true) (h1_ : b 11 = false) => (show Kd.R k23 23 w72 w.heap.size (fun k_ => some k_ ≠ (.slice (some ad162) y156.length co71 : Value).ownBlock) v165 y164 from by first | exact (r5_ (by (with_reducible repeat (first | apply r1_ | apply r2_ | apply r3_)); exact (Q_HO166 h0_ h1_)) (r4_ ho73) hb) | exact Kd.R_mono (r5_ (by (with_reducible repeat (first | apply r1_ | apply r2_ | apply r3_)); exact (Q_HO166 h0_ h1_)) (r4_ ho73) hb) (fun _ h_ => by first | trivial | exact h_ | exact h_.1))
      clear HO158
      clear HB
      have HO158 := n0_
      have HO169 := n1_
      have HB := n2_
      clear n0_ n1_ n2_
      clear hb ho73
      refine hK.out _ _ ⟨v160, v165, v168, v171, m12_, (by rw [ha.out]; exact putSel_upk 8 hb_ rfl rfl rfl), (by (with_reducible repeat (first | apply r1_ | apply r2_ | apply r3_)); exact Kd.R_mono HO158.out (fun _ hk => by first | trivial | exact hk.2)), (by repeat (with_reducible first | exact HB.out | apply p3_ | apply p1_ | apply p2_)), z_HO161, z_HO166, fun _ _ => (by (with_reducible repeat (first | apply r1_ | apply r2_ | apply r3_)); exact Kd.R_mono HO169.out (fun _ hk => by first | trivial | exact hk.2)), fun h0_ => absurd ((hoff 11 (by kernel_rfl)).symm.trans h0_) (by decide), fun h0_ => absurd ((hoff 12 (by kernel_rfl)).symm.trans h0_) (by decide)⟩
     refine steps_cons ?_ ?_
     ·rintro b a w' ⟨v160, v165, v168, v171, m12_, ha, Q_HO158, Q_HB, Q_HO161, Q_HO166, Q_HO169, Q_HO172, Q_X12_⟩ hb_ hon hoff
      refine ⟨_, rfl, fun K hK => ?_⟩
      have e24 : a.tmps[24]? = some (v160) := by rw [ha]; exact putSel_on (e := (1, 24, v160)) 1 rfl rfl (hon 1 (by kernel_rfl)) rfl
      have e31 : a.tmps[31]? = some (v165) := by rw [ha]; exact putSel_on (e := (8, 31, v165)) 6 rfl rfl (hon 8 (by kernel_rfl)) rfl
      have e33 : a.tmps[33]? = some (v168) := by rw [ha]; exact putSel_on (e := (10, 33, v168)) 8 rfl rfl (hon 10 (by kernel_rfl)) rfl
      replace ha := am_ ha
      have HO158 := am_ Q_HO158
      have HB := am_ Q_HB
      have HO161 := am_ (Q_HO161 (hon 1 (by kernel_rfl)) hb_)
      have HO166 := am_ (Q_HO166 (hon 8 (by kernel_rfl)) hb_)
      have HO169 := am_ (Q_HO169 (hon 10 (by kernel_rfl)) hb_)
      obtain ⟨Ao79, co79, eo79⟩ := Kd.R_slice HO161.out
      (first | subst eo79 | (injection eo79 with f1_ f2_ f3_; have f4_ := f1_.symm; have f5_ := f3_.symm; clear f1_ f2_ f3_; subst f4_; subst f5_))
      obtain ⟨Ao80, co80, eo80⟩ := Kd.R_slice HO166.out
      (first | subst eo80 | (injection eo80 with f1_ f2_ f3_; have f4_ := f1_.symm; have f5_ := f3_.symm; clear f1_ f2_ f3_; subst f4_; subst f5_))
      obtain ⟨Ao81, co81, eo81⟩ := Kd.R_slice HO169.out
      (first | subst eo81 | (injection eo81 with f1_ f2_ f3_; have f4_ := f1_.symm; have f5_ := f3_.symm; clear f1_ f2_ f3_; subst f4_; subst f5_))
      refine Kd.N_lit_step (Kd.slice 23 k23) _ 33 ?hg (N' := 34) ?hd (xs := ([y159, y164, y167] : List (List (S23)))) (inner := [.slice Ao79 y159.length co79, .slice Ao80 y164.length co80, .slice Ao81 y167.length co81]) (ok := (fun k_ => some k_ ≠ (.slice (some ad162) y156.length co71 : Value).ownBlock)) (okp := (fun k_ => some k_ ≠ (.slice (some ad162) y156.length co71 : Value).ownBlock)) ?hr ?hp (fun _ hk => hk) ((show ∀ k_, w'.heap.size ≤ k_ → (fun k_ => some k_ ≠ (.slice (some ad162) y156.length co71 : Value).ownBlock) k_ from fun k_ hk => Kd.fresh' (Kd.R_lt (by (with_reducible repeat (first | apply r1_ | apply r2_ | apply r3_)); exact HO158.out)) k_ hk) _ (Nat.le_refl _)) (Below.refl _ _) (Nat.le_refl _) (by simp) ?_; (case hd => rfl); (case hg => rfl); (case hr => first | (go_simp; done) | (go_simp; rfl)); (case hp => exact (Reps.one (show Kd.FK (Kd.slice 23 k23) _ _ y159 [.slice Ao79 y159.length co79] from (Kd.FK_slice_mk (Kd.R_reads' (Kd.R_mono (ok' := (fun k_ => some k_ ≠ (.slice (some ad162) y156.length co71 : Value).ownBlock)) (HO161.out) (fun k_ hk => by first | exact hk | exact hk.1))).2.1 (Kd.R_F (Kd.R_mono (ok' := (fun k_ => some k_ ≠ (.slice (some ad162) y156.length co71 : Value).ownBlock)) (HO161.out) (fun k_ hk => by first | exact hk | exact hk.1))))) (Reps.one (show Kd.FK (Kd.slice 23 k23) _ _ y164 [.slice Ao80 y164.length co80] from (Kd.FK_slice_mk (Kd.R_reads' (Kd.R_mono (ok' := (fun k_ => some k_ ≠ (.slice (some ad162) y156.length co71 : Value).ownBlock)) (HO166.out) (fun k_ hk => by first | exact hk | exact hk.1))).2.1 (Kd.R_F (Kd.R_mono (ok' := (fun k_ => some k_ ≠ (.slice (some ad162) y156.length co71 : Value).ownBlock)) (HO166.out) (fun k_ hk => by first | exact hk | exact hk.1))))) (Reps.one (show Kd.FK (Kd.slice 23 k23) _ _ y167 [.slice Ao81 y167.length co81] from (Kd.FK_slice_mk (Kd.R_reads' (Kd.R_mono (ok' := (fun k_ => some k_ ≠ (.slice (some ad162) y156.length co71 : Value).ownBlock)) (HO169.out) (fun k_ hk => by first | exact hk | exact hk.1))).2.1 (Kd.R_F (Kd.R_mono (ok' := (fun k_ => some k_ ≠ (.slice (some ad162) y156.length co71 : Value).ownBlock)) (HO169.out) (fun k_ hk => by first | exact hk | exact hk.1))))) (Reps.none _ _)))))
      intro v171 w82 ho83 hb hg_ hnew_
      clear hg_ hnew_
      (first | rw [← Ny170.out] at ho83 | (simp only [Int.reduceToNat] at ho83; rw [← Ny170.out] at ho83))
      have n0_ := am_ (Kd.R_below (by (with_reducible repeat (first | apply r1_ | apply r2_ | apply r3_)); exact HO158.out) hb)
      have n1_ := am_ (Kd.N_lower ho83 (below_size (by repeat (with_reducible first | exact HB.out | apply p3_ | apply p1_ | apply p2_))))
      have n2_ := am_ (below_step (by repeat (with_reducible first | exact HB.out | apply p3_ | apply p1_ | apply p2_)) hb)
      clear HO158
      clear HB
      clear HO161
      clear HO166
      clear HO169
      have HO158 := n0_
      have HO172 := n1_
      have HB := n2_
      clear n0_ n1_ n2_
      clear hb ho83
      refine hK.out _ _ ⟨.slice Ao79 y159.length co79, .slice Ao80 y164.length co80, .slice Ao81 y167.length co81, v171, m12_, (by rw [ha.out]; exact putSel_upk 9 hb_ rfl rfl rfl), (by (with_reducible repeat (first | apply r1_ | apply r2_ | apply r3_)); exact Kd.R_mono HO158.out (fun _ hk => trivial)), (by repeat (with_reducible first | exact HB.out | apply p3_ | apply p1_ | apply p2_)), fun _ h1_ => absurd ((up_self b 11).symm.trans h1_) (by decide), fun _ h1_ => absurd ((up_self b 11).symm.trans h1_) (by decide), fun _ h1_ => absurd ((up_self b 11).symm.trans h1_) (by decide), fun _ => (by (with_reducible repeat (first | apply n1'_ | apply n2'_ | apply n3'_)); exact HO172.out), fun h0_ => absurd ((hoff 12 (by kernel_rfl)).symm.trans h0_) (by decide)⟩
     refine steps_cons ?_ ?_
     ·rintro b a w' ⟨v160, v165, v168, v171, m12_, ha, Q_HO158, Q_HB, Q_HO161, Q_HO166, Q_HO169, Q_HO172, Q_X12_⟩ hb_ hon hoff
      refine ⟨_, rfl, fun K hK => ?_⟩
      have e34 : a.tmps[34]? = some (v171) := by rw [ha]; exact putSel_on (e := (11, 34, v171)) 9 rfl rfl (hon 11 (by kernel_rfl)) rfl
      replace ha := am_ ha
      have HO158 := am_ Q_HO158
      have HB := am_ Q_HB
      have HO172 := am_ (Q_HO172 (hon 11 (by kernel_rfl)))
      refine value_ (w1 := w') (v := v171) (by rfl) rfl ?_ ?_
      ·go_simp
       (try simp only [i64_w])
       try rfl
      refine hK.out _ _ ⟨v160, v165, v168, v171, (v171), (by rw [ha.out]; exact putSel_upk 10 hb_ rfl rfl rfl), Q_HO158, Q_HB, fun _ h1_ => absurd ((hon 11 (by kernel_rfl)).symm.trans h1_) (by decide), fun _ h1_ => absurd ((hon 11 (by kernel_rfl)).symm.trans h1_) (by decide), fun _ h1_ => absurd ((hon 11 (by kernel_rfl)).symm.trans h1_) (by decide), Q_HO172, fun _ => rfl⟩
     exact steps_nil
    rintro b a w83 hall ⟨v160, v165, v168, v171, m12_, ha, Q_HO158, Q_HB, Q_HO161, Q_HO166, Q_HO169, Q_HO172, Q_X12_⟩
    clear HB HO158
    have hb0_ := hall 0 (by kernel_rfl)
    have hb1_ := hall 1 (by kernel_rfl)
    have hb3_ := hall 3 (by kernel_rfl)
    have hb4_ := hall 4 (by kernel_rfl)
    have hb6_ := hall 6 (by kernel_rfl)
    have hb7_ := hall 7 (by kernel_rfl)
    have hb8_ := hall 8 (by kernel_rfl)
    have hb9_ := hall 9 (by kernel_rfl)
    have hb10_ := hall 10 (by kernel_rfl)
    have hb11_ := hall 11 (by kernel_rfl)
    have hb12_ := hall 12 (by kernel_rfl)
    subst ha
    obtain rfl := Q_X12_ hb12_
    simp only [putSel, hb0_, hb1_, hb3_, hb4_, hb6_, hb7_, hb8_, hb9_, hb10_, hb11_, hb12_, if_true, Act.put, List.setIfInBounds_toArray, List.set_cons_zero, List.set_cons_succ]
    have HO158 := am_ Q_HO158
    clear Q_HO158
    have HB := am_ Q_HB
    clear Q_HB
    clear Q_HO161
    clear Q_HO166
    clear Q_HO169
    have HO172 := am_ (Q_HO172 hb11_)
    clear Q_HO172
    clear hall hb0_ hb1_ hb3_ hb4_ hb6_ hb7_ hb8_ hb9_ hb10_ hb11_ hb12_
    obtain ⟨Ao84, co84, eo84⟩ := Kd.N_slice HO172.out
    subst eo84
    have p173 : 0 ≤ ((ji6) : Int) := of_decide_eq_true (by first | (with_reducible assumption) | assumption)
    have q173 : (ji6) < (y170.length : Int) := of_decide_eq_true (by first | (with_reducible assumption) | assumption)
    obtain ⟨ad173, A173_0, c173_0, e173, hx173_0, hl173_0, hi173_0⟩ := at_L4 (Kd.N_reads' HO172.out).2.2 (ji6) p173 q173
    cases e173
    obtain ⟨ce173, hce173, hMe173, hcc173⟩ := Kd.N_get HO172.out [] (ji6) p173 (by first | exact q173 | exact of_decide_eq_true (by first | (with_reducible assumption) | assumption) | (have e_ := (Kd.N_reads' HO172.out).1; omega))
    obtain ⟨ua173_0, uc173_0, rfl, ul173_0, ge173_0⟩ := Kd.FK_slice_open hMe173
    have hv173_0 := hcc173 0 _ rfl
    rw [Nat.add_zero, show ((Kd.slice 23 k23)).sz = 1 from rfl, Nat.mul_one] at hv173_0
    replace hv173_0 := Option.some.inj (hv173_0.symm.trans hx173_0)
    injection hv173_0 with hva_ hvn_ hvc_
    rw [hva_] at ge173_0
    rw [hvc_] at ul173_0
    have HL173_0 := am_ (show Kd.V k23 23 _ w.heap.size _ _ (rd_L4 y170 (ji6)) from Kd.V_mk ul173_0 ge173_0)
    clear hva_ hvn_ hvc_ ge173_0 ul173_0
    clear hcc173 hce173
    have HR173_0 := am_ hi173_0
    have HC173_0 := am_ hl173_0
    clear hi173_0 hl173_0
    replace p173 := eq_true p173
    replace q173 := eq_true q173
    try go_wp2_with (first | ((with_reducible refine gate_callee (f := 22) rfl ?_); refine goesL_ (some 43) rfl rfl Try.func22 (by kernel_rfl) rfl #[.slice A173_0 (rd_L4 y170 (ji6)).length c173_0, .int .i64 0] rfl (by (try simp only [List.map_toArray, List.map_cons, List.map_nil]); first | done | (simp only [hji6]; rfl) | rfl | (simp only [List.length_drop, List.length_take]; rfl)) ?_; (with_reducible refine (sweep_Sweep.calls k _ _ (rd_L4 y170 (ji6)) 0 t174 t175 _ ?side1 ?side2 A9.out).mono ?_); (case side1 => repeat (first | exact (by repeat (first | (with_reducible exact HR173_0.out) | (with_reducible refine Kd.C_alloc ?_ _) | (with_reducible refine Kd.C_drewN ?_ _) | (with_reducible refine Kd.C_drew ?_) | exact HR173_0.out)) | (with_reducible refine Kd.C_alloc ?_ _) | (with_reducible refine Kd.C_drewN ?_ _) | (with_reducible refine Kd.C_drew ?_))); (case side2 => exact HC173_0.out); rintro e w85 ⟨v176, rfl, ho0, hb⟩; refine ⟨_, rfl, ?_⟩; have n0_ := am_ (r5_ (by (with_reducible repeat (first | apply r1_ | apply r2_ | apply r3_)); exact HO158.out) (r4_ ho0) hb); have n1_ := am_ (Kd.N_elder' (by (with_reducible repeat (first | apply n1'_ | apply n2'_ | apply n3'_)); exact HO172.out) (r4_ ho0) hb); have n2_ := am_ (Kd.V_elder' (by (with_reducible repeat (first | apply v1_ | apply v2_ | apply v3_)); exact HL173_0.out) (r4_ ho0) hb); have n3_ := am_ (Kd.R_lower (Kd.R_new' ho0 (Kd.R_lt (by (with_reducible repeat (first | apply r1_ | apply r2_ | apply r3_)); exact HO158.out))) (below_size (by repeat (with_reducible first | exact HB.out | apply p3_ | apply p1_ | apply p2_)))); have n4_ := am_ (Kd.C_below (by repeat (first | (with_reducible exact HR173_0.out) | (with_reducible refine Kd.C_alloc ?_ _) | (with_reducible refine Kd.C_drewN ?_ _) | (with_reducible refine Kd.C_drew ?_) | exact HR173_0.out)) hb); have n5_ := am_ (below_step (by repeat (with_reducible first | exact HB.out | apply p3_ | apply p1_ | apply p2_)) hb); clear HO158; clear HO172; clear HL173_0; clear HR173_0; clear HB; have HO158 := n0_; have HO172 := n1_; have HL173_0 := n2_; have HO177 := n3_; have HR173_0 := n4_; have HB := n5_; clear n0_ n1_ n2_ n3_ n4_ n5_; (try clear hb); (try clear ho0)) | ((with_reducible refine gate_callee (f := 22) rfl ?_); refine goesL_ (some 50) rfl rfl Try.func22 (by kernel_rfl) rfl #[.slice (some ad162) y156.length co71, .int .i64 (wrap64 (-(wrap64 (1 + (Go.bits .and .i64 a1 1023)))))] rfl (by (try simp only [List.map_toArray, List.map_cons, List.map_nil]); first | done | rfl | (simp only [List.length_drop, List.length_take]; rfl)) ?_; (with_reducible refine (sweep_Sweep.calls k _ _ y156 (wrap64 (-(wrap64 (1 + (Go.bits .and .i64 a1 1023))))) t178 t179 _ ?side1 ?side2 A10.out).mono ?_); (case side1 => repeat (first | exact (Kd.R_reads' HO158.out).2.2 | (with_reducible refine Kd.C_alloc ?_ _) | (with_reducible refine Kd.C_drewN ?_ _) | (with_reducible refine Kd.C_drew ?_))); (case side2 => exact (Kd.R_reads' HO158.out).2.1); rintro e w86 ⟨v180, rfl, ho0, hb⟩; refine ⟨_, rfl, ?_⟩; have n0_ := am_ (r5_ (by (with_reducible repeat (first | apply r1_ | apply r2_ | apply r3_)); exact HO158.out) (r4_ ho0) hb); have n1_ := am_ (Kd.N_elder' (by (with_reducible repeat (first | apply n1'_ | apply n2'_ | apply n3'_)); exact HO172.out) (r4_ ho0) hb); have n2_ := am_ (Kd.V_elder' (by (with_reducible repeat (first | apply v1_ | apply v2_ | apply v3_)); exact HL173_0.out) (r4_ ho0) hb); have n3_ := am_ (r5_ (by (with_reducible repeat (first | apply r1_ | apply r2_ | apply r3_)); exact HO177.out) (r4_ ho0) hb); have n4_ := am_ (Kd.R_lower (Kd.R_new' (Kd.R_new' ho0 (Kd.R_lt (by (with_reducible repeat (first | apply r1_ | apply r2_ | apply r3_)); exact HO158.out))) (Kd.R_lt (by (with_reducible repeat (first | apply r1_ | apply r2_ | apply r3_)); exact HO177.out))) (below_size (by repeat (with_reducible first | exact HB.out | apply p3_ | apply p1_ | apply p2_)))); have n5_ := am_ (Kd.C_below (by repeat (first | (with_reducible exact HR173_0.out) | (with_reducible refine Kd.C_alloc ?_ _) | (with_reducible refine Kd.C_drewN ?_ _) | (with_reducible refine Kd.C_drew ?_) | exact HR173_0.out)) hb); have n6_ := am_ (below_step (by repeat (with_reducible first | exact HB.out | apply p3_ | apply p1_ | apply p2_)) hb); clear HO158; clear HO172; clear HL173_0; clear HO177; clear HR173_0; clear HB; have HO158 := n0_; have HO172 := n1_; have HL173_0 := n2_; have HO177 := n3_; have HO181 := n4_; have HR173_0 := n5_; have HB := n6_; clear n0_ n1_ n2_ n3_ n4_ n5_ n6_; (try clear hb); (try clear ho0)) | ((with_reducible refine gate_callee (f := 22) rfl ?_); refine goesL_ (some 57) rfl rfl Try.func22 (by kernel_rfl) rfl #[.slice (some ad162) y156.length co71, .int .i64 (wrap64 (1099511627776 + (wrap64 (1 + (Go.bits .and .i64 a1 1023)))))] rfl (by (try simp only [List.map_toArray, List.map_cons, List.map_nil]); first | done | rfl | (simp only [List.length_drop, List.length_take]; rfl)) ?_; (with_reducible refine (sweep_Sweep.calls k _ _ y156 (wrap64 (1099511627776 + (wrap64 (1 + (Go.bits .and .i64 a1 1023))))) t182 t183 _ ?side1 ?side2 A11.out).mono ?_); (case side1 => repeat (first | exact (Kd.R_reads' HO158.out).2.2 | (with_reducible refine Kd.C_alloc ?_ _) | (with_reducible refine Kd.C_drewN ?_ _) | (with_reducible refine Kd.C_drew ?_))); (case side2 => exact (Kd.R_reads' HO158.out).2.1); rintro e w87 ⟨v184, rfl, ho0, hb⟩; refine ⟨_, rfl, ?_⟩; have n0_ := am_ (r5_ (by (with_reducible repeat (first | apply r1_ | apply r2_ | apply r3_)); exact HO158.out) (r4_ ho0) hb); have n1_ := am_ (Kd.N_elder' (by (with_reducible repeat (first | apply n1'_ | apply n2'_ | apply n3'_)); exact HO172.out) (r4_ ho0) hb); have n2_ := am_ (Kd.V_elder' (by (with_reducible repeat (first | apply v1_ | apply v2_ | apply v3_)); exact HL173_0.out) (r4_ ho0) hb); have n3_ := am_ (r5_ (by (with_reducible repeat (first | apply r1_ | apply r2_ | apply r3_)); exact HO177.out) (r4_ ho0) hb); have n4_ := am_ (r5_ (by (with_reducible repeat (first | apply r1_ | apply r2_ | apply r3_)); exact HO181.out) (r4_ ho0) hb); have n5_ := am_ (Kd.R_lower (Kd.R_new' (Kd.R_new' (Kd.R_new' ho0 (Kd.R_lt (by (with_reducible repeat (first | apply r1_ | apply r2_ | apply r3_)); exact HO158.out))) (Kd.R_lt (by (with_reducible repeat (first | apply r1_ | apply r2_ | apply r3_)); exact HO177.out))) (Kd.R_lt (by (with_reducible repeat (first | apply r1_ | apply r2_ | apply r3_)); exact HO181.out))) (below_size (by repeat (with_reducible first | exact HB.out | apply p3_ | apply p1_ | apply p2_)))); have n6_ := am_ (Kd.C_below (by repeat (first | (with_reducible exact HR173_0.out) | (with_reducible refine Kd.C_alloc ?_ _) | (with_reducible refine Kd.C_drewN ?_ _) | (with_reducible refine Kd.C_drew ?_) | exact HR173_0.out)) hb); have n7_ := am_ (below_step (by repeat (with_reducible first | exact HB.out | apply p3_ | apply p1_ | apply p2_)) hb); clear HO158; clear HO172; clear HL173_0; clear HO177; clear HO181; clear HR173_0; clear HB; have HO158 := n0_; have HO172 := n1_; have HL173_0 := n2_; have HO177 := n3_; have HO181 := n4_; have HO185 := n5_; have HR173_0 := n6_; have HB := n7_; clear n0_ n1_ n2_ n3_ n4_ n5_ n6_ n7_; (try clear hb); (try clear ho0)) | ((with_reducible refine gate_callee (f := 22) rfl ?_); refine goesL_ (some 61) rfl rfl Try.func22 (by kernel_rfl) rfl #[.slice none 0 0, .int .i64 1099511627776] rfl (by (try simp only [List.map_toArray, List.map_cons, List.map_nil]); first | done | rfl | (simp only [List.length_drop, List.length_take]; rfl)) ?_; (refine (sweep_Sweep.calls k _ _ ([] : List (S23)) 1099511627776 t186 t187 _ ?side1 ?side2 A12.out).mono ?_); (case side1 => exact Kd.C_nil _ _); (case side2 => exact Nat.le_refl _); rintro e w88 ⟨v188, rfl, ho0, hb⟩; refine ⟨_, rfl, ?_⟩; have n0_ := am_ (r5_ (by (with_reducible repeat (first | apply r1_ | apply r2_ | apply r3_)); exact HO158.out) (r4_ ho0) hb); have n1_ := am_ (Kd.N_elder' (by (with_reducible repeat (first | apply n1'_ | apply n2'_ | apply n3'_)); exact HO172.out) (r4_ ho0) hb); have n2_ := am_ (Kd.V_elder' (by (with_reducible repeat (first | apply v1_ | apply v2_ | apply v3_)); exact HL173_0.out) (r4_ ho0) hb); have n3_ := am_ (r5_ (by (with_reducible repeat (first | apply r1_ | apply r2_ | apply r3_)); exact HO177.out) (r4_ ho0) hb); have n4_ := am_ (r5_ (by (with_reducible repeat (first | apply r1_ | apply r2_ | apply r3_)); exact HO181.out) (r4_ ho0) hb); have n5_ := am_ (r5_ (by (with_reducible repeat (first | apply r1_ | apply r2_ | apply r3_)); exact HO185.out) (r4_ ho0) hb); have n6_ := am_ (Kd.R_lower (Kd.R_new' (Kd.R_new' (Kd.R_new' (Kd.R_new' ho0 (Kd.R_lt (by (with_reducible repeat (first | apply r1_ | apply r2_ | apply r3_)); exact HO158.out))) (Kd.R_lt (by (with_reducible repeat (first | apply r1_ | apply r2_ | apply r3_)); exact HO177.out))) (Kd.R_lt (by (with_reducible repeat (first | apply r1_ | apply r2_ | apply r3_)); exact HO181.out))) (Kd.R_lt (by (with_reducible repeat (first | apply r1_ | apply r2_ | apply r3_)); exact HO185.out))) (below_size (by repeat (with_reducible first | exact HB.out | apply p3_ | apply p1_ | apply p2_)))); have n7_ := am_ (Kd.C_below (by repeat (first | (with_reducible exact HR173_0.out) | (with_reducible refine Kd.C_alloc ?_ _) | (with_reducible refine Kd.C_drewN ?_ _) | (with_reducible refine Kd.C_drew ?_) | exact HR173_0.out)) hb); have n8_ := am_ (below_step (by repeat (with_reducible first | exact HB.out | apply p3_ | apply p1_ | apply p2_)) hb); clear HO158; clear HO172; clear HL173_0; clear HO177; clear HO181; clear HO185; clear HR173_0; clear HB; have HO158 := n0_; have HO172 := n1_; have HL173_0 := n2_; have HO177 := n3_; have HO181 := n4_; have HO185 := n5_; have HO189 := n6_; have HR173_0 := n7_; have HB := n8_; clear n0_ n1_ n2_ n3_ n4_ n5_ n6_ n7_ n8_; (try clear hb); (try clear ho0)) | ((with_reducible refine gate_callee (f := 20) rfl ?_); refine goesL_ (some 65) rfl rfl Try.func20 (by kernel_rfl) rfl #[.int .i64 t175] rfl (by (try simp only [List.map_toArray, List.map_cons, List.map_nil]); first | done | rfl | (simp only [List.length_drop, List.length_take]; rfl)) ?_; (with_reducible refine (pinfoldlaw0_Num.calls t175 t190 _ A13.out).mono ?_); rintro e w' ⟨rfl, ⟨nd, rfl⟩⟩; refine ⟨_, rfl, ?_⟩) | (go_at_call 20; (with_reducible refine (pinfoldlaw0_Num.calls t179 t191 _ A15.out).mono ?_); rintro e w' ⟨rfl, ⟨nd, rfl⟩⟩) | (go_at_call 20; (with_reducible refine (pinfoldlaw0_Num.calls t183 t192 _ A17.out).mono ?_); rintro e w' ⟨rfl, ⟨nd, rfl⟩⟩))
    go_ret
    exact ⟨by first | rfl | (simp [errW_none, errW_some] <;> rfl) | (simp only [← hji6]; first | rfl | (simp [errW_none, errW_some] <;> rfl)) | (simp [*, errW_none, errW_some] <;> rfl), by repeat (with_reducible first | exact HB.out | apply p3_ | apply p1_ | apply p2_)⟩
   rw [if_neg c16] at H
   have c16b0 : (t191 == 1900) = false := beq_eq_false_iff_ne.mpr c16
   have c16b1 : (t191 != 1900) = true := bne_iff_ne.mpr c16
   obtain rfl := Option.some.inj H
   go_enter Try.func9, Try.ntmps9
   try go_wp2_with (first | ((with_reducible refine gate_callee (f := 27) rfl ?_); refine goesL_ (some 16) rfl rfl Try.func27 (by kernel_rfl) rfl #[] rfl (by (try simp only [List.map_toArray, List.map_cons, List.map_nil]); first | done | rfl | (simp only [List.length_drop, List.length_take]; rfl)) ?_; (with_reducible refine (pinfoldlaw19_awake.calls k  true _ A3.out).mono ?_); rintro e w89 ⟨rfl, hb⟩; refine ⟨_, rfl, ?_⟩; have n0_ := am_ (below_step (by repeat (with_reducible first | exact HB.out | apply p3_ | apply p1_ | apply p2_)) hb); clear HB; have HB := n0_; clear n0_; (try clear hb)) | ((with_reducible refine gate_dst (N := 22) rfl ?_); (try (refine gate_guard (by rfl) ?_; dsimp only)); refine Kd.R_lit k23 _ 23 ?hg (N := 22) ?hd (xs := ([(⟨10, 2, (⟨#[109, 101]⟩ : ByteArray), 9, (⟨#[]⟩ : ByteArray), false⟩ : S23)] : List (S23))) (inner := [.int .i64 10, .int .i64 2, .string (⟨#[109, 101]⟩ : ByteArray), .int .i64 9, .string (⟨#[]⟩ : ByteArray), .bool false]) (ok := fun _ => True) (okp := fun _ => True) ?hr ?hp (fun _ hk => hk) trivial (Below.refl _ _) (Nat.le_refl _) (by simp) ?_; (case hd => rfl); (case hg => rfl); (case hr => first | (go_simp; done) | (go_simp; rfl)); (case hp => exact (Reps.c6 (show Kd.M k23 _ _ _ (⟨10, 2, (⟨#[109, 101]⟩ : ByteArray), 9, (⟨#[]⟩ : ByteArray), false⟩ : S23) [.int .i64 10, .int .i64 2, .string (⟨#[109, 101]⟩ : ByteArray), .int .i64 9, .string (⟨#[]⟩ : ByteArray), .bool false] from (k23_mkM _ _ _ (⟨10, 2, (⟨#[109, 101]⟩ : ByteArray), 9, (⟨#[]⟩ : ByteArray), false⟩ : S23) )) (Reps.none _ _))); intro v157 w90 ho91 hb hg_ hnew_; clear hg_ hnew_; (first | rw [← Ny156.out] at ho91 | (simp only [Int.reduceToNat] at ho91; rw [← Ny156.out] at ho91)); have n0_ := am_ (Kd.R_lower ho91 (below_size (by repeat (with_reducible first | exact HB.out | apply p3_ | apply p1_ | apply p2_)))); have n1_ := am_ (below_step (by repeat (with_reducible first | exact HB.out | apply p3_ | apply p1_ | apply p2_)) hb); clear HB; have HO158 := n0_; have HB := n1_; clear n0_ n1_; clear hb ho91))
   have n0_ := am_ (r3_ HO158.out)
   have n1_ := am_ (p2_ HB.out)
   clear HO158
   clear HB
   have HO158 := n0_
   have HB := n1_
   clear n0_ n1_
   obtain ⟨Ao93, co93, eo93⟩ := Kd.R_slice HO158.out
   (first | subst eo93 | (injection eo93 with f1_ f2_ f3_; have f4_ := f1_.symm; have f5_ := f3_.symm; clear f1_ f2_ f3_; subst f4_; subst f5_))
   have p162 : 0 ≤ (0 : Int) := (by omega)
   have q162 : 0 < (y156.length : Int) := of_decide_eq_true (by first | (with_reducible assumption) | assumption)
   obtain ⟨ad162, e162, hx162_0, hx162_1, hx162_2, hx162_3, hx162_4, hx162_5⟩ := at_T23 (Kd.R_reads' HO158.out).2.2 0 p162 q162
   cases e162
   have qi162 : (0 < y156.length) = True := eq_true (by omega)
   (try rw [show ((0 : Int)).toNat = 0 from rfl] at hx162_0)
   (try rw [show 0 * 6 = 0 from rfl] at hx162_0)
   (try rw [z0_] at hx162_0)
   (try rw [show ((0 : Int)).toNat = 0 from rfl] at hx162_1)
   (try rw [show 0 * 6 = 0 from rfl] at hx162_1)
   (try rw [z0_] at hx162_1)
   (try rw [show ((0 : Int)).toNat = 0 from rfl] at hx162_2)
   (try rw [show 0 * 6 = 0 from rfl] at hx162_2)
   (try rw [z0_] at hx162_2)
   (try rw [show ((0 : Int)).toNat = 0 from rfl] at hx162_3)
   (try rw [show 0 * 6 = 0 from rfl] at hx162_3)
   (try rw [z0_] at hx162_3)
   (try rw [show ((0 : Int)).toNat = 0 from rfl] at hx162_4)
   (try rw [show 0 * 6 = 0 from rfl] at hx162_4)
   (try rw [z0_] at hx162_4)
   (try rw [show ((0 : Int)).toNat = 0 from rfl] at hx162_5)
   (try rw [show 0 * 6 = 0 from rfl] at hx162_5)
   (try rw [z0_] at hx162_5)
   replace p162 := eq_true p162
   replace q162 := eq_true q162
   have p163 : 0 ≤ (0 : Int) := (by omega)
   have q163 : 0 < (y156.length : Int) := of_decide_eq_true (by first | (with_reducible assumption) | assumption)
   obtain ⟨ad163, e163, hx163_0, hx163_1, hx163_2, hx163_3, hx163_4, hx163_5⟩ := at_T23 (Kd.R_reads' HO158.out).2.2 0 p163 q163
   obtain rfl : ad162 = ad163 := (by injection e163)
   have qi163 : (0 < y156.length) = True := eq_true (by omega)
   (try rw [show ((0 : Int)).toNat = 0 from rfl] at hx163_0)
   (try rw [show 0 * 6 = 0 from rfl] at hx163_0)
   (try rw [z0_] at hx163_0)
   (try rw [show ((0 : Int)).toNat = 0 from rfl] at hx163_1)
   (try rw [show 0 * 6 = 0 from rfl] at hx163_1)
   (try rw [z0_] at hx163_1)
   (try rw [show ((0 : Int)).toNat = 0 from rfl] at hx163_2)
   (try rw [show 0 * 6 = 0 from rfl] at hx163_2)
   (try rw [z0_] at hx163_2)
   (try rw [show ((0 : Int)).toNat = 0 from rfl] at hx163_3)
   (try rw [show 0 * 6 = 0 from rfl] at hx163_3)
   (try rw [z0_] at hx163_3)
   (try rw [show ((0 : Int)).toNat = 0 from rfl] at hx163_4)
   (try rw [show 0 * 6 = 0 from rfl] at hx163_4)
   (try rw [z0_] at hx163_4)
   (try rw [show ((0 : Int)).toNat = 0 from rfl] at hx163_5)
   (try rw [show 0 * 6 = 0 from rfl] at hx163_5)
   (try rw [z0_] at hx163_5)
   replace p163 := eq_true p163
   replace q163 := eq_true q163
   refine start_ (n := 13) (S := fun w' => True) (ds := []) #[false, false, false, false, false, false, false, false, false, false, false, false, false] (by kernel_rfl) rfl rfl trivial (fun hHeld => ?_); refine with_tabW pinfoldlaw19_SweepForms.tab5 pinfoldlaw19_SweepForms.bits5 (fun HT_ HW_ => ?_)
   generalize w90.drew = w92 at HO158 HB hx162_0 hx162_1 hx162_2 hx162_3 hx162_4 hx162_5 hx163_0 hx163_1 hx163_2 hx163_3 hx163_4 hx163_5 hHeld ⊢
   refine pure_ (i := 2) (N := some 25) (v := ?_) (a' := ?_) #[false, false, true, false, false, false, false, false, false, false, false, false, false] rfl rfl (any_of HT_.out (by kernel_rfl)) (fun _ _ _ h => h) (Or.inl ⟨by rfl, ?_⟩) ?_ ?_
   rotate_left
   ·intro w'
    go_simp
    with_reducible rfl
   rotate_left
   ·simp only [Act.put, List.setIfInBounds_toArray, List.set_cons_zero, List.set_cons_succ, i64_w, i32_w]
    rfl
   refine pure_ (i := 5) (N := some 28) (v := ?_) (a' := ?_) #[false, false, true, false, false, true, false, false, false, false, false, false, false] rfl rfl (any_of HT_.out (by kernel_rfl)) (fun _ _ _ h => h) (Or.inl ⟨by rfl, ?_⟩) ?_ ?_
   rotate_left
   ·intro w'
    go_simp
    with_reducible rfl
   rotate_left
   ·simp only [Act.put, List.setIfInBounds_toArray, List.set_cons_zero, List.set_cons_succ, i64_w, i32_w]
    rfl
   refine inv_at [0, 1, 3, 4, 6, 7, 8, 9, 10, 11, 12] (fun a0_ b a w' => ∃ (v160 : Value) (v165 : Value) (v168 : Value) (v171 : Value) (m12_ : Value), a = putSel a0_ b [(0, 23, .agg #[.int .i64 0, .int .i64 0, .string (⟨#[]⟩ : ByteArray), .int .i64 0, .string (⟨#[]⟩ : ByteArray), .bool false]), (1, 24, v160), (3, 26, .pointer (some ad162)), (4, 27, .agg #[.int .i64 ((rd_T23 y156 0).f0), .int .i64 ((rd_T23 y156 0).f1), .string ((rd_T23 y156 0).f2), .int .i64 ((rd_T23 y156 0).f3), .string ((rd_T23 y156 0).f4), .bool ((rd_T23 y156 0).f5)]), (6, 29, .pointer (some ad162)), (7, 30, .agg #[.int .i64 ((rd_T23 y156 0).f0), .int .i64 ((rd_T23 y156 0).f1), .string ((rd_T23 y156 0).f2), .int .i64 ((rd_T23 y156 0).f3), .string ((rd_T23 y156 0).f4), .bool ((rd_T23 y156 0).f5)]), (8, 31, v165), (9, 32, .agg #[.int .i64 10, .int .i64 1, .string (⟨#[]⟩ : ByteArray), .int .i64 0, .string (⟨#[]⟩ : ByteArray), .bool false]), (10, 33, v168), (11, 34, v171), (12, 7, m12_)] ∧ (Kd.R k23 23 w' w.heap.size (fun _ => True) (.slice (some ad162) y156.length co93) y156) ∧ (Below w.heap.size w w') ∧ (b 1 = true → b 11 = false → Kd.R k23 23 w' w.heap.size (fun k_ => some k_ ≠ (.slice (some ad162) y156.length co93 : Value).ownBlock) v160 y159) ∧ (b 8 = true → b 11 = false → Kd.R k23 23 w' w.heap.size (fun k_ => some k_ ≠ (.slice (some ad162) y156.length co93 : Value).ownBlock) v165 y164) ∧ (b 10 = true → b 11 = false → Kd.R k23 23 w' w.heap.size (fun k_ => some k_ ≠ (.slice (some ad162) y156.length co93 : Value).ownBlock) v168 y167) ∧ (b 11 = true → Kd.N (Kd.slice 23 k23) 33 w' w.heap.size (fun k_ => some k_ ≠ (.slice (some ad162) y156.length co93 : Value).ownBlock) v171 y170) ∧ (b 12 = true → (m12_ : Value) = v171)) HT_.out HW_.out (by kernel_rfl) (by kernel_rfl) ?_ ?_ ?_
   ·exact ⟨.bool false, .bool false, .bool false, .bool false, .bool false, by simp only [putSel, Bool.false_eq_true, if_false], HO158.out, HB.out, fun h_ => absurd h_ (by decide), fun h_ => absurd h_ (by decide), fun h_ => absurd h_ (by decide), fun h_ => absurd h_ (by decide), fun h_ => absurd h_ (by decide)⟩
   ·skip
    clear HB HO158
    refine steps_cons ?_ ?_
    ·rintro b a w' ⟨v160, v165, v168, v171, m12_, ha, Q_HO158, Q_HB, Q_HO161, Q_HO166, Q_HO169, Q_HO172, Q_X12_⟩ hb_ hon hoff
     refine ⟨_, rfl, fun K hK => ?_⟩
     replace ha := am_ ha
     have HO158 := am_ Q_HO158
     have HB := am_ Q_HB
     refine value_ (w1 := w') (v := .agg #[.int .i64 0, .int .i64 0, .string (⟨#[]⟩ : ByteArray), .int .i64 0, .string (⟨#[]⟩ : ByteArray), .bool false]) (by rfl) rfl ?_ ?_
     ·go_simp
      (try simp only [i64_w])
      try rfl
     refine hK.out _ _ ⟨v160, v165, v168, v171, m12_, (by rw [ha.out]; exact putSel_upk 0 hb_ rfl rfl rfl), Q_HO158, Q_HB, fun h0_ _ => absurd ((hoff 1 (by kernel_rfl)).symm.trans h0_) (by decide), Q_HO166, Q_HO169, fun h0_ => absurd ((hoff 11 (by kernel_rfl)).symm.trans h0_) (by decide), fun h0_ => absurd ((hoff 12 (by kernel_rfl)).symm.trans h0_) (by decide)⟩
    refine steps_cons ?_ ?_
    ·rintro b a w' ⟨v160, v165, v168, v171, m12_, ha, Q_HO158, Q_HB, Q_HO161, Q_HO166, Q_HO169, Q_HO172, Q_X12_⟩ hb_ hon hoff
     refine ⟨_, rfl, fun K hK => ?_⟩
     have e23 : a.tmps[23]? = some (.agg #[.int .i64 0, .int .i64 0, .string (⟨#[]⟩ : ByteArray), .int .i64 0, .string (⟨#[]⟩ : ByteArray), .bool false]) := by rw [ha]; exact putSel_on (e := (0, 23, .agg #[.int .i64 0, .int .i64 0, .string (⟨#[]⟩ : ByteArray), .int .i64 0, .string (⟨#[]⟩ : ByteArray), .bool false])) 0 rfl rfl (hon 0 (by kernel_rfl)) rfl
     replace ha := am_ ha
     have HO158 := am_ Q_HO158
     have HB := am_ Q_HB
     refine Kd.R_lit_step k23 _ 23 ?hg (N := 24) ?hd (xs := ([(⟨0, 0, (⟨#[]⟩ : ByteArray), 0, (⟨#[]⟩ : ByteArray), false⟩ : S23)] : List (S23))) (inner := [.int .i64 0, .int .i64 0, .string (⟨#[]⟩ : ByteArray), .int .i64 0, .string (⟨#[]⟩ : ByteArray), .bool false]) (ok := fun _ => True) (okp := fun _ => True) ?hr ?hp (fun _ hk => hk) trivial (Below.refl _ _) (Nat.le_refl _) (by simp) ?_; (case hd => rfl); (case hg => rfl); (case hr => first | (go_simp; done) | (go_simp; rfl)); (case hp => exact (Reps.c6 (show Kd.M k23 _ _ _ (⟨0, 0, (⟨#[]⟩ : ByteArray), 0, (⟨#[]⟩ : ByteArray), false⟩ : S23) [.int .i64 0, .int .i64 0, .string (⟨#[]⟩ : ByteArray), .int .i64 0, .string (⟨#[]⟩ : ByteArray), .bool false] from (k23_mkM _ _ _ (⟨0, 0, (⟨#[]⟩ : ByteArray), 0, (⟨#[]⟩ : ByteArray), false⟩ : S23) )) (Reps.none _ _)))
     intro v160 w94 ho95 hb hg_ hnew_
     clear hg_ hnew_
     (first | rw [← Ny159.out] at ho95 | (simp only [Int.reduceToNat] at ho95; rw [← Ny159.out] at ho95))
     have n0_ := am_ (r5_ (by (with_reducible repeat (first | apply r1_ | apply r2_ | apply r3_)); exact HO158.out) (r4_ ho95) hb)
     have n1_ := am_ (Kd.R_lower (Kd.R_new' ho95 (Kd.R_lt (by (with_reducible repeat (first | apply r1_ | apply r2_ | apply r3_)); exact HO158.out))) (below_size (by repeat (with_reducible first | exact HB.out | apply p3_ | apply p1_ | apply p2_))))
     have n2_ := am_ (below_step (by repeat (with_reducible first | exact HB.out | apply p3_ | apply p1_ | apply p2_)) hb)
     have z_HO166 := fun (h0_ : b 8 = true) (h1_ : b 11 = false) => (show Kd.R k23 23 w94 w.heap.size (fun k_ => some k_ ≠ (.slice (some ad162) y156.length co93 : Value).ownBlock) v165 y164 from by first | exact (r5_ (by (with_reducible repeat (first | apply r1_ | apply r2_ | apply r3_)); exact (Q_HO166 h0_ h1_)) (r4_ ho95) hb) | exact Kd.R_mono (r5_ (by (with_reducible repeat (first | apply r1_ | apply r2_ | apply r3_)); exact (Q_HO166 h0_ h1_)) (r4_ ho95) hb) (fun _ h_ => by first | trivial | exact h_ | exact h_.1))
     have z_HO169 := fun (h0_ : b 10 = true) (h1_ : b 11 = false) => (show Kd.R k23 23 w94 w.heap.size (fun k_ => some k_ ≠ (.slice (some ad162) y156.length co93 : Value).ownBlock) v168 y167 from by first | exact (r5_ (by (with_reducible repeat (first | apply r1_ | apply r2_ | apply r3_)); exact (Q_HO169 h0_ h1_)) (r4_ ho95) hb) | exact Kd.R_mono (r5_ (by (with_reducible repeat (first | apply r1_ | apply r2_ | apply r3_)); exact (Q_HO169 h0_ h1_)) (r4_ ho95) hb) (fun _ h_ => by first | trivial | exact h_ | exact h_.1))
     clear HO158
     clear HB
     have HO158 := n0_
     have HO161 := n1_
     have HB := n2_
     clear n0_ n1_ n2_
     clear hb ho95
     refine hK.out _ _ ⟨v160, v165, v168, v171, m12_, (by rw [ha.out]; exact putSel_upk 1 hb_ rfl rfl rfl), (by (with_reducible repeat (first | apply r1_ | apply r2_ | apply r3_)); exact Kd.R_mono HO158.out (fun _ hk => by first | trivial | exact hk.2)), (by repeat (with_reducible first | exact HB.out | apply p3_ | apply p1_ | apply p2_)), fun _ _ => (by (with_reducible repeat (first | apply r1_ | apply r2_ | apply r3_)); exact Kd.R_mono HO161.out (fun _ hk => by first | trivial | exact hk.2)), z_HO166, z_HO169, fun h0_ => absurd ((hoff 11 (by kernel_rfl)).symm.trans h0_) (by decide), fun h0_ => absurd ((hoff 12 (by kernel_rfl)).symm.trans h0_) (by decide)⟩
    refine steps_cons ?_ ?_
    ·rintro b a w' ⟨v160, v165, v168, v171, m12_, ha, Q_HO158, Q_HB, Q_HO161, Q_HO166, Q_HO169, Q_HO172, Q_X12_⟩ hb_ hon hoff
     refine ⟨_, rfl, fun K hK => ?_⟩
     have e25 : a.tmps[25]? = some (.slice (some ad162) y156.length co93) := by rw [ha]; exact (putSel_off rfl).trans rfl
     replace ha := am_ ha
     have HO158 := am_ Q_HO158
     have HB := am_ Q_HB
     refine value_ (w1 := w') (v := .pointer (some ad162)) (by rfl) rfl ?_ ?_
     ·go_simp
      (try simp only [i64_w])
      try rfl
     refine hK.out _ _ ⟨v160, v165, v168, v171, m12_, (by rw [ha.out]; exact putSel_upk 2 hb_ rfl rfl rfl), Q_HO158, Q_HB, Q_HO161, fun h0_ _ => absurd ((hoff 8 (by kernel_rfl)).symm.trans h0_) (by decide), Q_HO169, fun h0_ => absurd ((hoff 11 (by kernel_rfl)).symm.trans h0_) (by decide), fun h0_ => absurd ((hoff 12 (by kernel_rfl)).symm.trans h0_) (by decide)⟩
    refine steps_cons ?_ ?_
    ·rintro b a w' ⟨v160, v165, v168, v171, m12_, ha, Q_HO158, Q_HB, Q_HO161, Q_HO166, Q_HO169, Q_HO172, Q_X12_⟩ hb_ hon hoff
     refine ⟨_, rfl, fun K hK => ?_⟩
     have e26 : a.tmps[26]? = some (.pointer (some ad162)) := by rw [ha]; exact putSel_on (e := (3, 26, .pointer (some ad162))) 2 rfl rfl (hon 3 (by kernel_rfl)) rfl
     replace ha := am_ ha
     have HO158 := am_ Q_HO158
     have HB := am_ Q_HB
     obtain ⟨ad162_z, e162_z, hx162_0_z, hx162_1_z, hx162_2_z, hx162_3_z, hx162_4_z, hx162_5_z⟩ := at_T23 (Kd.R_reads' HO158.out).2.2 0 (of_eq_true p162) (of_eq_true q162)
     cases e162_z
     have hs0_ : w'.cell? ad162 = some (.int .i64 ((rd_T23 y156 0).f0)) := (by first | exact hx162_0_z | (have h_ := hx162_0_z; (try simp only [Int.reduceToNat, Nat.zero_mul, Nat.reduceMul, Nat.reduceEqDiff, Go.Addr.add, ↓reduceIte, z0_] at h_); exact h_))
     have hs1_ : w'.cell? ⟨ad162.block, ad162.off + 1, none⟩ = some (.int .i64 ((rd_T23 y156 0).f1)) := (by first | exact hx162_1_z | (have h_ := hx162_1_z; (try simp only [Int.reduceToNat, Nat.zero_mul, Nat.reduceMul, Nat.reduceEqDiff, Go.Addr.add, ↓reduceIte, z0_] at h_); exact h_))
     have hs2_ : w'.cell? ⟨ad162.block, ad162.off + 2, none⟩ = some (.string ((rd_T23 y156 0).f2)) := (by first | exact hx162_2_z | (have h_ := hx162_2_z; (try simp only [Int.reduceToNat, Nat.zero_mul, Nat.reduceMul, Nat.reduceEqDiff, Go.Addr.add, ↓reduceIte, z0_] at h_); exact h_))
     have hs3_ : w'.cell? ⟨ad162.block, ad162.off + 3, none⟩ = some (.int .i64 ((rd_T23 y156 0).f3)) := (by first | exact hx162_3_z | (have h_ := hx162_3_z; (try simp only [Int.reduceToNat, Nat.zero_mul, Nat.reduceMul, Nat.reduceEqDiff, Go.Addr.add, ↓reduceIte, z0_] at h_); exact h_))
     have hs4_ : w'.cell? ⟨ad162.block, ad162.off + 4, none⟩ = some (.string ((rd_T23 y156 0).f4)) := (by first | exact hx162_4_z | (have h_ := hx162_4_z; (try simp only [Int.reduceToNat, Nat.zero_mul, Nat.reduceMul, Nat.reduceEqDiff, Go.Addr.add, ↓reduceIte, z0_] at h_); exact h_))
     have hs5_ : w'.cell? ⟨ad162.block, ad162.off + 5, none⟩ = some (.bool ((rd_T23 y156 0).f5)) := (by first | exact hx162_5_z | (have h_ := hx162_5_z; (try simp only [Int.reduceToNat, Nat.zero_mul, Nat.reduceMul, Nat.reduceEqDiff, Go.Addr.add, ↓reduceIte, z0_] at h_); exact h_))
     refine value_ (w1 := w') (v := .agg #[.int .i64 ((rd_T23 y156 0).f0), .int .i64 ((rd_T23 y156 0).f1), .string ((rd_T23 y156 0).f2), .int .i64 ((rd_T23 y156 0).f3), .string ((rd_T23 y156 0).f4), .bool ((rd_T23 y156 0).f5)]) (by rfl) rfl ?_ ?_
     ·go_simp
      (try simp only [i64_w])
      try rfl
     refine hK.out _ _ ⟨v160, v165, v168, v171, m12_, (by rw [ha.out]; exact putSel_upk 3 hb_ rfl rfl rfl), Q_HO158, Q_HB, Q_HO161, fun h0_ _ => absurd ((hoff 8 (by kernel_rfl)).symm.trans h0_) (by decide), Q_HO169, fun h0_ => absurd ((hoff 11 (by kernel_rfl)).symm.trans h0_) (by decide), fun h0_ => absurd ((hoff 12 (by kernel_rfl)).symm.trans h0_) (by decide)⟩
    refine steps_cons ?_ ?_
    ·rintro b a w' ⟨v160, v165, v168, v171, m12_, ha, Q_HO158, Q_HB, Q_HO161, Q_HO166, Q_HO169, Q_HO172, Q_X12_⟩ hb_ hon hoff
     refine ⟨_, rfl, fun K hK => ?_⟩
     have e28 : a.tmps[28]? = some (.slice (some ad162) y156.length co93) := by rw [ha]; exact (putSel_off rfl).trans rfl
     replace ha := am_ ha
     have HO158 := am_ Q_HO158
     have HB := am_ Q_HB
     refine value_ (w1 := w') (v := .pointer (some ad162)) (by rfl) rfl ?_ ?_
     ·go_simp
      (try simp only [i64_w])
      try rfl
     refine hK.out _ _ ⟨v160, v165, v168, v171, m12_, (by rw [ha.out]; exact putSel_upk 4 hb_ rfl rfl rfl), Q_HO158, Q_HB, Q_HO161, fun h0_ _ => absurd ((hoff 8 (by kernel_rfl)).symm.trans h0_) (by decide), Q_HO169, fun h0_ => absurd ((hoff 11 (by kernel_rfl)).symm.trans h0_) (by decide), fun h0_ => absurd ((hoff 12 (by kernel_rfl)).symm.trans h0_) (by decide)⟩
    refine steps_cons ?_ ?_
    ·rintro b a w' ⟨v160, v165, v168, v171, m12_, ha, Q_HO158, Q_HB, Q_HO161, Q_HO166, Q_HO169, Q_HO172, Q_X12_⟩ hb_ hon hoff
     refine ⟨_, rfl, fun K hK => ?_⟩
     have e29 : a.tmps[29]? = some (.pointer (some ad162)) := by rw [ha]; exact putSel_on (e := (6, 29, .pointer (some ad162))) 4 rfl rfl (hon 6 (by kernel_rfl)) rfl
     replace ha := am_ ha
     have HO158 := am_ Q_HO158
     have HB := am_ Q_HB
     obtain ⟨ad163_z, e163_z, hx163_0_z, hx163_1_z, hx163_2_z, hx163_3_z, hx163_4_z, hx163_5_z⟩ := at_T23 (Kd.R_reads' HO158.out).2.2 0 (of_eq_true p163) (of_eq_true q163)
     cases e163_z
     have hs6_ : w'.cell? ad162 = some (.int .i64 ((rd_T23 y156 0).f0)) := (by first | exact hx163_0_z | (have h_ := hx163_0_z; (try simp only [Int.reduceToNat, Nat.zero_mul, Nat.reduceMul, Nat.reduceEqDiff, Go.Addr.add, ↓reduceIte, z0_] at h_); exact h_))
     have hs7_ : w'.cell? ⟨ad162.block, ad162.off + 1, none⟩ = some (.int .i64 ((rd_T23 y156 0).f1)) := (by first | exact hx163_1_z | (have h_ := hx163_1_z; (try simp only [Int.reduceToNat, Nat.zero_mul, Nat.reduceMul, Nat.reduceEqDiff, Go.Addr.add, ↓reduceIte, z0_] at h_); exact h_))
     have hs8_ : w'.cell? ⟨ad162.block, ad162.off + 2, none⟩ = some (.string ((rd_T23 y156 0).f2)) := (by first | exact hx163_2_z | (have h_ := hx163_2_z; (try simp only [Int.reduceToNat, Nat.zero_mul, Nat.reduceMul, Nat.reduceEqDiff, Go.Addr.add, ↓reduceIte, z0_] at h_); exact h_))
     have hs9_ : w'.cell? ⟨ad162.block, ad162.off + 3, none⟩ = some (.int .i64 ((rd_T23 y156 0).f3)) := (by first | exact hx163_3_z | (have h_ := hx163_3_z; (try simp only [Int.reduceToNat, Nat.zero_mul, Nat.reduceMul, Nat.reduceEqDiff, Go.Addr.add, ↓reduceIte, z0_] at h_); exact h_))
     have hs10_ : w'.cell? ⟨ad162.block, ad162.off + 4, none⟩ = some (.string ((rd_T23 y156 0).f4)) := (by first | exact hx163_4_z | (have h_ := hx163_4_z; (try simp only [Int.reduceToNat, Nat.zero_mul, Nat.reduceMul, Nat.reduceEqDiff, Go.Addr.add, ↓reduceIte, z0_] at h_); exact h_))
     have hs11_ : w'.cell? ⟨ad162.block, ad162.off + 5, none⟩ = some (.bool ((rd_T23 y156 0).f5)) := (by first | exact hx163_5_z | (have h_ := hx163_5_z; (try simp only [Int.reduceToNat, Nat.zero_mul, Nat.reduceMul, Nat.reduceEqDiff, Go.Addr.add, ↓reduceIte, z0_] at h_); exact h_))
     refine value_ (w1 := w') (v := .agg #[.int .i64 ((rd_T23 y156 0).f0), .int .i64 ((rd_T23 y156 0).f1), .string ((rd_T23 y156 0).f2), .int .i64 ((rd_T23 y156 0).f3), .string ((rd_T23 y156 0).f4), .bool ((rd_T23 y156 0).f5)]) (by rfl) rfl ?_ ?_
     ·go_simp
      (try simp only [i64_w])
      try rfl
     refine hK.out _ _ ⟨v160, v165, v168, v171, m12_, (by rw [ha.out]; exact putSel_upk 5 hb_ rfl rfl rfl), Q_HO158, Q_HB, Q_HO161, fun h0_ _ => absurd ((hoff 8 (by kernel_rfl)).symm.trans h0_) (by decide), Q_HO169, fun h0_ => absurd ((hoff 11 (by kernel_rfl)).symm.trans h0_) (by decide), fun h0_ => absurd ((hoff 12 (by kernel_rfl)).symm.trans h0_) (by decide)⟩
    refine steps_cons ?_ ?_
    ·rintro b a w' ⟨v160, v165, v168, v171, m12_, ha, Q_HO158, Q_HB, Q_HO161, Q_HO166, Q_HO169, Q_HO172, Q_X12_⟩ hb_ hon hoff
     refine ⟨_, rfl, fun K hK => ?_⟩
     have e27 : a.tmps[27]? = some (.agg #[.int .i64 ((rd_T23 y156 0).f0), .int .i64 ((rd_T23 y156 0).f1), .string ((rd_T23 y156 0).f2), .int .i64 ((rd_T23 y156 0).f3), .string ((rd_T23 y156 0).f4), .bool ((rd_T23 y156 0).f5)]) := by rw [ha]; exact putSel_on (e := (4, 27, .agg #[.int .i64 ((rd_T23 y156 0).f0), .int .i64 ((rd_T23 y156 0).f1), .string ((rd_T23 y156 0).f2), .int .i64 ((rd_T23 y156 0).f3), .string ((rd_T23 y156 0).f4), .bool ((rd_T23 y156 0).f5)])) 3 rfl rfl (hon 4 (by kernel_rfl)) rfl
     have e30 : a.tmps[30]? = some (.agg #[.int .i64 ((rd_T23 y156 0).f0), .int .i64 ((rd_T23 y156 0).f1), .string ((rd_T23 y156 0).f2), .int .i64 ((rd_T23 y156 0).f3), .string ((rd_T23 y156 0).f4), .bool ((rd_T23 y156 0).f5)]) := by rw [ha]; exact putSel_on (e := (7, 30, .agg #[.int .i64 ((rd_T23 y156 0).f0), .int .i64 ((rd_T23 y156 0).f1), .string ((rd_T23 y156 0).f2), .int .i64 ((rd_T23 y156 0).f3), .string ((rd_T23 y156 0).f4), .bool ((rd_T23 y156 0).f5)])) 5 rfl rfl (hon 7 (by kernel_rfl)) rfl
     replace ha := am_ ha
     have HO158 := am_ Q_HO158
     have HB := am_ Q_HB
     refine Kd.R_lit_step k23 _ 23 ?hg (N := 31) ?hd (xs := ([(⟨(rd_T23 y156 0).f0, (rd_T23 y156 0).f1, (rd_T23 y156 0).f2, (rd_T23 y156 0).f3, (rd_T23 y156 0).f4, (rd_T23 y156 0).f5⟩ : S23), (⟨(rd_T23 y156 0).f0, (rd_T23 y156 0).f1, (rd_T23 y156 0).f2, (rd_T23 y156 0).f3, (rd_T23 y156 0).f4, (rd_T23 y156 0).f5⟩ : S23)] : List (S23))) (inner := [.int .i64 ((rd_T23 y156 0).f0), .int .i64 ((rd_T23 y156 0).f1), .string ((rd_T23 y156 0).f2), .int .i64 ((rd_T23 y156 0).f3), .string ((rd_T23 y156 0).f4), .bool ((rd_T23 y156 0).f5), .int .i64 ((rd_T23 y156 0).f0), .int .i64 ((rd_T23 y156 0).f1), .string ((rd_T23 y156 0).f2), .int .i64 ((rd_T23 y156 0).f3), .string ((rd_T23 y156 0).f4), .bool ((rd_T23 y156 0).f5)]) (ok := fun _ => True) (okp := fun _ => True) ?hr ?hp (fun _ hk => hk) trivial (Below.refl _ _) (Nat.le_refl _) (by simp) ?_; (case hd => rfl); (case hg => rfl); (case hr => first | (go_simp; done) | (go_simp; rfl)); (case hp => exact (Reps.c6 (show Kd.M k23 _ _ _ (⟨(rd_T23 y156 0).f0, (rd_T23 y156 0).f1, (rd_T23 y156 0).f2, (rd_T23 y156 0).f3, (rd_T23 y156 0).f4, (rd_T23 y156 0).f5⟩ : S23) [.int .i64 ((rd_T23 y156 0).f0), .int .i64 ((rd_T23 y156 0).f1), .string ((rd_T23 y156 0).f2), .int .i64 ((rd_T23 y156 0).f3), .string ((rd_T23 y156 0).f4), .bool ((rd_T23 y156 0).f5)] from (k23_mkM _ _ _ (⟨(rd_T23 y156 0).f0, (rd_T23 y156 0).f1, (rd_T23 y156 0).f2, (rd_T23 y156 0).f3, (rd_T23 y156 0).f4, (rd_T23 y156 0).f5⟩ : S23) )) (Reps.c6 (show Kd.M k23 _ _ _ (⟨(rd_T23 y156 0).f0, (rd_T23 y156 0).f1, (rd_T23 y156 0).f2, (rd_T23 y156 0).f3, (rd_T23 y156 0).f4, (rd_T23 y156 0).f5⟩ : S23) [.int .i64 ((rd_T23 y156 0).f0), .int .i64 ((rd_T23 y156 0).f1), .string ((rd_T23 y156 0).f2), .int .i64 ((rd_T23 y156 0).f3), .string ((rd_T23 y156 0).f4), .bool ((rd_T23 y156 0).f5)] from (k23_mkM _ _ _ (⟨(rd_T23 y156 0).f0, (rd_T23 y156 0).f1, (rd_T23 y156 0).f2, (rd_T23 y156 0).f3, (rd_T23 y156 0).f4, (rd_T23 y156 0).f5⟩ : S23) )) (Reps.none _ _))))
     intro v165 w94 ho95 hb hg_ hnew_
     clear hg_ hnew_
     (first | rw [← Ny164.out] at ho95 | (simp only [Int.reduceToNat] at ho95; rw [← Ny164.out] at ho95))
     have n0_ := am_ (r5_ (by (with_reducible repeat (first | apply r1_ | apply r2_ | apply r3_)); exact HO158.out) (r4_ ho95) hb)
     have n1_ := am_ (Kd.R_lower (Kd.R_new' ho95 (Kd.R_lt (by (with_reducible repeat (first | apply r1_ | apply r2_ | apply r3_)); exact HO158.out))) (below_size (by repeat (with_reducible first | exact HB.out | apply p3_ | apply p1_ | apply p2_))))
     have n2_ := am_ (below_step (by repeat (with_reducible first | exact HB.out | apply p3_ | apply p1_ | apply p2_)) hb)
     have z_HO161 := fun (h0_ : b 1 = true) (h1_ : b 11 = false) => (show Kd.R k23 23 w94 w.heap.size (fun k_ => some k_ ≠ (.slice (some ad162) y156.length co93 : Value).ownBlock) v160 y159 from by first | exact (r5_ (by (with_reducible repeat (first | apply r1_ | apply r2_ | apply r3_)); exact (Q_HO161 h0_ h1_)) (r4_ ho95) hb) | exact Kd.R_mono (r5_ (by (with_reducible repeat (first | apply r1_ | apply r2_ | apply r3_)); exact (Q_HO161 h0_ h1_)) (r4_ ho95) hb) (fun _ h_ => by first | trivial | exact h_ | exact h_.1))
     have z_HO169 := fun (h0_ : b 10 = true) (h1_ : b 11 = false) => (show Kd.R k23 23 w94 w.heap.size (fun k_ => some k_ ≠ (.slice (some ad162) y156.length co93 : Value).ownBlock) v168 y167 from by first | exact (r5_ (by (with_reducible repeat (first | apply r1_ | apply r2_ | apply r3_)); exact (Q_HO169 h0_ h1_)) (r4_ ho95) hb) | exact Kd.R_mono (r5_ (by (with_reducible repeat (first | apply r1_ | apply r2_ | apply r3_)); exact (Q_HO169 h0_ h1_)) (r4_ ho95) hb) (fun _ h_ => by first | trivial | exact h_ | exact h_.1))
     clear HO158
     clear HB
     have HO158 := n0_
     have HO166 := n1_
     have HB := n2_
     clear n0_ n1_ n2_
     clear hb ho95
     refine hK.out _ _ ⟨v160, v165, v168, v171, m12_, (by rw [ha.out]; exact putSel_upk 6 hb_ rfl rfl rfl), (by (with_reducible repeat (first | apply r1_ | apply r2_ | apply r3_)); exact Kd.R_mono HO158.out (fun _ hk => by first | trivial | exact hk.2)), (by repeat (with_reducible first | exact HB.out | apply p3_ | apply p1_ | apply p2_)), z_HO161, fun _ _ => (by (with_reducible repeat (first | apply r1_ | apply r2_ | apply r3_)); exact Kd.R_mono HO166.out (fun _ hk => by first | trivial | exact hk.2)), z_HO169, fun h0_ => absurd ((hoff 11 (by kernel_rfl)).symm.trans h0_) (by decide), fun h0_ => absurd ((hoff 12 (by kernel_rfl)).symm.trans h0_) (by decide)⟩
    refine steps_cons ?_ ?_
    ·rintro b a w' ⟨v160, v165, v168, v171, m12_, ha, Q_HO158, Q_HB, Q_HO161, Q_HO166, Q_HO169, Q_HO172, Q_X12_⟩ hb_ hon hoff
     refine ⟨_, rfl, fun K hK => ?_⟩
     replace ha := am_ ha
     have HO158 := am_ Q_HO158
     have HB := am_ Q_HB
     refine value_ (w1 := w') (v := .agg #[.int .i64 10, .int .i64 1, .string (⟨#[]⟩ : ByteArray), .int .i64 0, .string (⟨#[]⟩ : ByteArray), .bool false]) (by rfl) rfl ?_ ?_
     ·go_simp
      (try simp only [i64_w])
      try rfl
     refine hK.out _ _ ⟨v160, v165, v168, v171, m12_, (by rw [ha.out]; exact putSel_upk 7 hb_ rfl rfl rfl), Q_HO158, Q_HB, Q_HO161, Q_HO166, fun h0_ _ => absurd ((hoff 10 (by kernel_rfl)).symm.trans h0_) (by decide), fun h0_ => absurd ((hoff 11 (by kernel_rfl)).symm.trans h0_) (by decide), fun h0_ => absurd ((hoff 12 (by kernel_rfl)).symm.trans h0_) (by decide)⟩
    refine steps_cons ?_ ?_
    ·rintro b a w' ⟨v160, v165, v168, v171, m12_, ha, Q_HO158, Q_HB, Q_HO161, Q_HO166, Q_HO169, Q_HO172, Q_X12_⟩ hb_ hon hoff
     refine ⟨_, rfl, fun K hK => ?_⟩
     have e32 : a.tmps[32]? = some (.agg #[.int .i64 10, .int .i64 1, .string (⟨#[]⟩ : ByteArray), .int .i64 0, .string (⟨#[]⟩ : ByteArray), .bool false]) := by rw [ha]; exact putSel_on (e := (9, 32, .agg #[.int .i64 10, .int .i64 1, .string (⟨#[]⟩ : ByteArray), .int .i64 0, .string (⟨#[]⟩ : ByteArray), .bool false])) 7 rfl rfl (hon 9 (by kernel_rfl)) rfl
     replace ha := am_ ha
     have HO158 := am_ Q_HO158
     have HB := am_ Q_HB
     refine Kd.R_lit_step k23 _ 23 ?hg (N := 33) ?hd (xs := ([(⟨10, 1, (⟨#[]⟩ : ByteArray), 0, (⟨#[]⟩ : ByteArray), false⟩ : S23)] : List (S23))) (inner := [.int .i64 10, .int .i64 1, .string (⟨#[]⟩ : ByteArray), .int .i64 0, .string (⟨#[]⟩ : ByteArray), .bool false]) (ok := fun _ => True) (okp := fun _ => True) ?hr ?hp (fun _ hk => hk) trivial (Below.refl _ _) (Nat.le_refl _) (by simp) ?_; (case hd => rfl); (case hg => rfl); (case hr => first | (go_simp; done) | (go_simp; rfl)); (case hp => exact (Reps.c6 (show Kd.M k23 _ _ _ (⟨10, 1, (⟨#[]⟩ : ByteArray), 0, (⟨#[]⟩ : ByteArray), false⟩ : S23) [.int .i64 10, .int .i64 1, .string (⟨#[]⟩ : ByteArray), .int .i64 0, .string (⟨#[]⟩ : ByteArray), .bool false] from (k23_mkM _ _ _ (⟨10, 1, (⟨#[]⟩ : ByteArray), 0, (⟨#[]⟩ : ByteArray), false⟩ : S23) )) (Reps.none _ _)))
     intro v168 w94 ho95 hb hg_ hnew_
     clear hg_ hnew_
     (first | rw [← Ny167.out] at ho95 | (simp only [Int.reduceToNat] at ho95; rw [← Ny167.out] at ho95))
     have n0_ := am_ (r5_ (by (with_reducible repeat (first | apply r1_ | apply r2_ | apply r3_)); exact HO158.out) (r4_ ho95) hb)
     have n1_ := am_ (Kd.R_lower (Kd.R_new' ho95 (Kd.R_lt (by (with_reducible repeat (first | apply r1_ | apply r2_ | apply r3_)); exact HO158.out))) (below_size (by repeat (with_reducible first | exact HB.out | apply p3_ | apply p1_ | apply p2_))))
     have n2_ := am_ (below_step (by repeat (with_reducible first | exact HB.out | apply p3_ | apply p1_ | apply p2_)) hb)
     have z_HO161 := fun (h0_ : b 1 = true) (h1_ : b 11 = false) => (show Kd.R k23 23 w94 w.heap.size (fun k_ => some k_ ≠ (.slice (some ad162) y156.length co93 : Value).ownBlock) v160 y159 from by first | exact (r5_ (by (with_reducible repeat (first | apply r1_ | apply r2_ | apply r3_)); exact (Q_HO161 h0_ h1_)) (r4_ ho95) hb) | exact Kd.R_mono (r5_ (by (with_reducible repeat (first | apply r1_ | apply r2_ | apply r3_)); exact (Q_HO161 h0_ h1_)) (r4_ ho95) hb) (fun _ h_ => by first | trivial | exact h_ | exact h_.1))
     have z_HO166 := fun (h0_ : b 8 = true) (h1_ : b 11 = false) => (show Kd.R k23 23 w94 w.heap.size (fun k_ => some k_ ≠ (.slice (some ad162) y156.length co93 : Value).ownBlock) v165 y164 from by first | exact (r5_ (by (with_reducible repeat (first | apply r1_ | apply r2_ | apply r3_)); exact (Q_HO166 h0_ h1_)) (r4_ ho95) hb) | exact Kd.R_mono (r5_ (by (with_reducible repeat (first | apply r1_ | apply r2_ | apply r3_)); exact (Q_HO166 h0_ h1_)) (r4_ ho95) hb) (fun _ h_ => by first | trivial | exact h_ | exact h_.1))
     clear HO158
     clear HB
     have HO158 := n0_
     have HO169 := n1_
     have HB := n2_
     clear n0_ n1_ n2_
     clear hb ho95
     refine hK.out _ _ ⟨v160, v165, v168, v171, m12_, (by rw [ha.out]; exact putSel_upk 8 hb_ rfl rfl rfl), (by (with_reducible repeat (first | apply r1_ | apply r2_ | apply r3_)); exact Kd.R_mono HO158.out (fun _ hk => by first | trivial | exact hk.2)), (by repeat (with_reducible first | exact HB.out | apply p3_ | apply p1_ | apply p2_)), z_HO161, z_HO166, fun _ _ => (by (with_reducible repeat (first | apply r1_ | apply r2_ | apply r3_)); exact Kd.R_mono HO169.out (fun _ hk => by first | trivial | exact hk.2)), fun h0_ => absurd ((hoff 11 (by kernel_rfl)).symm.trans h0_) (by decide), fun h0_ => absurd ((hoff 12 (by kernel_rfl)).symm.trans h0_) (by decide)⟩
    refine steps_cons ?_ ?_
    ·rintro b a w' ⟨v160, v165, v168, v171, m12_, ha, Q_HO158, Q_HB, Q_HO161, Q_HO166, Q_HO169, Q_HO172, Q_X12_⟩ hb_ hon hoff
     refine ⟨_, rfl, fun K hK => ?_⟩
     have e24 : a.tmps[24]? = some (v160) := by rw [ha]; exact putSel_on (e := (1, 24, v160)) 1 rfl rfl (hon 1 (by kernel_rfl)) rfl
     have e31 : a.tmps[31]? = some (v165) := by rw [ha]; exact putSel_on (e := (8, 31, v165)) 6 rfl rfl (hon 8 (by kernel_rfl)) rfl
     have e33 : a.tmps[33]? = some (v168) := by rw [ha]; exact putSel_on (e := (10, 33, v168)) 8 rfl rfl (hon 10 (by kernel_rfl)) rfl
     replace ha := am_ ha
     have HO158 := am_ Q_HO158
     have HB := am_ Q_HB
     have HO161 := am_ (Q_HO161 (hon 1 (by kernel_rfl)) hb_)
     have HO166 := am_ (Q_HO166 (hon 8 (by kernel_rfl)) hb_)
     have HO169 := am_ (Q_HO169 (hon 10 (by kernel_rfl)) hb_)
     obtain ⟨Ao101, co101, eo101⟩ := Kd.R_slice HO161.out
     (first | subst eo101 | (injection eo101 with f1_ f2_ f3_; have f4_ := f1_.symm; have f5_ := f3_.symm; clear f1_ f2_ f3_; subst f4_; subst f5_))
     obtain ⟨Ao102, co102, eo102⟩ := Kd.R_slice HO166.out
     (first | subst eo102 | (injection eo102 with f1_ f2_ f3_; have f4_ := f1_.symm; have f5_ := f3_.symm; clear f1_ f2_ f3_; subst f4_; subst f5_))
     obtain ⟨Ao103, co103, eo103⟩ := Kd.R_slice HO169.out
     (first | subst eo103 | (injection eo103 with f1_ f2_ f3_; have f4_ := f1_.symm; have f5_ := f3_.symm; clear f1_ f2_ f3_; subst f4_; subst f5_))
     refine Kd.N_lit_step (Kd.slice 23 k23) _ 33 ?hg (N' := 34) ?hd (xs := ([y159, y164, y167] : List (List (S23)))) (inner := [.slice Ao101 y159.length co101, .slice Ao102 y164.length co102, .slice Ao103 y167.length co103]) (ok := (fun k_ => some k_ ≠ (.slice (some ad162) y156.length co93 : Value).ownBlock)) (okp := (fun k_ => some k_ ≠ (.slice (some ad162) y156.length co93 : Value).ownBlock)) ?hr ?hp (fun _ hk => hk) ((show ∀ k_, w'.heap.size ≤ k_ → (fun k_ => some k_ ≠ (.slice (some ad162) y156.length co93 : Value).ownBlock) k_ from fun k_ hk => Kd.fresh' (Kd.R_lt (by (with_reducible repeat (first | apply r1_ | apply r2_ | apply r3_)); exact HO158.out)) k_ hk) _ (Nat.le_refl _)) (Below.refl _ _) (Nat.le_refl _) (by simp) ?_; (case hd => rfl); (case hg => rfl); (case hr => first | (go_simp; done) | (go_simp; rfl)); (case hp => exact (Reps.one (show Kd.FK (Kd.slice 23 k23) _ _ y159 [.slice Ao101 y159.length co101] from (Kd.FK_slice_mk (Kd.R_reads' (Kd.R_mono (ok' := (fun k_ => some k_ ≠ (.slice (some ad162) y156.length co93 : Value).ownBlock)) (HO161.out) (fun k_ hk => by first | exact hk | exact hk.1))).2.1 (Kd.R_F (Kd.R_mono (ok' := (fun k_ => some k_ ≠ (.slice (some ad162) y156.length co93 : Value).ownBlock)) (HO161.out) (fun k_ hk => by first | exact hk | exact hk.1))))) (Reps.one (show Kd.FK (Kd.slice 23 k23) _ _ y164 [.slice Ao102 y164.length co102] from (Kd.FK_slice_mk (Kd.R_reads' (Kd.R_mono (ok' := (fun k_ => some k_ ≠ (.slice (some ad162) y156.length co93 : Value).ownBlock)) (HO166.out) (fun k_ hk => by first | exact hk | exact hk.1))).2.1 (Kd.R_F (Kd.R_mono (ok' := (fun k_ => some k_ ≠ (.slice (some ad162) y156.length co93 : Value).ownBlock)) (HO166.out) (fun k_ hk => by first | exact hk | exact hk.1))))) (Reps.one (show Kd.FK (Kd.slice 23 k23) _ _ y167 [.slice Ao103 y167.length co103] from (Kd.FK_slice_mk (Kd.R_reads' (Kd.R_mono (ok' := (fun k_ => some k_ ≠ (.slice (some ad162) y156.length co93 : Value).ownBlock)) (HO169.out) (fun k_ hk => by first | exact hk | exact hk.1))).2.1 (Kd.R_F (Kd.R_mono (ok' := (fun k_ => some k_ ≠ (.slice (some ad162) y156.length co93 : Value).ownBlock)) (HO169.out) (fun k_ hk => by first | exact hk | exact hk.1))))) (Reps.none _ _)))))
     intro v171 w104 ho105 hb hg_ hnew_
     clear hg_ hnew_
     (first | rw [← Ny170.out] at ho105 | (simp only [Int.reduceToNat] at ho105; rw [← Ny170.out] at ho105))
     have n0_ := am_ (Kd.R_below (by (with_reducible repeat (first | apply r1_ | apply r2_ | apply r3_)); exact HO158.out) hb)
     have n1_ := am_ (Kd.N_lower ho105 (below_size (by repeat (with_reducible first | exact HB.out | apply p3_ | apply p1_ | apply p2_))))
     have n2_ := am_ (below_step (by repeat (with_reducible first | exact HB.out | apply p3_ | apply p1_ | apply p2_)) hb)
     clear HO158
     clear HB
     clear HO161
     clear HO166
     clear HO169
     have HO158 := n0_
     have HO172 := n1_
     have HB := n2_
     clear n0_ n1_ n2_
     clear hb ho105
     refine hK.out _ _ ⟨.slice Ao101 y159.length co101, .slice Ao102 y164.length co102, .slice Ao103 y167.length co103, v171, m12_, (by rw [ha.out]; exact putSel_upk 9 hb_ rfl rfl rfl), (by (with_reducible repeat (first | apply r1_ | apply r2_ | apply r3_)); exact Kd.R_mono HO158.out (fun _ hk => trivial)), (by repeat (with_reducible first | exact HB.out | apply p3_ | apply p1_ | apply p2_)), fun _ h1_ => absurd ((up_self b 11).symm.trans h1_) (by decide), fun _ h1_ => absurd ((up_self b 11).symm.trans h1_) (by decide), fun _ h1_ => absurd ((up_self b 11).symm.trans h1_) (by decide), fun _ => (by (with_reducible repeat (first | apply n1'_ | apply n2'_ | apply n3'_)); exact HO172.out), fun h0_ => absurd ((hoff 12 (by kernel_rfl)).symm.trans h0_) (by decide)⟩
    refine steps_cons ?_ ?_
    ·rintro b a w' ⟨v160, v165, v168, v171, m12_, ha, Q_HO158, Q_HB, Q_HO161, Q_HO166, Q_HO169, Q_HO172, Q_X12_⟩ hb_ hon hoff
     refine ⟨_, rfl, fun K hK => ?_⟩
     have e34 : a.tmps[34]? = some (v171) := by rw [ha]; exact putSel_on (e := (11, 34, v171)) 9 rfl rfl (hon 11 (by kernel_rfl)) rfl
     replace ha := am_ ha
     have HO158 := am_ Q_HO158
     have HB := am_ Q_HB
     have HO172 := am_ (Q_HO172 (hon 11 (by kernel_rfl)))
     refine value_ (w1 := w') (v := v171) (by rfl) rfl ?_ ?_
     ·go_simp
      (try simp only [i64_w])
      try rfl
     refine hK.out _ _ ⟨v160, v165, v168, v171, (v171), (by rw [ha.out]; exact putSel_upk 10 hb_ rfl rfl rfl), Q_HO158, Q_HB, fun _ h1_ => absurd ((hon 11 (by kernel_rfl)).symm.trans h1_) (by decide), fun _ h1_ => absurd ((hon 11 (by kernel_rfl)).symm.trans h1_) (by decide), fun _ h1_ => absurd ((hon 11 (by kernel_rfl)).symm.trans h1_) (by decide), Q_HO172, fun _ => rfl⟩
    exact steps_nil
   rintro b a w105 hall ⟨v160, v165, v168, v171, m12_, ha, Q_HO158, Q_HB, Q_HO161, Q_HO166, Q_HO169, Q_HO172, Q_X12_⟩
   clear HB HO158
   have hb0_ := hall 0 (by kernel_rfl)
   have hb1_ := hall 1 (by kernel_rfl)
   have hb3_ := hall 3 (by kernel_rfl)
   have hb4_ := hall 4 (by kernel_rfl)
   have hb6_ := hall 6 (by kernel_rfl)
   have hb7_ := hall 7 (by kernel_rfl)
   have hb8_ := hall 8 (by kernel_rfl)
   have hb9_ := hall 9 (by kernel_rfl)
   have hb10_ := hall 10 (by kernel_rfl)
   have hb11_ := hall 11 (by kernel_rfl)
   have hb12_ := hall 12 (by kernel_rfl)
   subst ha
   obtain rfl := Q_X12_ hb12_
   simp only [putSel, hb0_, hb1_, hb3_, hb4_, hb6_, hb7_, hb8_, hb9_, hb10_, hb11_, hb12_, if_true, Act.put, List.setIfInBounds_toArray, List.set_cons_zero, List.set_cons_succ]
   have HO158 := am_ Q_HO158
   clear Q_HO158
   have HB := am_ Q_HB
   clear Q_HB
   clear Q_HO161
   clear Q_HO166
   clear Q_HO169
   have HO172 := am_ (Q_HO172 hb11_)
   clear Q_HO172
   clear hall hb0_ hb1_ hb3_ hb4_ hb6_ hb7_ hb8_ hb9_ hb10_ hb11_ hb12_
   obtain ⟨Ao106, co106, eo106⟩ := Kd.N_slice HO172.out
   subst eo106
   have p173 : 0 ≤ ((ji6) : Int) := of_decide_eq_true (by first | (with_reducible assumption) | assumption)
   have q173 : (ji6) < (y170.length : Int) := of_decide_eq_true (by first | (with_reducible assumption) | assumption)
   obtain ⟨ad173, A173_0, c173_0, e173, hx173_0, hl173_0, hi173_0⟩ := at_L4 (Kd.N_reads' HO172.out).2.2 (ji6) p173 q173
   cases e173
   obtain ⟨ce173, hce173, hMe173, hcc173⟩ := Kd.N_get HO172.out [] (ji6) p173 (by first | exact q173 | exact of_decide_eq_true (by first | (with_reducible assumption) | assumption) | (have e_ := (Kd.N_reads' HO172.out).1; omega))
   obtain ⟨ua173_0, uc173_0, rfl, ul173_0, ge173_0⟩ := Kd.FK_slice_open hMe173
   have hv173_0 := hcc173 0 _ rfl
   rw [Nat.add_zero, show ((Kd.slice 23 k23)).sz = 1 from rfl, Nat.mul_one] at hv173_0
   replace hv173_0 := Option.some.inj (hv173_0.symm.trans hx173_0)
   injection hv173_0 with hva_ hvn_ hvc_
   rw [hva_] at ge173_0
   rw [hvc_] at ul173_0
   have HL173_0 := am_ (show Kd.V k23 23 _ w.heap.size _ _ (rd_L4 y170 (ji6)) from Kd.V_mk ul173_0 ge173_0)
   clear hva_ hvn_ hvc_ ge173_0 ul173_0
   clear hcc173 hce173
   have HR173_0 := am_ hi173_0
   have HC173_0 := am_ hl173_0
   clear hi173_0 hl173_0
   replace p173 := eq_true p173
   replace q173 := eq_true q173
   try go_wp2_with (first | ((with_reducible refine gate_callee (f := 22) rfl ?_); refine goesL_ (some 43) rfl rfl Try.func22 (by kernel_rfl) rfl #[.slice A173_0 (rd_L4 y170 (ji6)).length c173_0, .int .i64 0] rfl (by (try simp only [List.map_toArray, List.map_cons, List.map_nil]); first | done | (simp only [hji6]; rfl) | rfl | (simp only [List.length_drop, List.length_take]; rfl)) ?_; (with_reducible refine (sweep_Sweep.calls k _ _ (rd_L4 y170 (ji6)) 0 t174 t175 _ ?side1 ?side2 A9.out).mono ?_); (case side1 => repeat (first | exact (by repeat (first | (with_reducible exact HR173_0.out) | (with_reducible refine Kd.C_alloc ?_ _) | (with_reducible refine Kd.C_drewN ?_ _) | (with_reducible refine Kd.C_drew ?_) | exact HR173_0.out)) | (with_reducible refine Kd.C_alloc ?_ _) | (with_reducible refine Kd.C_drewN ?_ _) | (with_reducible refine Kd.C_drew ?_))); (case side2 => exact HC173_0.out); rintro e w107 ⟨v176, rfl, ho0, hb⟩; refine ⟨_, rfl, ?_⟩; have n0_ := am_ (r5_ (by (with_reducible repeat (first | apply r1_ | apply r2_ | apply r3_)); exact HO158.out) (r4_ ho0) hb); have n1_ := am_ (Kd.N_elder' (by (with_reducible repeat (first | apply n1'_ | apply n2'_ | apply n3'_)); exact HO172.out) (r4_ ho0) hb); have n2_ := am_ (Kd.V_elder' (by (with_reducible repeat (first | apply v1_ | apply v2_ | apply v3_)); exact HL173_0.out) (r4_ ho0) hb); have n3_ := am_ (Kd.R_lower (Kd.R_new' ho0 (Kd.R_lt (by (with_reducible repeat (first | apply r1_ | apply r2_ | apply r3_)); exact HO158.out))) (below_size (by repeat (with_reducible first | exact HB.out | apply p3_ | apply p1_ | apply p2_)))); have n4_ := am_ (Kd.C_below (by repeat (first | (with_reducible exact HR173_0.out) | (with_reducible refine Kd.C_alloc ?_ _) | (with_reducible refine Kd.C_drewN ?_ _) | (with_reducible refine Kd.C_drew ?_) | exact HR173_0.out)) hb); have n5_ := am_ (below_step (by repeat (with_reducible first | exact HB.out | apply p3_ | apply p1_ | apply p2_)) hb); clear HO158; clear HO172; clear HL173_0; clear HR173_0; clear HB; have HO158 := n0_; have HO172 := n1_; have HL173_0 := n2_; have HO177 := n3_; have HR173_0 := n4_; have HB := n5_; clear n0_ n1_ n2_ n3_ n4_ n5_; (try clear hb); (try clear ho0)) | ((with_reducible refine gate_callee (f := 22) rfl ?_); refine goesL_ (some 50) rfl rfl Try.func22 (by kernel_rfl) rfl #[.slice (some ad162) y156.length co93, .int .i64 (wrap64 (-(wrap64 (1 + (Go.bits .and .i64 a1 1023)))))] rfl (by (try simp only [List.map_toArray, List.map_cons, List.map_nil]); first | done | rfl | (simp only [List.length_drop, List.length_take]; rfl)) ?_; (with_reducible refine (sweep_Sweep.calls k _ _ y156 (wrap64 (-(wrap64 (1 + (Go.bits .and .i64 a1 1023))))) t178 t179 _ ?side1 ?side2 A10.out).mono ?_); (case side1 => repeat (first | exact (Kd.R_reads' HO158.out).2.2 | (with_reducible refine Kd.C_alloc ?_ _) | (with_reducible refine Kd.C_drewN ?_ _) | (with_reducible refine Kd.C_drew ?_))); (case side2 => exact (Kd.R_reads' HO158.out).2.1); rintro e w108 ⟨v180, rfl, ho0, hb⟩; refine ⟨_, rfl, ?_⟩; have n0_ := am_ (r5_ (by (with_reducible repeat (first | apply r1_ | apply r2_ | apply r3_)); exact HO158.out) (r4_ ho0) hb); have n1_ := am_ (Kd.N_elder' (by (with_reducible repeat (first | apply n1'_ | apply n2'_ | apply n3'_)); exact HO172.out) (r4_ ho0) hb); have n2_ := am_ (Kd.V_elder' (by (with_reducible repeat (first | apply v1_ | apply v2_ | apply v3_)); exact HL173_0.out) (r4_ ho0) hb); have n3_ := am_ (r5_ (by (with_reducible repeat (first | apply r1_ | apply r2_ | apply r3_)); exact HO177.out) (r4_ ho0) hb); have n4_ := am_ (Kd.R_lower (Kd.R_new' (Kd.R_new' ho0 (Kd.R_lt (by (with_reducible repeat (first | apply r1_ | apply r2_ | apply r3_)); exact HO158.out))) (Kd.R_lt (by (with_reducible repeat (first | apply r1_ | apply r2_ | apply r3_)); exact HO177.out))) (below_size (by repeat (with_reducible first | exact HB.out | apply p3_ | apply p1_ | apply p2_)))); have n5_ := am_ (Kd.C_below (by repeat (first | (with_reducible exact HR173_0.out) | (with_reducible refine Kd.C_alloc ?_ _) | (with_reducible refine Kd.C_drewN ?_ _) | (with_reducible refine Kd.C_drew ?_) | exact HR173_0.out)) hb); have n6_ := am_ (below_step (by repeat (with_reducible first | exact HB.out | apply p3_ | apply p1_ | apply p2_)) hb); clear HO158; clear HO172; clear HL173_0; clear HO177; clear HR173_0; clear HB; have HO158 := n0_; have HO172 := n1_; have HL173_0 := n2_; have HO177 := n3_; have HO181 := n4_; have HR173_0 := n5_; have HB := n6_; clear n0_ n1_ n2_ n3_ n4_ n5_ n6_; (try clear hb); (try clear ho0)) | ((with_reducible refine gate_callee (f := 22) rfl ?_); refine goesL_ (some 57) rfl rfl Try.func22 (by kernel_rfl) rfl #[.slice (some ad162) y156.length co93, .int .i64 (wrap64 (1099511627776 + (wrap64 (1 + (Go.bits .and .i64 a1 1023)))))] rfl (by (try simp only [List.map_toArray, List.map_cons, List.map_nil]); first | done | rfl | (simp only [List.length_drop, List.length_take]; rfl)) ?_; (with_reducible refine (sweep_Sweep.calls k _ _ y156 (wrap64 (1099511627776 + (wrap64 (1 + (Go.bits .and .i64 a1 1023))))) t182 t183 _ ?side1 ?side2 A11.out).mono ?_); (case side1 => repeat (first | exact (Kd.R_reads' HO158.out).2.2 | (with_reducible refine Kd.C_alloc ?_ _) | (with_reducible refine Kd.C_drewN ?_ _) | (with_reducible refine Kd.C_drew ?_))); (case side2 => exact (Kd.R_reads' HO158.out).2.1); rintro e w109 ⟨v184, rfl, ho0, hb⟩; refine ⟨_, rfl, ?_⟩; have n0_ := am_ (r5_ (by (with_reducible repeat (first | apply r1_ | apply r2_ | apply r3_)); exact HO158.out) (r4_ ho0) hb); have n1_ := am_ (Kd.N_elder' (by (with_reducible repeat (first | apply n1'_ | apply n2'_ | apply n3'_)); exact HO172.out) (r4_ ho0) hb); have n2_ := am_ (Kd.V_elder' (by (with_reducible repeat (first | apply v1_ | apply v2_ | apply v3_)); exact HL173_0.out) (r4_ ho0) hb); have n3_ := am_ (r5_ (by (with_reducible repeat (first | apply r1_ | apply r2_ | apply r3_)); exact HO177.out) (r4_ ho0) hb); have n4_ := am_ (r5_ (by (with_reducible repeat (first | apply r1_ | apply r2_ | apply r3_)); exact HO181.out) (r4_ ho0) hb); have n5_ := am_ (Kd.R_lower (Kd.R_new' (Kd.R_new' (Kd.R_new' ho0 (Kd.R_lt (by (with_reducible repeat (first | apply r1_ | apply r2_ | apply r3_)); exact HO158.out))) (Kd.R_lt (by (with_reducible repeat (first | apply r1_ | apply r2_ | apply r3_)); exact HO177.out))) (Kd.R_lt (by (with_reducible repeat (first | apply r1_ | apply r2_ | apply r3_)); exact HO181.out))) (below_size (by repeat (with_reducible first | exact HB.out | apply p3_ | apply p1_ | apply p2_)))); have n6_ := am_ (Kd.C_below (by repeat (first | (with_reducible exact HR173_0.out) | (with_reducible refine Kd.C_alloc ?_ _) | (with_reducible refine Kd.C_drewN ?_ _) | (with_reducible refine Kd.C_drew ?_) | exact HR173_0.out)) hb); have n7_ := am_ (below_step (by repeat (with_reducible first | exact HB.out | apply p3_ | apply p1_ | apply p2_)) hb); clear HO158; clear HO172; clear HL173_0; clear HO177; clear HO181; clear HR173_0; clear HB; have HO158 := n0_; have HO172 := n1_; have HL173_0 := n2_; have HO177 := n3_; have HO181 := n4_; have HO185 := n5_; have HR173_0 := n6_; have HB := n7_; clear n0_ n1_ n2_ n3_ n4_ n5_ n6_ n7_; (try clear hb); (try clear ho0)) | ((with_reducible refine gate_callee (f := 22) rfl ?_); refine goesL_ (some 61) rfl rfl Try.func22 (by kernel_rfl) rfl #[.slice none 0 0, .int .i64 1099511627776] rfl (by (try simp only [List.map_toArray, List.map_cons, List.map_nil]); first | done | rfl | (simp only [List.length_drop, List.length_take]; rfl)) ?_; (refine (sweep_Sweep.calls k _ _ ([] : List (S23)) 1099511627776 t186 t187 _ ?side1 ?side2 A12.out).mono ?_); (case side1 => exact Kd.C_nil _ _); (case side2 => exact Nat.le_refl _); rintro e w110 ⟨v188, rfl, ho0, hb⟩; refine ⟨_, rfl, ?_⟩; have n0_ := am_ (r5_ (by (with_reducible repeat (first | apply r1_ | apply r2_ | apply r3_)); exact HO158.out) (r4_ ho0) hb); have n1_ := am_ (Kd.N_elder' (by (with_reducible repeat (first | apply n1'_ | apply n2'_ | apply n3'_)); exact HO172.out) (r4_ ho0) hb); have n2_ := am_ (Kd.V_elder' (by (with_reducible repeat (first | apply v1_ | apply v2_ | apply v3_)); exact HL173_0.out) (r4_ ho0) hb); have n3_ := am_ (r5_ (by (with_reducible repeat (first | apply r1_ | apply r2_ | apply r3_)); exact HO177.out) (r4_ ho0) hb); have n4_ := am_ (r5_ (by (with_reducible repeat (first | apply r1_ | apply r2_ | apply r3_)); exact HO181.out) (r4_ ho0) hb); have n5_ := am_ (r5_ (by (with_reducible repeat (first | apply r1_ | apply r2_ | apply r3_)); exact HO185.out) (r4_ ho0) hb); have n6_ := am_ (Kd.R_lower (Kd.R_new' (Kd.R_new' (Kd.R_new' (Kd.R_new' ho0 (Kd.R_lt (by (with_reducible repeat (first | apply r1_ | apply r2_ | apply r3_)); exact HO158.out))) (Kd.R_lt (by (with_reducible repeat (first | apply r1_ | apply r2_ | apply r3_)); exact HO177.out))) (Kd.R_lt (by (with_reducible repeat (first | apply r1_ | apply r2_ | apply r3_)); exact HO181.out))) (Kd.R_lt (by (with_reducible repeat (first | apply r1_ | apply r2_ | apply r3_)); exact HO185.out))) (below_size (by repeat (with_reducible first | exact HB.out | apply p3_ | apply p1_ | apply p2_)))); have n7_ := am_ (Kd.C_below (by repeat (first | (with_reducible exact HR173_0.out) | (with_reducible refine Kd.C_alloc ?_ _) | (with_reducible refine Kd.C_drewN ?_ _) | (with_reducible refine Kd.C_drew ?_) | exact HR173_0.out)) hb); have n8_ := am_ (below_step (by repeat (with_reducible first | exact HB.out | apply p3_ | apply p1_ | apply p2_)) hb); clear HO158; clear HO172; clear HL173_0; clear HO177; clear HO181; clear HO185; clear HR173_0; clear HB; have HO158 := n0_; have HO172 := n1_; have HL173_0 := n2_; have HO177 := n3_; have HO181 := n4_; have HO185 := n5_; have HO189 := n6_; have HR173_0 := n7_; have HB := n8_; clear n0_ n1_ n2_ n3_ n4_ n5_ n6_ n7_ n8_; (try clear hb); (try clear ho0)) | ((with_reducible refine gate_callee (f := 20) rfl ?_); refine goesL_ (some 65) rfl rfl Try.func20 (by kernel_rfl) rfl #[.int .i64 t175] rfl (by (try simp only [List.map_toArray, List.map_cons, List.map_nil]); first | done | rfl | (simp only [List.length_drop, List.length_take]; rfl)) ?_; (with_reducible refine (pinfoldlaw0_Num.calls t175 t190 _ A13.out).mono ?_); rintro e w' ⟨rfl, ⟨nd, rfl⟩⟩; refine ⟨_, rfl, ?_⟩) | (go_at_call 20; (with_reducible refine (pinfoldlaw0_Num.calls t179 t191 _ A15.out).mono ?_); rintro e w' ⟨rfl, ⟨nd, rfl⟩⟩))
   go_ret
   exact ⟨by first | rfl | (simp [errW_none, errW_some] <;> rfl) | (simp only [← hji6]; first | rfl | (simp [errW_none, errW_some] <;> rfl)) | (simp [*, errW_none, errW_some] <;> rfl), by repeat (with_reducible first | exact HB.out | apply p3_ | apply p1_ | apply p2_)⟩
  rw [if_neg c14] at H
  have c14b0 : (t190 == 1900) = false := beq_eq_false_iff_ne.mpr c14
  have c14b1 : (t190 != 1900) = true := bne_iff_ne.mpr c14
  obtain rfl := Option.some.inj H
  go_enter Try.func9, Try.ntmps9
  try go_wp2_with (first | ((with_reducible refine gate_callee (f := 27) rfl ?_); refine goesL_ (some 16) rfl rfl Try.func27 (by kernel_rfl) rfl #[] rfl (by (try simp only [List.map_toArray, List.map_cons, List.map_nil]); first | done | rfl | (simp only [List.length_drop, List.length_take]; rfl)) ?_; (with_reducible refine (pinfoldlaw19_awake.calls k  true _ A3.out).mono ?_); rintro e w111 ⟨rfl, hb⟩; refine ⟨_, rfl, ?_⟩; have n0_ := am_ (below_step (by repeat (with_reducible first | exact HB.out | apply p3_ | apply p1_ | apply p2_)) hb); clear HB; have HB := n0_; clear n0_; (try clear hb)) | ((with_reducible refine gate_dst (N := 22) rfl ?_); (try (refine gate_guard (by rfl) ?_; dsimp only)); refine Kd.R_lit k23 _ 23 ?hg (N := 22) ?hd (xs := ([(⟨10, 2, (⟨#[109, 101]⟩ : ByteArray), 9, (⟨#[]⟩ : ByteArray), false⟩ : S23)] : List (S23))) (inner := [.int .i64 10, .int .i64 2, .string (⟨#[109, 101]⟩ : ByteArray), .int .i64 9, .string (⟨#[]⟩ : ByteArray), .bool false]) (ok := fun _ => True) (okp := fun _ => True) ?hr ?hp (fun _ hk => hk) trivial (Below.refl _ _) (Nat.le_refl _) (by simp) ?_; (case hd => rfl); (case hg => rfl); (case hr => first | (go_simp; done) | (go_simp; rfl)); (case hp => exact (Reps.c6 (show Kd.M k23 _ _ _ (⟨10, 2, (⟨#[109, 101]⟩ : ByteArray), 9, (⟨#[]⟩ : ByteArray), false⟩ : S23) [.int .i64 10, .int .i64 2, .string (⟨#[109, 101]⟩ : ByteArray), .int .i64 9, .string (⟨#[]⟩ : ByteArray), .bool false] from (k23_mkM _ _ _ (⟨10, 2, (⟨#[109, 101]⟩ : ByteArray), 9, (⟨#[]⟩ : ByteArray), false⟩ : S23) )) (Reps.none _ _))); intro v157 w112 ho113 hb hg_ hnew_; clear hg_ hnew_; (first | rw [← Ny156.out] at ho113 | (simp only [Int.reduceToNat] at ho113; rw [← Ny156.out] at ho113)); have n0_ := am_ (Kd.R_lower ho113 (below_size (by repeat (with_reducible first | exact HB.out | apply p3_ | apply p1_ | apply p2_)))); have n1_ := am_ (below_step (by repeat (with_reducible first | exact HB.out | apply p3_ | apply p1_ | apply p2_)) hb); clear HB; have HO158 := n0_; have HB := n1_; clear n0_ n1_; clear hb ho113))
  have n0_ := am_ (r3_ HO158.out)
  have n1_ := am_ (p2_ HB.out)
  clear HO158
  clear HB
  have HO158 := n0_
  have HB := n1_
  clear n0_ n1_
  obtain ⟨Ao115, co115, eo115⟩ := Kd.R_slice HO158.out
  (first | subst eo115 | (injection eo115 with f1_ f2_ f3_; have f4_ := f1_.symm; have f5_ := f3_.symm; clear f1_ f2_ f3_; subst f4_; subst f5_))
  have p162 : 0 ≤ (0 : Int) := (by omega)
  have q162 : 0 < (y156.length : Int) := of_decide_eq_true (by first | (with_reducible assumption) | assumption)
  obtain ⟨ad162, e162, hx162_0, hx162_1, hx162_2, hx162_3, hx162_4, hx162_5⟩ := at_T23 (Kd.R_reads' HO158.out).2.2 0 p162 q162
  cases e162
  have qi162 : (0 < y156.length) = True := eq_true (by omega)
  (try rw [show ((0 : Int)).toNat = 0 from rfl] at hx162_0)
  (try rw [show 0 * 6 = 0 from rfl] at hx162_0)
  (try rw [z0_] at hx162_0)
  (try rw [show ((0 : Int)).toNat = 0 from rfl] at hx162_1)
  (try rw [show 0 * 6 = 0 from rfl] at hx162_1)
  (try rw [z0_] at hx162_1)
  (try rw [show ((0 : Int)).toNat = 0 from rfl] at hx162_2)
  (try rw [show 0 * 6 = 0 from rfl] at hx162_2)
  (try rw [z0_] at hx162_2)
  (try rw [show ((0 : Int)).toNat = 0 from rfl] at hx162_3)
  (try rw [show 0 * 6 = 0 from rfl] at hx162_3)
  (try rw [z0_] at hx162_3)
  (try rw [show ((0 : Int)).toNat = 0 from rfl] at hx162_4)
  (try rw [show 0 * 6 = 0 from rfl] at hx162_4)
  (try rw [z0_] at hx162_4)
  (try rw [show ((0 : Int)).toNat = 0 from rfl] at hx162_5)
  (try rw [show 0 * 6 = 0 from rfl] at hx162_5)
  (try rw [z0_] at hx162_5)
  replace p162 := eq_true p162
  replace q162 := eq_true q162
  have p163 : 0 ≤ (0 : Int) := (by omega)
  have q163 : 0 < (y156.length : Int) := of_decide_eq_true (by first | (with_reducible assumption) | assumption)
  obtain ⟨ad163, e163, hx163_0, hx163_1, hx163_2, hx163_3, hx163_4, hx163_5⟩ := at_T23 (Kd.R_reads' HO158.out).2.2 0 p163 q163
  obtain rfl : ad162 = ad163 := (by injection e163)
  have qi163 : (0 < y156.length) = True := eq_true (by omega)
  (try rw [show ((0 : Int)).toNat = 0 from rfl] at hx163_0)
  (try rw [show 0 * 6 = 0 from rfl] at hx163_0)
  (try rw [z0_] at hx163_0)
  (try rw [show ((0 : Int)).toNat = 0 from rfl] at hx163_1)
  (try rw [show 0 * 6 = 0 from rfl] at hx163_1)
  (try rw [z0_] at hx163_1)
  (try rw [show ((0 : Int)).toNat = 0 from rfl] at hx163_2)
  (try rw [show 0 * 6 = 0 from rfl] at hx163_2)
  (try rw [z0_] at hx163_2)
  (try rw [show ((0 : Int)).toNat = 0 from rfl] at hx163_3)
  (try rw [show 0 * 6 = 0 from rfl] at hx163_3)
  (try rw [z0_] at hx163_3)
  (try rw [show ((0 : Int)).toNat = 0 from rfl] at hx163_4)
  (try rw [show 0 * 6 = 0 from rfl] at hx163_4)
  (try rw [z0_] at hx163_4)
  (try rw [show ((0 : Int)).toNat = 0 from rfl] at hx163_5)
  (try rw [show 0 * 6 = 0 from rfl] at hx163_5)
  (try rw [z0_] at hx163_5)
  replace p163 := eq_true p163
  replace q163 := eq_true q163
  refine start_ (n := 13) (S := fun w' => True) (ds := []) #[false, false, false, false, false, false, false, false, false, false, false, false, false] (by kernel_rfl) rfl rfl trivial (fun hHeld => ?_); refine with_tabW pinfoldlaw19_SweepForms.tab5 pinfoldlaw19_SweepForms.bits5 (fun HT_ HW_ => ?_)
  generalize w112.drew = w114 at HO158 HB hx162_0 hx162_1 hx162_2 hx162_3 hx162_4 hx162_5 hx163_0 hx163_1 hx163_2 hx163_3 hx163_4 hx163_5 hHeld ⊢
  refine pure_ (i := 2) (N := some 25) (v := ?_) (a' := ?_) #[false, false, true, false, false, false, false, false, false, false, false, false, false] rfl rfl (any_of HT_.out (by kernel_rfl)) (fun _ _ _ h => h) (Or.inl ⟨by rfl, ?_⟩) ?_ ?_
  rotate_left
  ·intro w'
   go_simp
   with_reducible rfl
  rotate_left
  ·simp only [Act.put, List.setIfInBounds_toArray, List.set_cons_zero, List.set_cons_succ, i64_w, i32_w]
   rfl
  refine pure_ (i := 5) (N := some 28) (v := ?_) (a' := ?_) #[false, false, true, false, false, true, false, false, false, false, false, false, false] rfl rfl (any_of HT_.out (by kernel_rfl)) (fun _ _ _ h => h) (Or.inl ⟨by rfl, ?_⟩) ?_ ?_
  rotate_left
  ·intro w'
   go_simp
   with_reducible rfl
  rotate_left
  ·simp only [Act.put, List.setIfInBounds_toArray, List.set_cons_zero, List.set_cons_succ, i64_w, i32_w]
   rfl
  refine inv_at [0, 1, 3, 4, 6, 7, 8, 9, 10, 11, 12] (fun a0_ b a w' => ∃ (v160 : Value) (v165 : Value) (v168 : Value) (v171 : Value) (m12_ : Value), a = putSel a0_ b [(0, 23, .agg #[.int .i64 0, .int .i64 0, .string (⟨#[]⟩ : ByteArray), .int .i64 0, .string (⟨#[]⟩ : ByteArray), .bool false]), (1, 24, v160), (3, 26, .pointer (some ad162)), (4, 27, .agg #[.int .i64 ((rd_T23 y156 0).f0), .int .i64 ((rd_T23 y156 0).f1), .string ((rd_T23 y156 0).f2), .int .i64 ((rd_T23 y156 0).f3), .string ((rd_T23 y156 0).f4), .bool ((rd_T23 y156 0).f5)]), (6, 29, .pointer (some ad162)), (7, 30, .agg #[.int .i64 ((rd_T23 y156 0).f0), .int .i64 ((rd_T23 y156 0).f1), .string ((rd_T23 y156 0).f2), .int .i64 ((rd_T23 y156 0).f3), .string ((rd_T23 y156 0).f4), .bool ((rd_T23 y156 0).f5)]), (8, 31, v165), (9, 32, .agg #[.int .i64 10, .int .i64 1, .string (⟨#[]⟩ : ByteArray), .int .i64 0, .string (⟨#[]⟩ : ByteArray), .bool false]), (10, 33, v168), (11, 34, v171), (12, 7, m12_)] ∧ (Kd.R k23 23 w' w.heap.size (fun _ => True) (.slice (some ad162) y156.length co115) y156) ∧ (Below w.heap.size w w') ∧ (b 1 = true → b 11 = false → Kd.R k23 23 w' w.heap.size (fun k_ => some k_ ≠ (.slice (some ad162) y156.length co115 : Value).ownBlock) v160 y159) ∧ (b 8 = true → b 11 = false → Kd.R k23 23 w' w.heap.size (fun k_ => some k_ ≠ (.slice (some ad162) y156.length co115 : Value).ownBlock) v165 y164) ∧ (b 10 = true → b 11 = false → Kd.R k23 23 w' w.heap.size (fun k_ => some k_ ≠ (.slice (some ad162) y156.length co115 : Value).ownBlock) v168 y167) ∧ (b 11 = true → Kd.N (Kd.slice 23 k23) 33 w' w.heap.size (fun k_ => some k_ ≠ (.slice (some ad162) y156.length co115 : Value).ownBlock) v171 y170) ∧ (b 12 = true → (m12_ : Value) = v171)) HT_.out HW_.out (by kernel_rfl) (by kernel_rfl) ?_ ?_ ?_
  ·exact ⟨.bool false, .bool false, .bool false, .bool false, .bool false, by simp only [putSel, Bool.false_eq_true, if_false], HO158.out, HB.out, fun h_ => absurd h_ (by decide), fun h_ => absurd h_ (by decide), fun h_ => absurd h_ (by decide), fun h_ => absurd h_ (by decide), fun h_ => absurd h_ (by decide)⟩
  ·skip
   clear HB HO158
   refine steps_cons ?_ ?_
   ·rintro b a w' ⟨v160, v165, v168, v171, m12_, ha, Q_HO158, Q_HB, Q_HO161, Q_HO166, Q_HO169, Q_HO172, Q_X12_⟩ hb_ hon hoff
    refine ⟨_, rfl, fun K hK => ?_⟩
    replace ha := am_ ha
    have HO158 := am_ Q_HO158
    have HB := am_ Q_HB
    refine value_ (w1 := w') (v := .agg #[.int .i64 0, .int .i64 0, .string (⟨#[]⟩ : ByteArray), .int .i64 0, .string (⟨#[]⟩ : ByteArray), .bool false]) (by rfl) rfl ?_ ?_
    ·go_simp
     (try simp only [i64_w])
     try rfl
    refine hK.out _ _ ⟨v160, v165, v168, v171, m12_, (by rw [ha.out]; exact putSel_upk 0 hb_ rfl rfl rfl), Q_HO158, Q_HB, fun h0_ _ => absurd ((hoff 1 (by kernel_rfl)).symm.trans h0_) (by decide), Q_HO166, Q_HO169, fun h0_ => absurd ((hoff 11 (by kernel_rfl)).symm.trans h0_) (by decide), fun h0_ => absurd ((hoff 12 (by kernel_rfl)).symm.trans h0_) (by decide)⟩
   refine steps_cons ?_ ?_
   ·rintro b a w' ⟨v160, v165, v168, v171, m12_, ha, Q_HO158, Q_HB, Q_HO161, Q_HO166, Q_HO169, Q_HO172, Q_X12_⟩ hb_ hon hoff
    refine ⟨_, rfl, fun K hK => ?_⟩
    have e23 : a.tmps[23]? = some (.agg #[.int .i64 0, .int .i64 0, .string (⟨#[]⟩ : ByteArray), .int .i64 0, .string (⟨#[]⟩ : ByteArray), .bool false]) := by rw [ha]; exact putSel_on (e := (0, 23, .agg #[.int .i64 0, .int .i64 0, .string (⟨#[]⟩ : ByteArray), .int .i64 0, .string (⟨#[]⟩ : ByteArray), .bool false])) 0 rfl rfl (hon 0 (by kernel_rfl)) rfl
    replace ha := am_ ha
    have HO158 := am_ Q_HO158
    have HB := am_ Q_HB
    refine Kd.R_lit_step k23 _ 23 ?hg (N := 24) ?hd (xs := ([(⟨0, 0, (⟨#[]⟩ : ByteArray), 0, (⟨#[]⟩ : ByteArray), false⟩ : S23)] : List (S23))) (inner := [.int .i64 0, .int .i64 0, .string (⟨#[]⟩ : ByteArray), .int .i64 0, .string (⟨#[]⟩ : ByteArray), .bool false]) (ok := fun _ => True) (okp := fun _ => True) ?hr ?hp (fun _ hk => hk) trivial (Below.refl _ _) (Nat.le_refl _) (by simp) ?_; (case hd => rfl); (case hg => rfl); (case hr => first | (go_simp; done) | (go_simp; rfl)); (case hp => exact (Reps.c6 (show Kd.M k23 _ _ _ (⟨0, 0, (⟨#[]⟩ : ByteArray), 0, (⟨#[]⟩ : ByteArray), false⟩ : S23) [.int .i64 0, .int .i64 0, .string (⟨#[]⟩ : ByteArray), .int .i64 0, .string (⟨#[]⟩ : ByteArray), .bool false] from (k23_mkM _ _ _ (⟨0, 0, (⟨#[]⟩ : ByteArray), 0, (⟨#[]⟩ : ByteArray), false⟩ : S23) )) (Reps.none _ _)))
    intro v160 w116 ho117 hb hg_ hnew_
    clear hg_ hnew_
    (first | rw [← Ny159.out] at ho117 | (simp only [Int.reduceToNat] at ho117; rw [← Ny159.out] at ho117))
    have n0_ := am_ (r5_ (by (with_reducible repeat (first | apply r1_ | apply r2_ | apply r3_)); exact HO158.out) (r4_ ho117) hb)
    have n1_ := am_ (Kd.R_lower (Kd.R_new' ho117 (Kd.R_lt (by (with_reducible repeat (first | apply r1_ | apply r2_ | apply r3_)); exact HO158.out))) (below_size (by repeat (with_reducible first | exact HB.out | apply p3_ | apply p1_ | apply p2_))))
    have n2_ := am_ (below_step (by repeat (with_reducible first | exact HB.out | apply p3_ | apply p1_ | apply p2_)) hb)
    have z_HO166 := fun (h0_ : b 8 = true) (h1_ : b 11 = false) => (show Kd.R k23 23 w116 w.heap.size (fun k_ => some k_ ≠ (.slice (some ad162) y156.length co115 : Value).ownBlock) v165 y164 from by first | exact (r5_ (by (with_reducible repeat (first | apply r1_ | apply r2_ | apply r3_)); exact (Q_HO166 h0_ h1_)) (r4_ ho117) hb) | exact Kd.R_mono (r5_ (by (with_reducible repeat (first | apply r1_ | apply r2_ | apply r3_)); exact (Q_HO166 h0_ h1_)) (r4_ ho117) hb) (fun _ h_ => by first | trivial | exact h_ | exact h_.1))
    have z_HO169 := fun (h0_ : b 10 = true) (h1_ : b 11 = false) => (show Kd.R k23 23 w116 w.heap.size (fun k_ => some k_ ≠ (.slice (some ad162) y156.length co115 : Value).ownBlock) v168 y167 from by first | exact (r5_ (by (with_reducible repeat (first | apply r1_ | apply r2_ | apply r3_)); exact (Q_HO169 h0_ h1_)) (r4_ ho117) hb) | exact Kd.R_mono (r5_ (by (with_reducible repeat (first | apply r1_ | apply r2_ | apply r3_)); exact (Q_HO169 h0_ h1_)) (r4_ ho117) hb) (fun _ h_ => by first | trivial | exact h_ | exact h_.1))
    clear HO158
    clear HB
    have HO158 := n0_
    have HO161 := n1_
    have HB := n2_
    clear n0_ n1_ n2_
    clear hb ho117
    refine hK.out _ _ ⟨v160, v165, v168, v171, m12_, (by rw [ha.out]; exact putSel_upk 1 hb_ rfl rfl rfl), (by (with_reducible repeat (first | apply r1_ | apply r2_ | apply r3_)); exact Kd.R_mono HO158.out (fun _ hk => by first | trivial | exact hk.2)), (by repeat (with_reducible first | exact HB.out | apply p3_ | apply p1_ | apply p2_)), fun _ _ => (by (with_reducible repeat (first | apply r1_ | apply r2_ | apply r3_)); exact Kd.R_mono HO161.out (fun _ hk => by first | trivial | exact hk.2)), z_HO166, z_HO169, fun h0_ => absurd ((hoff 11 (by kernel_rfl)).symm.trans h0_) (by decide), fun h0_ => absurd ((hoff 12 (by kernel_rfl)).symm.trans h0_) (by decide)⟩
   refine steps_cons ?_ ?_
   ·rintro b a w' ⟨v160, v165, v168, v171, m12_, ha, Q_HO158, Q_HB, Q_HO161, Q_HO166, Q_HO169, Q_HO172, Q_X12_⟩ hb_ hon hoff
    refine ⟨_, rfl, fun K hK => ?_⟩
    have e25 : a.tmps[25]? = some (.slice (some ad162) y156.length co115) := by rw [ha]; exact (putSel_off rfl).trans rfl
    replace ha := am_ ha
    have HO158 := am_ Q_HO158
    have HB := am_ Q_HB
    refine value_ (w1 := w') (v := .pointer (some ad162)) (by rfl) rfl ?_ ?_
    ·go_simp
     (try simp only [i64_w])
     try rfl
    refine hK.out _ _ ⟨v160, v165, v168, v171, m12_, (by rw [ha.out]; exact putSel_upk 2 hb_ rfl rfl rfl), Q_HO158, Q_HB, Q_HO161, fun h0_ _ => absurd ((hoff 8 (by kernel_rfl)).symm.trans h0_) (by decide), Q_HO169, fun h0_ => absurd ((hoff 11 (by kernel_rfl)).symm.trans h0_) (by decide), fun h0_ => absurd ((hoff 12 (by kernel_rfl)).symm.trans h0_) (by decide)⟩
   refine steps_cons ?_ ?_
   ·rintro b a w' ⟨v160, v165, v168, v171, m12_, ha, Q_HO158, Q_HB, Q_HO161, Q_HO166, Q_HO169, Q_HO172, Q_X12_⟩ hb_ hon hoff
    refine ⟨_, rfl, fun K hK => ?_⟩
    have e26 : a.tmps[26]? = some (.pointer (some ad162)) := by rw [ha]; exact putSel_on (e := (3, 26, .pointer (some ad162))) 2 rfl rfl (hon 3 (by kernel_rfl)) rfl
    replace ha := am_ ha
    have HO158 := am_ Q_HO158
    have HB := am_ Q_HB
    obtain ⟨ad162_z, e162_z, hx162_0_z, hx162_1_z, hx162_2_z, hx162_3_z, hx162_4_z, hx162_5_z⟩ := at_T23 (Kd.R_reads' HO158.out).2.2 0 (of_eq_true p162) (of_eq_true q162)
    cases e162_z
    have hs0_ : w'.cell? ad162 = some (.int .i64 ((rd_T23 y156 0).f0)) := (by first | exact hx162_0_z | (have h_ := hx162_0_z; (try simp only [Int.reduceToNat, Nat.zero_mul, Nat.reduceMul, Nat.reduceEqDiff, Go.Addr.add, ↓reduceIte, z0_] at h_); exact h_))
    have hs1_ : w'.cell? ⟨ad162.block, ad162.off + 1, none⟩ = some (.int .i64 ((rd_T23 y156 0).f1)) := (by first | exact hx162_1_z | (have h_ := hx162_1_z; (try simp only [Int.reduceToNat, Nat.zero_mul, Nat.reduceMul, Nat.reduceEqDiff, Go.Addr.add, ↓reduceIte, z0_] at h_); exact h_))
    have hs2_ : w'.cell? ⟨ad162.block, ad162.off + 2, none⟩ = some (.string ((rd_T23 y156 0).f2)) := (by first | exact hx162_2_z | (have h_ := hx162_2_z; (try simp only [Int.reduceToNat, Nat.zero_mul, Nat.reduceMul, Nat.reduceEqDiff, Go.Addr.add, ↓reduceIte, z0_] at h_); exact h_))
    have hs3_ : w'.cell? ⟨ad162.block, ad162.off + 3, none⟩ = some (.int .i64 ((rd_T23 y156 0).f3)) := (by first | exact hx162_3_z | (have h_ := hx162_3_z; (try simp only [Int.reduceToNat, Nat.zero_mul, Nat.reduceMul, Nat.reduceEqDiff, Go.Addr.add, ↓reduceIte, z0_] at h_); exact h_))
    have hs4_ : w'.cell? ⟨ad162.block, ad162.off + 4, none⟩ = some (.string ((rd_T23 y156 0).f4)) := (by first | exact hx162_4_z | (have h_ := hx162_4_z; (try simp only [Int.reduceToNat, Nat.zero_mul, Nat.reduceMul, Nat.reduceEqDiff, Go.Addr.add, ↓reduceIte, z0_] at h_); exact h_))
    have hs5_ : w'.cell? ⟨ad162.block, ad162.off + 5, none⟩ = some (.bool ((rd_T23 y156 0).f5)) := (by first | exact hx162_5_z | (have h_ := hx162_5_z; (try simp only [Int.reduceToNat, Nat.zero_mul, Nat.reduceMul, Nat.reduceEqDiff, Go.Addr.add, ↓reduceIte, z0_] at h_); exact h_))
    refine value_ (w1 := w') (v := .agg #[.int .i64 ((rd_T23 y156 0).f0), .int .i64 ((rd_T23 y156 0).f1), .string ((rd_T23 y156 0).f2), .int .i64 ((rd_T23 y156 0).f3), .string ((rd_T23 y156 0).f4), .bool ((rd_T23 y156 0).f5)]) (by rfl) rfl ?_ ?_
    ·go_simp
     (try simp only [i64_w])
     try rfl
    refine hK.out _ _ ⟨v160, v165, v168, v171, m12_, (by rw [ha.out]; exact putSel_upk 3 hb_ rfl rfl rfl), Q_HO158, Q_HB, Q_HO161, fun h0_ _ => absurd ((hoff 8 (by kernel_rfl)).symm.trans h0_) (by decide), Q_HO169, fun h0_ => absurd ((hoff 11 (by kernel_rfl)).symm.trans h0_) (by decide), fun h0_ => absurd ((hoff 12 (by kernel_rfl)).symm.trans h0_) (by decide)⟩
   refine steps_cons ?_ ?_
   ·rintro b a w' ⟨v160, v165, v168, v171, m12_, ha, Q_HO158, Q_HB, Q_HO161, Q_HO166, Q_HO169, Q_HO172, Q_X12_⟩ hb_ hon hoff
    refine ⟨_, rfl, fun K hK => ?_⟩
    have e28 : a.tmps[28]? = some (.slice (some ad162) y156.length co115) := by rw [ha]; exact (putSel_off rfl).trans rfl
    replace ha := am_ ha
    have HO158 := am_ Q_HO158
    have HB := am_ Q_HB
    refine value_ (w1 := w') (v := .pointer (some ad162)) (by rfl) rfl ?_ ?_
    ·go_simp
     (try simp only [i64_w])
     try rfl
    refine hK.out _ _ ⟨v160, v165, v168, v171, m12_, (by rw [ha.out]; exact putSel_upk 4 hb_ rfl rfl rfl), Q_HO158, Q_HB, Q_HO161, fun h0_ _ => absurd ((hoff 8 (by kernel_rfl)).symm.trans h0_) (by decide), Q_HO169, fun h0_ => absurd ((hoff 11 (by kernel_rfl)).symm.trans h0_) (by decide), fun h0_ => absurd ((hoff 12 (by kernel_rfl)).symm.trans h0_) (by decide)⟩
   refine steps_cons ?_ ?_
   ·rintro b a w' ⟨v160, v165, v168, v171, m12_, ha, Q_HO158, Q_HB, Q_HO161, Q_HO166, Q_HO169, Q_HO172, Q_X12_⟩ hb_ hon hoff
    refine ⟨_, rfl, fun K hK => ?_⟩
    have e29 : a.tmps[29]? = some (.pointer (some ad162)) := by rw [ha]; exact putSel_on (e := (6, 29, .pointer (some ad162))) 4 rfl rfl (hon 6 (by kernel_rfl)) rfl
    replace ha := am_ ha
    have HO158 := am_ Q_HO158
    have HB := am_ Q_HB
    obtain ⟨ad163_z, e163_z, hx163_0_z, hx163_1_z, hx163_2_z, hx163_3_z, hx163_4_z, hx163_5_z⟩ := at_T23 (Kd.R_reads' HO158.out).2.2 0 (of_eq_true p163) (of_eq_true q163)
    cases e163_z
    have hs6_ : w'.cell? ad162 = some (.int .i64 ((rd_T23 y156 0).f0)) := (by first | exact hx163_0_z | (have h_ := hx163_0_z; (try simp only [Int.reduceToNat, Nat.zero_mul, Nat.reduceMul, Nat.reduceEqDiff, Go.Addr.add, ↓reduceIte, z0_] at h_); exact h_))
    have hs7_ : w'.cell? ⟨ad162.block, ad162.off + 1, none⟩ = some (.int .i64 ((rd_T23 y156 0).f1)) := (by first | exact hx163_1_z | (have h_ := hx163_1_z; (try simp only [Int.reduceToNat, Nat.zero_mul, Nat.reduceMul, Nat.reduceEqDiff, Go.Addr.add, ↓reduceIte, z0_] at h_); exact h_))
    have hs8_ : w'.cell? ⟨ad162.block, ad162.off + 2, none⟩ = some (.string ((rd_T23 y156 0).f2)) := (by first | exact hx163_2_z | (have h_ := hx163_2_z; (try simp only [Int.reduceToNat, Nat.zero_mul, Nat.reduceMul, Nat.reduceEqDiff, Go.Addr.add, ↓reduceIte, z0_] at h_); exact h_))
    have hs9_ : w'.cell? ⟨ad162.block, ad162.off + 3, none⟩ = some (.int .i64 ((rd_T23 y156 0).f3)) := (by first | exact hx163_3_z | (have h_ := hx163_3_z; (try simp only [Int.reduceToNat, Nat.zero_mul, Nat.reduceMul, Nat.reduceEqDiff, Go.Addr.add, ↓reduceIte, z0_] at h_); exact h_))
    have hs10_ : w'.cell? ⟨ad162.block, ad162.off + 4, none⟩ = some (.string ((rd_T23 y156 0).f4)) := (by first | exact hx163_4_z | (have h_ := hx163_4_z; (try simp only [Int.reduceToNat, Nat.zero_mul, Nat.reduceMul, Nat.reduceEqDiff, Go.Addr.add, ↓reduceIte, z0_] at h_); exact h_))
    have hs11_ : w'.cell? ⟨ad162.block, ad162.off + 5, none⟩ = some (.bool ((rd_T23 y156 0).f5)) := (by first | exact hx163_5_z | (have h_ := hx163_5_z; (try simp only [Int.reduceToNat, Nat.zero_mul, Nat.reduceMul, Nat.reduceEqDiff, Go.Addr.add, ↓reduceIte, z0_] at h_); exact h_))
    refine value_ (w1 := w') (v := .agg #[.int .i64 ((rd_T23 y156 0).f0), .int .i64 ((rd_T23 y156 0).f1), .string ((rd_T23 y156 0).f2), .int .i64 ((rd_T23 y156 0).f3), .string ((rd_T23 y156 0).f4), .bool ((rd_T23 y156 0).f5)]) (by rfl) rfl ?_ ?_
    ·go_simp
     (try simp only [i64_w])
     try rfl
    refine hK.out _ _ ⟨v160, v165, v168, v171, m12_, (by rw [ha.out]; exact putSel_upk 5 hb_ rfl rfl rfl), Q_HO158, Q_HB, Q_HO161, fun h0_ _ => absurd ((hoff 8 (by kernel_rfl)).symm.trans h0_) (by decide), Q_HO169, fun h0_ => absurd ((hoff 11 (by kernel_rfl)).symm.trans h0_) (by decide), fun h0_ => absurd ((hoff 12 (by kernel_rfl)).symm.trans h0_) (by decide)⟩
   refine steps_cons ?_ ?_
   ·rintro b a w' ⟨v160, v165, v168, v171, m12_, ha, Q_HO158, Q_HB, Q_HO161, Q_HO166, Q_HO169, Q_HO172, Q_X12_⟩ hb_ hon hoff
    refine ⟨_, rfl, fun K hK => ?_⟩
    have e27 : a.tmps[27]? = some (.agg #[.int .i64 ((rd_T23 y156 0).f0), .int .i64 ((rd_T23 y156 0).f1), .string ((rd_T23 y156 0).f2), .int .i64 ((rd_T23 y156 0).f3), .string ((rd_T23 y156 0).f4), .bool ((rd_T23 y156 0).f5)]) := by rw [ha]; exact putSel_on (e := (4, 27, .agg #[.int .i64 ((rd_T23 y156 0).f0), .int .i64 ((rd_T23 y156 0).f1), .string ((rd_T23 y156 0).f2), .int .i64 ((rd_T23 y156 0).f3), .string ((rd_T23 y156 0).f4), .bool ((rd_T23 y156 0).f5)])) 3 rfl rfl (hon 4 (by kernel_rfl)) rfl
    have e30 : a.tmps[30]? = some (.agg #[.int .i64 ((rd_T23 y156 0).f0), .int .i64 ((rd_T23 y156 0).f1), .string ((rd_T23 y156 0).f2), .int .i64 ((rd_T23 y156 0).f3), .string ((rd_T23 y156 0).f4), .bool ((rd_T23 y156 0).f5)]) := by rw [ha]; exact putSel_on (e := (7, 30, .agg #[.int .i64 ((rd_T23 y156 0).f0), .int .i64 ((rd_T23 y156 0).f1), .string ((rd_T23 y156 0).f2), .int .i64 ((rd_T23 y156 0).f3), .string ((rd_T23 y156 0).f4), .bool ((rd_T23 y156 0).f5)])) 5 rfl rfl (hon 7 (by kernel_rfl)) rfl
    replace ha := am_ ha
    have HO158 := am_ Q_HO158
    have HB := am_ Q_HB
    refine Kd.R_lit_step k23 _ 23 ?hg (N := 31) ?hd (xs := ([(⟨(rd_T23 y156 0).f0, (rd_T23 y156 0).f1, (rd_T23 y156 0).f2, (rd_T23 y156 0).f3, (rd_T23 y156 0).f4, (rd_T23 y156 0).f5⟩ : S23), (⟨(rd_T23 y156 0).f0, (rd_T23 y156 0).f1, (rd_T23 y156 0).f2, (rd_T23 y156 0).f3, (rd_T23 y156 0).f4, (rd_T23 y156 0).f5⟩ : S23)] : List (S23))) (inner := [.int .i64 ((rd_T23 y156 0).f0), .int .i64 ((rd_T23 y156 0).f1), .string ((rd_T23 y156 0).f2), .int .i64 ((rd_T23 y156 0).f3), .string ((rd_T23 y156 0).f4), .bool ((rd_T23 y156 0).f5), .int .i64 ((rd_T23 y156 0).f0), .int .i64 ((rd_T23 y156 0).f1), .string ((rd_T23 y156 0).f2), .int .i64 ((rd_T23 y156 0).f3), .string ((rd_T23 y156 0).f4), .bool ((rd_T23 y156 0).f5)]) (ok := fun _ => True) (okp := fun _ => True) ?hr ?hp (fun _ hk => hk) trivial (Below.refl _ _) (Nat.le_refl _) (by simp) ?_; (case hd => rfl); (case hg => rfl); (case hr => first | (go_simp; done) | (go_simp; rfl)); (case hp => exact (Reps.c6 (show Kd.M k23 _ _ _ (⟨(rd_T23 y156 0).f0, (rd_T23 y156 0).f1, (rd_T23 y156 0).f2, (rd_T23 y156 0).f3, (rd_T23 y156 0).f4, (rd_T23 y156 0).f5⟩ : S23) [.int .i64 ((rd_T23 y156 0).f0), .int .i64 ((rd_T23 y156 0).f1), .string ((rd_T23 y156 0).f2), .int .i64 ((rd_T23 y156 0).f3), .string ((rd_T23 y156 0).f4), .bool ((rd_T23 y156 0).f5)] from (k23_mkM _ _ _ (⟨(rd_T23 y156 0).f0, (rd_T23 y156 0).f1, (rd_T23 y156 0).f2, (rd_T23 y156 0).f3, (rd_T23 y156 0).f4, (rd_T23 y156 0).f5⟩ : S23) )) (Reps.c6 (show Kd.M k23 _ _ _ (⟨(rd_T23 y156 0).f0, (rd_T23 y156 0).f1, (rd_T23 y156 0).f2, (rd_T23 y156 0).f3, (rd_T23 y156 0).f4, (rd_T23 y156 0).f5⟩ : S23) [.int .i64 ((rd_T23 y156 0).f0), .int .i64 ((rd_T23 y156 0).f1), .string ((rd_T23 y156 0).f2), .int .i64 ((rd_T23 y156 0).f3), .string ((rd_T23 y156 0).f4), .bool ((rd_T23 y156 0).f5)] from (k23_mkM _ _ _ (⟨(rd_T23 y156 0).f0, (rd_T23 y156 0).f1, (rd_T23 y156 0).f2, (rd_T23 y156 0).f3, (rd_T23 y156 0).f4, (rd_T23 y156 0).f5⟩ : S23) )) (Reps.none _ _))))
    intro v165 w116 ho117 hb hg_ hnew_
    clear hg_ hnew_
    (first | rw [← Ny164.out] at ho117 | (simp only [Int.reduceToNat] at ho117; rw [← Ny164.out] at ho117))
    have n0_ := am_ (r5_ (by (with_reducible repeat (first | apply r1_ | apply r2_ | apply r3_)); exact HO158.out) (r4_ ho117) hb)
    have n1_ := am_ (Kd.R_lower (Kd.R_new' ho117 (Kd.R_lt (by (with_reducible repeat (first | apply r1_ | apply r2_ | apply r3_)); exact HO158.out))) (below_size (by repeat (with_reducible first | exact HB.out | apply p3_ | apply p1_ | apply p2_))))
    have n2_ := am_ (below_step (by repeat (with_reducible first | exact HB.out | apply p3_ | apply p1_ | apply p2_)) hb)
    have z_HO161 := fun (h0_ : b 1 = true) (h1_ : b 11 = false) => (show Kd.R k23 23 w116 w.heap.size (fun k_ => some k_ ≠ (.slice (some ad162) y156.length co115 : Value).ownBlock) v160 y159 from by first | exact (r5_ (by (with_reducible repeat (first | apply r1_ | apply r2_ | apply r3_)); exact (Q_HO161 h0_ h1_)) (r4_ ho117) hb) | exact Kd.R_mono (r5_ (by (with_reducible repeat (first | apply r1_ | apply r2_ | apply r3_)); exact (Q_HO161 h0_ h1_)) (r4_ ho117) hb) (fun _ h_ => by first | trivial | exact h_ | exact h_.1))
    have z_HO169 := fun (h0_ : b 10 = true) (h1_ : b 11 = false) => (show Kd.R k23 23 w116 w.heap.size (fun k_ => some k_ ≠ (.slice (some ad162) y156.length co115 : Value).ownBlock) v168 y167 from by first | exact (r5_ (by (with_reducible repeat (first | apply r1_ | apply r2_ | apply r3_)); exact (Q_HO169 h0_ h1_)) (r4_ ho117) hb) | exact Kd.R_mono (r5_ (by (with_reducible repeat (first | apply r1_ | apply r2_ | apply r3_)); exact (Q_HO169 h0_ h1_)) (r4_ ho117) hb) (fun _ h_ => by first | trivial | exact h_ | exact h_.1))
    clear HO158
    clear HB
    have HO158 := n0_
    have HO166 := n1_
    have HB := n2_
    clear n0_ n1_ n2_
    clear hb ho117
    refine hK.out _ _ ⟨v160, v165, v168, v171, m12_, (by rw [ha.out]; exact putSel_upk 6 hb_ rfl rfl rfl), (by (with_reducible repeat (first | apply r1_ | apply r2_ | apply r3_)); exact Kd.R_mono HO158.out (fun _ hk => by first | trivial | exact hk.2)), (by repeat (with_reducible first | exact HB.out | apply p3_ | apply p1_ | apply p2_)), z_HO161, fun _ _ => (by (with_reducible repeat (first | apply r1_ | apply r2_ | apply r3_)); exact Kd.R_mono HO166.out (fun _ hk => by first | trivial | exact hk.2)), z_HO169, fun h0_ => absurd ((hoff 11 (by kernel_rfl)).symm.trans h0_) (by decide), fun h0_ => absurd ((hoff 12 (by kernel_rfl)).symm.trans h0_) (by decide)⟩
   refine steps_cons ?_ ?_
   ·rintro b a w' ⟨v160, v165, v168, v171, m12_, ha, Q_HO158, Q_HB, Q_HO161, Q_HO166, Q_HO169, Q_HO172, Q_X12_⟩ hb_ hon hoff
    refine ⟨_, rfl, fun K hK => ?_⟩
    replace ha := am_ ha
    have HO158 := am_ Q_HO158
    have HB := am_ Q_HB
    refine value_ (w1 := w') (v := .agg #[.int .i64 10, .int .i64 1, .string (⟨#[]⟩ : ByteArray), .int .i64 0, .string (⟨#[]⟩ : ByteArray), .bool false]) (by rfl) rfl ?_ ?_
    ·go_simp
     (try simp only [i64_w])
     try rfl
    refine hK.out _ _ ⟨v160, v165, v168, v171, m12_, (by rw [ha.out]; exact putSel_upk 7 hb_ rfl rfl rfl), Q_HO158, Q_HB, Q_HO161, Q_HO166, fun h0_ _ => absurd ((hoff 10 (by kernel_rfl)).symm.trans h0_) (by decide), fun h0_ => absurd ((hoff 11 (by kernel_rfl)).symm.trans h0_) (by decide), fun h0_ => absurd ((hoff 12 (by kernel_rfl)).symm.trans h0_) (by decide)⟩
   refine steps_cons ?_ ?_
   ·rintro b a w' ⟨v160, v165, v168, v171, m12_, ha, Q_HO158, Q_HB, Q_HO161, Q_HO166, Q_HO169, Q_HO172, Q_X12_⟩ hb_ hon hoff
    refine ⟨_, rfl, fun K hK => ?_⟩
    have e32 : a.tmps[32]? = some (.agg #[.int .i64 10, .int .i64 1, .string (⟨#[]⟩ : ByteArray), .int .i64 0, .string (⟨#[]⟩ : ByteArray), .bool false]) := by rw [ha]; exact putSel_on (e := (9, 32, .agg #[.int .i64 10, .int .i64 1, .string (⟨#[]⟩ : ByteArray), .int .i64 0, .string (⟨#[]⟩ : ByteArray), .bool false])) 7 rfl rfl (hon 9 (by kernel_rfl)) rfl
    replace ha := am_ ha
    have HO158 := am_ Q_HO158
    have HB := am_ Q_HB
    refine Kd.R_lit_step k23 _ 23 ?hg (N := 33) ?hd (xs := ([(⟨10, 1, (⟨#[]⟩ : ByteArray), 0, (⟨#[]⟩ : ByteArray), false⟩ : S23)] : List (S23))) (inner := [.int .i64 10, .int .i64 1, .string (⟨#[]⟩ : ByteArray), .int .i64 0, .string (⟨#[]⟩ : ByteArray), .bool false]) (ok := fun _ => True) (okp := fun _ => True) ?hr ?hp (fun _ hk => hk) trivial (Below.refl _ _) (Nat.le_refl _) (by simp) ?_; (case hd => rfl); (case hg => rfl); (case hr => first | (go_simp; done) | (go_simp; rfl)); (case hp => exact (Reps.c6 (show Kd.M k23 _ _ _ (⟨10, 1, (⟨#[]⟩ : ByteArray), 0, (⟨#[]⟩ : ByteArray), false⟩ : S23) [.int .i64 10, .int .i64 1, .string (⟨#[]⟩ : ByteArray), .int .i64 0, .string (⟨#[]⟩ : ByteArray), .bool false] from (k23_mkM _ _ _ (⟨10, 1, (⟨#[]⟩ : ByteArray), 0, (⟨#[]⟩ : ByteArray), false⟩ : S23) )) (Reps.none _ _)))
    intro v168 w116 ho117 hb hg_ hnew_
    clear hg_ hnew_
    (first | rw [← Ny167.out] at ho117 | (simp only [Int.reduceToNat] at ho117; rw [← Ny167.out] at ho117))
    have n0_ := am_ (r5_ (by (with_reducible repeat (first | apply r1_ | apply r2_ | apply r3_)); exact HO158.out) (r4_ ho117) hb)
    have n1_ := am_ (Kd.R_lower (Kd.R_new' ho117 (Kd.R_lt (by (with_reducible repeat (first | apply r1_ | apply r2_ | apply r3_)); exact HO158.out))) (below_size (by repeat (with_reducible first | exact HB.out | apply p3_ | apply p1_ | apply p2_))))
    have n2_ := am_ (below_step (by repeat (with_reducible first | exact HB.out | apply p3_ | apply p1_ | apply p2_)) hb)
    have z_HO161 := fun (h0_ : b 1 = true) (h1_ : b 11 = false) => (show Kd.R k23 23 w116 w.heap.size (fun k_ => some k_ ≠ (.slice (some ad162) y156.length co115 : Value).ownBlock) v160 y159 from by first | exact (r5_ (by (with_reducible repeat (first | apply r1_ | apply r2_ | apply r3_)); exact (Q_HO161 h0_ h1_)) (r4_ ho117) hb) | exact Kd.R_mono (r5_ (by (with_reducible repeat (first | apply r1_ | apply r2_ | apply r3_)); exact (Q_HO161 h0_ h1_)) (r4_ ho117) hb) (fun _ h_ => by first | trivial | exact h_ | exact h_.1))
    have z_HO166 := fun (h0_ : b 8 = true) (h1_ : b 11 = false) => (show Kd.R k23 23 w116 w.heap.size (fun k_ => some k_ ≠ (.slice (some ad162) y156.length co115 : Value).ownBlock) v165 y164 from by first | exact (r5_ (by (with_reducible repeat (first | apply r1_ | apply r2_ | apply r3_)); exact (Q_HO166 h0_ h1_)) (r4_ ho117) hb) | exact Kd.R_mono (r5_ (by (with_reducible repeat (first | apply r1_ | apply r2_ | apply r3_)); exact (Q_HO166 h0_ h1_)) (r4_ ho117) hb) (fun _ h_ => by first | trivial | exact h_ | exact h_.1))
    clear HO158
    clear HB
    have HO158 := n0_
    have HO169 := n1_
    have HB := n2_
    clear n0_ n1_ n2_
    clear hb ho117
    refine hK.out _ _ ⟨v160, v165, v168, v171, m12_, (by rw [ha.out]; exact putSel_upk 8 hb_ rfl rfl rfl), (by (with_reducible repeat (first | apply r1_ | apply r2_ | apply r3_)); exact Kd.R_mono HO158.out (fun _ hk => by first | trivial | exact hk.2)), (by repeat (with_reducible first | exact HB.out | apply p3_ | apply p1_ | apply p2_)), z_HO161, z_HO166, fun _ _ => (by (with_reducible repeat (first | apply r1_ | apply r2_ | apply r3_)); exact Kd.R_mono HO169.out (fun _ hk => by first | trivial | exact hk.2)), fun h0_ => absurd ((hoff 11 (by kernel_rfl)).symm.trans h0_) (by decide), fun h0_ => absurd ((hoff 12 (by kernel_rfl)).symm.trans h0_) (by decide)⟩
   refine steps_cons ?_ ?_
   ·rintro b a w' ⟨v160, v165, v168, v171, m12_, ha, Q_HO158, Q_HB, Q_HO161, Q_HO166, Q_HO169, Q_HO172, Q_X12_⟩ hb_ hon hoff
    refine ⟨_, rfl, fun K hK => ?_⟩
    have e24 : a.tmps[24]? = some (v160) := by rw [ha]; exact putSel_on (e := (1, 24, v160)) 1 rfl rfl (hon 1 (by kernel_rfl)) rfl
    have e31 : a.tmps[31]? = some (v165) := by rw [ha]; exact putSel_on (e := (8, 31, v165)) 6 rfl rfl (hon 8 (by kernel_rfl)) rfl
    have e33 : a.tmps[33]? = some (v168) := by rw [ha]; exact putSel_on (e := (10, 33, v168)) 8 rfl rfl (hon 10 (by kernel_rfl)) rfl
    replace ha := am_ ha
    have HO158 := am_ Q_HO158
    have HB := am_ Q_HB
    have HO161 := am_ (Q_HO161 (hon 1 (by kernel_rfl)) hb_)
    have HO166 := am_ (Q_HO166 (hon 8 (by kernel_rfl)) hb_)
    have HO169 := am_ (Q_HO169 (hon 10 (by kernel_rfl)) hb_)
    obtain ⟨Ao123, co123, eo123⟩ := Kd.R_slice HO161.out
    (first | subst eo123 | (injection eo123 with f1_ f2_ f3_; have f4_ := f1_.symm; have f5_ := f3_.symm; clear f1_ f2_ f3_; subst f4_; subst f5_))
    obtain ⟨Ao124, co124, eo124⟩ := Kd.R_slice HO166.out
    (first | subst eo124 | (injection eo124 with f1_ f2_ f3_; have f4_ := f1_.symm; have f5_ := f3_.symm; clear f1_ f2_ f3_; subst f4_; subst f5_))
    obtain ⟨Ao125, co125, eo125⟩ := Kd.R_slice HO169.out
    (first | subst eo125 | (injection eo125 with f1_ f2_ f3_; have f4_ := f1_.symm; have f5_ := f3_.symm; clear f1_ f2_ f3_; subst f4_; subst f5_))
    refine Kd.N_lit_step (Kd.slice 23 k23) _ 33 ?hg (N' := 34) ?hd (xs := ([y159, y164, y167] : List (List (S23)))) (inner := [.slice Ao123 y159.length co123, .slice Ao124 y164.length co124, .slice Ao125 y167.length co125]) (ok := (fun k_ => some k_ ≠ (.slice (some ad162) y156.length co115 : Value).ownBlock)) (okp := (fun k_ => some k_ ≠ (.slice (some ad162) y156.length co115 : Value).ownBlock)) ?hr ?hp (fun _ hk => hk) ((show ∀ k_, w'.heap.size ≤ k_ → (fun k_ => some k_ ≠ (.slice (some ad162) y156.length co115 : Value).ownBlock) k_ from fun k_ hk => Kd.fresh' (Kd.R_lt (by (with_reducible repeat (first | apply r1_ | apply r2_ | apply r3_)); exact HO158.out)) k_ hk) _ (Nat.le_refl _)) (Below.refl _ _) (Nat.le_refl _) (by simp) ?_; (case hd => rfl); (case hg => rfl); (case hr => first | (go_simp; done) | (go_simp; rfl)); (case hp => exact (Reps.one (show Kd.FK (Kd.slice 23 k23) _ _ y159 [.slice Ao123 y159.length co123] from (Kd.FK_slice_mk (Kd.R_reads' (Kd.R_mono (ok' := (fun k_ => some k_ ≠ (.slice (some ad162) y156.length co115 : Value).ownBlock)) (HO161.out) (fun k_ hk => by first | exact hk | exact hk.1))).2.1 (Kd.R_F (Kd.R_mono (ok' := (fun k_ => some k_ ≠ (.slice (some ad162) y156.length co115 : Value).ownBlock)) (HO161.out) (fun k_ hk => by first | exact hk | exact hk.1))))) (Reps.one (show Kd.FK (Kd.slice 23 k23) _ _ y164 [.slice Ao124 y164.length co124] from (Kd.FK_slice_mk (Kd.R_reads' (Kd.R_mono (ok' := (fun k_ => some k_ ≠ (.slice (some ad162) y156.length co115 : Value).ownBlock)) (HO166.out) (fun k_ hk => by first | exact hk | exact hk.1))).2.1 (Kd.R_F (Kd.R_mono (ok' := (fun k_ => some k_ ≠ (.slice (some ad162) y156.length co115 : Value).ownBlock)) (HO166.out) (fun k_ hk => by first | exact hk | exact hk.1))))) (Reps.one (show Kd.FK (Kd.slice 23 k23) _ _ y167 [.slice Ao125 y167.length co125] from (Kd.FK_slice_mk (Kd.R_reads' (Kd.R_mono (ok' := (fun k_ => some k_ ≠ (.slice (some ad162) y156.length co115 : Value).ownBlock)) (HO169.out) (fun k_ hk => by first | exact hk | exact hk.1))).2.1 (Kd.R_F (Kd.R_mono (ok' := (fun k_ => some k_ ≠ (.slice (some ad162) y156.length co115 : Value).ownBlock)) (HO169.out) (fun k_ hk => by first | exact hk | exact hk.1))))) (Reps.none _ _)))))
    intro v171 w126 ho127 hb hg_ hnew_
    clear hg_ hnew_
    (first | rw [← Ny170.out] at ho127 | (simp only [Int.reduceToNat] at ho127; rw [← Ny170.out] at ho127))
    have n0_ := am_ (Kd.R_below (by (with_reducible repeat (first | apply r1_ | apply r2_ | apply r3_)); exact HO158.out) hb)
    have n1_ := am_ (Kd.N_lower ho127 (below_size (by repeat (with_reducible first | exact HB.out | apply p3_ | apply p1_ | apply p2_))))
    have n2_ := am_ (below_step (by repeat (with_reducible first | exact HB.out | apply p3_ | apply p1_ | apply p2_)) hb)
    clear HO158
    clear HB
    clear HO161
    clear HO166
    clear HO169
    have HO158 := n0_
    have HO172 := n1_
    have HB := n2_
    clear n0_ n1_ n2_
    clear hb ho127
    refine hK.out _ _ ⟨.slice Ao123 y159.length co123, .slice Ao124 y164.length co124, .slice Ao125 y167.length co125, v171, m12_, (by rw [ha.out]; exact putSel_upk 9 hb_ rfl rfl rfl), (by (with_reducible repeat (first | apply r1_ | apply r2_ | apply r3_)); exact Kd.R_mono HO158.out (fun _ hk => trivial)), (by repeat (with_reducible first | exact HB.out | apply p3_ | apply p1_ | apply p2_)), fun _ h1_ => absurd ((up_self b 11).symm.trans h1_) (by decide), fun _ h1_ => absurd ((up_self b 11).symm.trans h1_) (by decide), fun _ h1_ => absurd ((up_self b 11).symm.trans h1_) (by decide), fun _ => (by (with_reducible repeat (first | apply n1'_ | apply n2'_ | apply n3'_)); exact HO172.out), fun h0_ => absurd ((hoff 12 (by kernel_rfl)).symm.trans h0_) (by decide)⟩
   refine steps_cons ?_ ?_
   ·rintro b a w' ⟨v160, v165, v168, v171, m12_, ha, Q_HO158, Q_HB, Q_HO161, Q_HO166, Q_HO169, Q_HO172, Q_X12_⟩ hb_ hon hoff
    refine ⟨_, rfl, fun K hK => ?_⟩
    have e34 : a.tmps[34]? = some (v171) := by rw [ha]; exact putSel_on (e := (11, 34, v171)) 9 rfl rfl (hon 11 (by kernel_rfl)) rfl
    replace ha := am_ ha
    have HO158 := am_ Q_HO158
    have HB := am_ Q_HB
    have HO172 := am_ (Q_HO172 (hon 11 (by kernel_rfl)))
    refine value_ (w1 := w') (v := v171) (by rfl) rfl ?_ ?_
    ·go_simp
     (try simp only [i64_w])
     try rfl
    refine hK.out _ _ ⟨v160, v165, v168, v171, (v171), (by rw [ha.out]; exact putSel_upk 10 hb_ rfl rfl rfl), Q_HO158, Q_HB, fun _ h1_ => absurd ((hon 11 (by kernel_rfl)).symm.trans h1_) (by decide), fun _ h1_ => absurd ((hon 11 (by kernel_rfl)).symm.trans h1_) (by decide), fun _ h1_ => absurd ((hon 11 (by kernel_rfl)).symm.trans h1_) (by decide), Q_HO172, fun _ => rfl⟩
   exact steps_nil
  rintro b a w127 hall ⟨v160, v165, v168, v171, m12_, ha, Q_HO158, Q_HB, Q_HO161, Q_HO166, Q_HO169, Q_HO172, Q_X12_⟩
  clear HB HO158
  have hb0_ := hall 0 (by kernel_rfl)
  have hb1_ := hall 1 (by kernel_rfl)
  have hb3_ := hall 3 (by kernel_rfl)
  have hb4_ := hall 4 (by kernel_rfl)
  have hb6_ := hall 6 (by kernel_rfl)
  have hb7_ := hall 7 (by kernel_rfl)
  have hb8_ := hall 8 (by kernel_rfl)
  have hb9_ := hall 9 (by kernel_rfl)
  have hb10_ := hall 10 (by kernel_rfl)
  have hb11_ := hall 11 (by kernel_rfl)
  have hb12_ := hall 12 (by kernel_rfl)
  subst ha
  obtain rfl := Q_X12_ hb12_
  simp only [putSel, hb0_, hb1_, hb3_, hb4_, hb6_, hb7_, hb8_, hb9_, hb10_, hb11_, hb12_, if_true, Act.put, List.setIfInBounds_toArray, List.set_cons_zero, List.set_cons_succ]
  have HO158 := am_ Q_HO158
  clear Q_HO158
  have HB := am_ Q_HB
  clear Q_HB
  clear Q_HO161
  clear Q_HO166
  clear Q_HO169
  have HO172 := am_ (Q_HO172 hb11_)
  clear Q_HO172
  clear hall hb0_ hb1_ hb3_ hb4_ hb6_ hb7_ hb8_ hb9_ hb10_ hb11_ hb12_
  obtain ⟨Ao128, co128, eo128⟩ := Kd.N_slice HO172.out
  subst eo128
  have p173 : 0 ≤ ((ji6) : Int) := of_decide_eq_true (by first | (with_reducible assumption) | assumption)
  have q173 : (ji6) < (y170.length : Int) := of_decide_eq_true (by first | (with_reducible assumption) | assumption)
  obtain ⟨ad173, A173_0, c173_0, e173, hx173_0, hl173_0, hi173_0⟩ := at_L4 (Kd.N_reads' HO172.out).2.2 (ji6) p173 q173
  cases e173
  obtain ⟨ce173, hce173, hMe173, hcc173⟩ := Kd.N_get HO172.out [] (ji6) p173 (by first | exact q173 | exact of_decide_eq_true (by first | (with_reducible assumption) | assumption) | (have e_ := (Kd.N_reads' HO172.out).1; omega))
  obtain ⟨ua173_0, uc173_0, rfl, ul173_0, ge173_0⟩ := Kd.FK_slice_open hMe173
  have hv173_0 := hcc173 0 _ rfl
  rw [Nat.add_zero, show ((Kd.slice 23 k23)).sz = 1 from rfl, Nat.mul_one] at hv173_0
  replace hv173_0 := Option.some.inj (hv173_0.symm.trans hx173_0)
  injection hv173_0 with hva_ hvn_ hvc_
  rw [hva_] at ge173_0
  rw [hvc_] at ul173_0
  have HL173_0 := am_ (show Kd.V k23 23 _ w.heap.size _ _ (rd_L4 y170 (ji6)) from Kd.V_mk ul173_0 ge173_0)
  clear hva_ hvn_ hvc_ ge173_0 ul173_0
  clear hcc173 hce173
  have HR173_0 := am_ hi173_0
  have HC173_0 := am_ hl173_0
  clear hi173_0 hl173_0
  replace p173 := eq_true p173
  replace q173 := eq_true q173
  try go_wp2_with (first | ((with_reducible refine gate_callee (f := 22) rfl ?_); refine goesL_ (some 43) rfl rfl Try.func22 (by kernel_rfl) rfl #[.slice A173_0 (rd_L4 y170 (ji6)).length c173_0, .int .i64 0] rfl (by (try simp only [List.map_toArray, List.map_cons, List.map_nil]); first | done | (simp only [hji6]; rfl) | rfl | (simp only [List.length_drop, List.length_take]; rfl)) ?_; (with_reducible refine (sweep_Sweep.calls k _ _ (rd_L4 y170 (ji6)) 0 t174 t175 _ ?side1 ?side2 A9.out).mono ?_); (case side1 => repeat (first | exact (by repeat (first | (with_reducible exact HR173_0.out) | (with_reducible refine Kd.C_alloc ?_ _) | (with_reducible refine Kd.C_drewN ?_ _) | (with_reducible refine Kd.C_drew ?_) | exact HR173_0.out)) | (with_reducible refine Kd.C_alloc ?_ _) | (with_reducible refine Kd.C_drewN ?_ _) | (with_reducible refine Kd.C_drew ?_))); (case side2 => exact HC173_0.out); rintro e w129 ⟨v176, rfl, ho0, hb⟩; refine ⟨_, rfl, ?_⟩; have n0_ := am_ (r5_ (by (with_reducible repeat (first | apply r1_ | apply r2_ | apply r3_)); exact HO158.out) (r4_ ho0) hb); have n1_ := am_ (Kd.N_elder' (by (with_reducible repeat (first | apply n1'_ | apply n2'_ | apply n3'_)); exact HO172.out) (r4_ ho0) hb); have n2_ := am_ (Kd.V_elder' (by (with_reducible repeat (first | apply v1_ | apply v2_ | apply v3_)); exact HL173_0.out) (r4_ ho0) hb); have n3_ := am_ (Kd.R_lower (Kd.R_new' ho0 (Kd.R_lt (by (with_reducible repeat (first | apply r1_ | apply r2_ | apply r3_)); exact HO158.out))) (below_size (by repeat (with_reducible first | exact HB.out | apply p3_ | apply p1_ | apply p2_)))); have n4_ := am_ (Kd.C_below (by repeat (first | (with_reducible exact HR173_0.out) | (with_reducible refine Kd.C_alloc ?_ _) | (with_reducible refine Kd.C_drewN ?_ _) | (with_reducible refine Kd.C_drew ?_) | exact HR173_0.out)) hb); have n5_ := am_ (below_step (by repeat (with_reducible first | exact HB.out | apply p3_ | apply p1_ | apply p2_)) hb); clear HO158; clear HO172; clear HL173_0; clear HR173_0; clear HB; have HO158 := n0_; have HO172 := n1_; have HL173_0 := n2_; have HO177 := n3_; have HR173_0 := n4_; have HB := n5_; clear n0_ n1_ n2_ n3_ n4_ n5_; (try clear hb); (try clear ho0)) | ((with_reducible refine gate_callee (f := 22) rfl ?_); refine goesL_ (some 50) rfl rfl Try.func22 (by kernel_rfl) rfl #[.slice (some ad162) y156.length co115, .int .i64 (wrap64 (-(wrap64 (1 + (Go.bits .and .i64 a1 1023)))))] rfl (by (try simp only [List.map_toArray, List.map_cons, List.map_nil]); first | done | rfl | (simp only [List.length_drop, List.length_take]; rfl)) ?_; (with_reducible refine (sweep_Sweep.calls k _ _ y156 (wrap64 (-(wrap64 (1 + (Go.bits .and .i64 a1 1023))))) t178 t179 _ ?side1 ?side2 A10.out).mono ?_); (case side1 => repeat (first | exact (Kd.R_reads' HO158.out).2.2 | (with_reducible refine Kd.C_alloc ?_ _) | (with_reducible refine Kd.C_drewN ?_ _) | (with_reducible refine Kd.C_drew ?_))); (case side2 => exact (Kd.R_reads' HO158.out).2.1); rintro e w130 ⟨v180, rfl, ho0, hb⟩; refine ⟨_, rfl, ?_⟩; have n0_ := am_ (r5_ (by (with_reducible repeat (first | apply r1_ | apply r2_ | apply r3_)); exact HO158.out) (r4_ ho0) hb); have n1_ := am_ (Kd.N_elder' (by (with_reducible repeat (first | apply n1'_ | apply n2'_ | apply n3'_)); exact HO172.out) (r4_ ho0) hb); have n2_ := am_ (Kd.V_elder' (by (with_reducible repeat (first | apply v1_ | apply v2_ | apply v3_)); exact HL173_0.out) (r4_ ho0) hb); have n3_ := am_ (r5_ (by (with_reducible repeat (first | apply r1_ | apply r2_ | apply r3_)); exact HO177.out) (r4_ ho0) hb); have n4_ := am_ (Kd.R_lower (Kd.R_new' (Kd.R_new' ho0 (Kd.R_lt (by (with_reducible repeat (first | apply r1_ | apply r2_ | apply r3_)); exact HO158.out))) (Kd.R_lt (by (with_reducible repeat (first | apply r1_ | apply r2_ | apply r3_)); exact HO177.out))) (below_size (by repeat (with_reducible first | exact HB.out | apply p3_ | apply p1_ | apply p2_)))); have n5_ := am_ (Kd.C_below (by repeat (first | (with_reducible exact HR173_0.out) | (with_reducible refine Kd.C_alloc ?_ _) | (with_reducible refine Kd.C_drewN ?_ _) | (with_reducible refine Kd.C_drew ?_) | exact HR173_0.out)) hb); have n6_ := am_ (below_step (by repeat (with_reducible first | exact HB.out | apply p3_ | apply p1_ | apply p2_)) hb); clear HO158; clear HO172; clear HL173_0; clear HO177; clear HR173_0; clear HB; have HO158 := n0_; have HO172 := n1_; have HL173_0 := n2_; have HO177 := n3_; have HO181 := n4_; have HR173_0 := n5_; have HB := n6_; clear n0_ n1_ n2_ n3_ n4_ n5_ n6_; (try clear hb); (try clear ho0)) | ((with_reducible refine gate_callee (f := 22) rfl ?_); refine goesL_ (some 57) rfl rfl Try.func22 (by kernel_rfl) rfl #[.slice (some ad162) y156.length co115, .int .i64 (wrap64 (1099511627776 + (wrap64 (1 + (Go.bits .and .i64 a1 1023)))))] rfl (by (try simp only [List.map_toArray, List.map_cons, List.map_nil]); first | done | rfl | (simp only [List.length_drop, List.length_take]; rfl)) ?_; (with_reducible refine (sweep_Sweep.calls k _ _ y156 (wrap64 (1099511627776 + (wrap64 (1 + (Go.bits .and .i64 a1 1023))))) t182 t183 _ ?side1 ?side2 A11.out).mono ?_); (case side1 => repeat (first | exact (Kd.R_reads' HO158.out).2.2 | (with_reducible refine Kd.C_alloc ?_ _) | (with_reducible refine Kd.C_drewN ?_ _) | (with_reducible refine Kd.C_drew ?_))); (case side2 => exact (Kd.R_reads' HO158.out).2.1); rintro e w131 ⟨v184, rfl, ho0, hb⟩; refine ⟨_, rfl, ?_⟩; have n0_ := am_ (r5_ (by (with_reducible repeat (first | apply r1_ | apply r2_ | apply r3_)); exact HO158.out) (r4_ ho0) hb); have n1_ := am_ (Kd.N_elder' (by (with_reducible repeat (first | apply n1'_ | apply n2'_ | apply n3'_)); exact HO172.out) (r4_ ho0) hb); have n2_ := am_ (Kd.V_elder' (by (with_reducible repeat (first | apply v1_ | apply v2_ | apply v3_)); exact HL173_0.out) (r4_ ho0) hb); have n3_ := am_ (r5_ (by (with_reducible repeat (first | apply r1_ | apply r2_ | apply r3_)); exact HO177.out) (r4_ ho0) hb); have n4_ := am_ (r5_ (by (with_reducible repeat (first | apply r1_ | apply r2_ | apply r3_)); exact HO181.out) (r4_ ho0) hb); have n5_ := am_ (Kd.R_lower (Kd.R_new' (Kd.R_new' (Kd.R_new' ho0 (Kd.R_lt (by (with_reducible repeat (first | apply r1_ | apply r2_ | apply r3_)); exact HO158.out))) (Kd.R_lt (by (with_reducible repeat (first | apply r1_ | apply r2_ | apply r3_)); exact HO177.out))) (Kd.R_lt (by (with_reducible repeat (first | apply r1_ | apply r2_ | apply r3_)); exact HO181.out))) (below_size (by repeat (with_reducible first | exact HB.out | apply p3_ | apply p1_ | apply p2_)))); have n6_ := am_ (Kd.C_below (by repeat (first | (with_reducible exact HR173_0.out) | (with_reducible refine Kd.C_alloc ?_ _) | (with_reducible refine Kd.C_drewN ?_ _) | (with_reducible refine Kd.C_drew ?_) | exact HR173_0.out)) hb); have n7_ := am_ (below_step (by repeat (with_reducible first | exact HB.out | apply p3_ | apply p1_ | apply p2_)) hb); clear HO158; clear HO172; clear HL173_0; clear HO177; clear HO181; clear HR173_0; clear HB; have HO158 := n0_; have HO172 := n1_; have HL173_0 := n2_; have HO177 := n3_; have HO181 := n4_; have HO185 := n5_; have HR173_0 := n6_; have HB := n7_; clear n0_ n1_ n2_ n3_ n4_ n5_ n6_ n7_; (try clear hb); (try clear ho0)) | ((with_reducible refine gate_callee (f := 22) rfl ?_); refine goesL_ (some 61) rfl rfl Try.func22 (by kernel_rfl) rfl #[.slice none 0 0, .int .i64 1099511627776] rfl (by (try simp only [List.map_toArray, List.map_cons, List.map_nil]); first | done | rfl | (simp only [List.length_drop, List.length_take]; rfl)) ?_; (refine (sweep_Sweep.calls k _ _ ([] : List (S23)) 1099511627776 t186 t187 _ ?side1 ?side2 A12.out).mono ?_); (case side1 => exact Kd.C_nil _ _); (case side2 => exact Nat.le_refl _); rintro e w132 ⟨v188, rfl, ho0, hb⟩; refine ⟨_, rfl, ?_⟩; have n0_ := am_ (r5_ (by (with_reducible repeat (first | apply r1_ | apply r2_ | apply r3_)); exact HO158.out) (r4_ ho0) hb); have n1_ := am_ (Kd.N_elder' (by (with_reducible repeat (first | apply n1'_ | apply n2'_ | apply n3'_)); exact HO172.out) (r4_ ho0) hb); have n2_ := am_ (Kd.V_elder' (by (with_reducible repeat (first | apply v1_ | apply v2_ | apply v3_)); exact HL173_0.out) (r4_ ho0) hb); have n3_ := am_ (r5_ (by (with_reducible repeat (first | apply r1_ | apply r2_ | apply r3_)); exact HO177.out) (r4_ ho0) hb); have n4_ := am_ (r5_ (by (with_reducible repeat (first | apply r1_ | apply r2_ | apply r3_)); exact HO181.out) (r4_ ho0) hb); have n5_ := am_ (r5_ (by (with_reducible repeat (first | apply r1_ | apply r2_ | apply r3_)); exact HO185.out) (r4_ ho0) hb); have n6_ := am_ (Kd.R_lower (Kd.R_new' (Kd.R_new' (Kd.R_new' (Kd.R_new' ho0 (Kd.R_lt (by (with_reducible repeat (first | apply r1_ | apply r2_ | apply r3_)); exact HO158.out))) (Kd.R_lt (by (with_reducible repeat (first | apply r1_ | apply r2_ | apply r3_)); exact HO177.out))) (Kd.R_lt (by (with_reducible repeat (first | apply r1_ | apply r2_ | apply r3_)); exact HO181.out))) (Kd.R_lt (by (with_reducible repeat (first | apply r1_ | apply r2_ | apply r3_)); exact HO185.out))) (below_size (by repeat (with_reducible first | exact HB.out | apply p3_ | apply p1_ | apply p2_)))); have n7_ := am_ (Kd.C_below (by repeat (first | (with_reducible exact HR173_0.out) | (with_reducible refine Kd.C_alloc ?_ _) | (with_reducible refine Kd.C_drewN ?_ _) | (with_reducible refine Kd.C_drew ?_) | exact HR173_0.out)) hb); have n8_ := am_ (below_step (by repeat (with_reducible first | exact HB.out | apply p3_ | apply p1_ | apply p2_)) hb); clear HO158; clear HO172; clear HL173_0; clear HO177; clear HO181; clear HO185; clear HR173_0; clear HB; have HO158 := n0_; have HO172 := n1_; have HL173_0 := n2_; have HO177 := n3_; have HO181 := n4_; have HO185 := n5_; have HO189 := n6_; have HR173_0 := n7_; have HB := n8_; clear n0_ n1_ n2_ n3_ n4_ n5_ n6_ n7_ n8_; (try clear hb); (try clear ho0)) | ((with_reducible refine gate_callee (f := 20) rfl ?_); refine goesL_ (some 65) rfl rfl Try.func20 (by kernel_rfl) rfl #[.int .i64 t175] rfl (by (try simp only [List.map_toArray, List.map_cons, List.map_nil]); first | done | rfl | (simp only [List.length_drop, List.length_take]; rfl)) ?_; (with_reducible refine (pinfoldlaw0_Num.calls t175 t190 _ A13.out).mono ?_); rintro e w' ⟨rfl, ⟨nd, rfl⟩⟩; refine ⟨_, rfl, ?_⟩))
  go_ret
  exact ⟨by first | rfl | (simp [errW_none, errW_some] <;> rfl) | (simp only [← hji6]; first | rfl | (simp [errW_none, errW_some] <;> rfl)) | (simp [*, errW_none, errW_some] <;> rfl), by repeat (with_reducible first | exact HB.out | apply p3_ | apply p1_ | apply p2_)⟩
 replace c4 := Bool.eq_false_iff.mpr c4
 subst c4
 have H1 : (some false) = some r := by rw [if_neg (show ¬ (false = true) by decide)] at H; exact H
 clear H
 have H := H1
 clear H1
 obtain rfl := Option.some.inj H
 go_enter Try.func9, Try.ntmps9
 go_wp2_with (first | ((with_reducible refine gate_callee (f := 27) rfl ?_); refine goesL_ (some 16) rfl rfl Try.func27 (by kernel_rfl) rfl #[] rfl (by (try simp only [List.map_toArray, List.map_cons, List.map_nil]); first | done | rfl | (simp only [List.length_drop, List.length_take]; rfl)) ?_; (with_reducible refine (pinfoldlaw19_awake.calls k  false _ A3.out).mono ?_); rintro e w133 ⟨rfl, hb⟩; refine ⟨_, rfl, ?_⟩; have n0_ := am_ (below_step (by repeat (with_reducible first | exact HB.out | apply p3_ | apply p1_ | apply p2_)) hb); clear HB; have HB := n0_; clear n0_; (try clear hb)))
 go_ret
 exact ⟨by first | rfl | (simp [errW_none, errW_some] <;> rfl) | (simp [*, errW_none, errW_some] <;> rfl), by repeat (with_reducible first | exact HB.out | apply p3_ | apply p1_ | apply p2_)⟩

/-- THE ONE PURE STATEMENT of pinfoldlaw19_SweepForms. -/
def pinfoldlaw19_SweepForms.Pure : Prop := ∀ (a0 : Int) (a1 : Int), (Lit.int .i64 a0).wf = true → (Lit.int .i64 a1).wf = true → ∃ k, pinfoldlaw19_SweepForms.f k a0 a1 = some true
theorem pinfoldlaw19_SweepForms.walk (P : pinfoldlaw19_SweepForms.Pure) (a0 : Int) (a1 : Int) (w : World)  (w0 : (Lit.int .i64 a0).wf = true) (w1 : (Lit.int .i64 a1).wf = true) :
  Calls Try.prog 9 #[.int .i64 a0, .int .i64 a1] w fun e w' => e = .returned (.bool true) ∧ Below w.heap.size w w' := by
 obtain ⟨k, h⟩ := P a0 a1 w0 w1
 refine (pinfoldlaw19_SweepForms.calls k a0 a1 true w  h).mono ?_
 rintro e w' ⟨rfl, hd⟩
 exact ⟨rfl, hd⟩

end Go.Proofs.Ytpfanafggmkejaa.PSweepForms
