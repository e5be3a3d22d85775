-- Made by wip/pr.py out of the translation (a turned copy of the kit's print; contracts by hand where said).
import Derived.Test.YtibalpbkmgegnaaDoorPJx0
import Derived.Test.YtibalpbkmgegnaaDoorPJx11
namespace Go.Proofs.YtibalpbkmgegnaaDoor.PJ
open Go.RowKit Go.Proofs.YtibalpbkmgegnaaDoorW.PrintWords Go.Proofs.YtibalpbkmgegnaaDoorW.PrintLast Go.Proofs.YtibalpbkmgegnaaDoorW.PrintMore
-- shrunk
attribute [local go_sem] max2_int min2_int max_two min_two max_three min_three max_four min_four   -- for this text's walks alone
set_option linter.unusedVariables false
set_option linter.unusedSimpArgs false

/-! ### pinfoldlaw17_ClaimKinds: function 5 -/
def pinfoldlaw17_ClaimKinds.f (k : Nat) (a0 : Int) : Option (Bool) := (pinfoldlaw17_awake.f).bind fun t229 => (if t229 = true then ((pinfoldlaw17_given.f).bind fun bt230 => ((some (([(⟨10, 2, (⟨#[109, 101]⟩ : ByteArray), 50, (⟨#[112, 99]⟩ : ByteArray), true⟩ : S36), (⟨11, 1, (⟨#[121, 111, 117]⟩ : ByteArray), 50, (⟨#[]⟩ : ByteArray), false⟩ : S36), (⟨13, 0, (⟨#[118, 105, 112]⟩ : ByteArray), 2, (⟨#[]⟩ : ByteArray), false⟩ : S36)] : List (S36)) : List (S36))).bind fun y244 => ((some (([(⟨#[109, 101]⟩ : ByteArray), (⟨#[109, 101]⟩ : ByteArray), (⟨#[109, 101]⟩ : ByteArray), (⟨#[121, 111, 117]⟩ : ByteArray), (⟨#[121, 111, 117]⟩ : ByteArray), (⟨#[121, 111, 117]⟩ : ByteArray), (⟨#[118, 105, 112]⟩ : ByteArray), (⟨#[118, 105, 112]⟩ : ByteArray), (⟨#[110, 101, 119]⟩ : ByteArray), (⟨#[110, 101, 119]⟩ : ByteArray), (⟨#[110, 101, 119]⟩ : ByteArray), (⟨#[110, 101, 119]⟩ : ByteArray), (⟨#[109, 101]⟩ : ByteArray), (⟨#[109, 101]⟩ : ByteArray)] : List ByteArray) : List ByteArray)).bind fun y247 => ((some (([(⟨false, 0, 0, 10, (⟨#[]⟩ : ByteArray)⟩ : S29), (⟨false, 0, 10, 0, (⟨#[]⟩ : ByteArray)⟩ : S29), (⟨false, 0, 0, 11, (⟨#[]⟩ : ByteArray)⟩ : S29), (⟨true, 167772161, 11, 0, (⟨#[]⟩ : ByteArray)⟩ : S29), (⟨false, 0, 11, 0, (⟨#[]⟩ : ByteArray)⟩ : S29), (⟨true, 167772161, 10, 0, (⟨#[]⟩ : ByteArray)⟩ : S29), (⟨false, 0, 0, 13, (⟨#[]⟩ : ByteArray)⟩ : S29), (⟨true, 167772161, 13, 0, (⟨#[]⟩ : ByteArray)⟩ : S29), (⟨false, 0, 13, 0, (⟨#[]⟩ : ByteArray)⟩ : S29), (⟨false, 0, 12, 0, (⟨#[]⟩ : ByteArray)⟩ : S29), (⟨false, 0, 99, 0, (⟨#[]⟩ : ByteArray)⟩ : S29), (⟨false, 0, 0, 0, (⟨#[]⟩ : ByteArray)⟩ : S29), (⟨true, 7, 10, 0, (⟨#[]⟩ : ByteArray)⟩ : S29), (⟨true, 167772161, 0, 10, (⟨#[]⟩ : ByteArray)⟩ : S29)] : List (S29)) : List (S29))).bind fun y250 => ((some (([1, 1, 2, 1, 2, 2, 1, 2, 2, 2, 2, 0, 0, 2] : List Int) : List Int)).bind fun y253 => (if 0 ≤ (wrap64 (Int.tmod (IntKind.u64.wrap (a0)) 14)) then (if (wrap64 (Int.tmod (IntKind.u64.wrap (a0)) 14)) < (y247.length : Int) then (if (wrap64 (Int.tmod (IntKind.u64.wrap (a0)) 14)) < (y250.length : Int) then ((claim_Claim.f bt230.1 bt230.2.1 bt230.2.2.1 bt230.2.2.2.1 bt230.2.2.2.2.1 bt230.2.2.2.2.2.1 bt230.2.2.2.2.2.2 y244 10 (rdOf ByteArray.empty y247 (wrap64 (Int.tmod (IntKind.u64.wrap (a0)) 14))) ((rd_T29 y250 (wrap64 (Int.tmod (IntKind.u64.wrap (a0)) 14))).f0) ((rd_T29 y250 (wrap64 (Int.tmod (IntKind.u64.wrap (a0)) 14))).f1) ((rd_T29 y250 (wrap64 (Int.tmod (IntKind.u64.wrap (a0)) 14))).f2) ((rd_T29 y250 (wrap64 (Int.tmod (IntKind.u64.wrap (a0)) 14))).f3) ((rd_T29 y250 (wrap64 (Int.tmod (IntKind.u64.wrap (a0)) 14))).f4)).bind fun bt258 => (if bt258.2.1 = 1 then (if ((bt258.2.1 == 1) != (bt258.2.2.1 != 0)) = true then (none) else (if (wrap64 (Int.tmod (IntKind.u64.wrap (a0)) 14)) < (y253.length : Int) then (if bt258.2.1 = (rd y253 (wrap64 (Int.tmod (IntKind.u64.wrap (a0)) 14))) then ((pinfoldlaw0_Num.f bt258.2.2.2).bind fun t265 => (some (t265 == 0))) else (none)) else (none))) else ((pinfoldlaw0_SameLeases.f k bt258.1 y244).bind fun t266 => (if t266 = true then (if ((bt258.2.1 == 1) != (bt258.2.2.1 != 0)) = true then (none) else (if (wrap64 (Int.tmod (IntKind.u64.wrap (a0)) 14)) < (y253.length : Int) then (if bt258.2.1 = (rd y253 (wrap64 (Int.tmod (IntKind.u64.wrap (a0)) 14))) then ((pinfoldlaw0_Num.f bt258.2.2.2).bind fun t268 => (some (t268 == 0))) else (none)) else (none))) else (none))))) else (none)) else (none)) else (none))))))) else (none))
theorem pinfoldlaw17_ClaimKinds.mono : ∀ a0 k, LeO (pinfoldlaw17_ClaimKinds.f k a0) (pinfoldlaw17_ClaimKinds.f (k + 1) a0) := by
 intro a0 k
 unfold pinfoldlaw17_ClaimKinds.f
 repeat' first
   | (with_reducible exact pinfoldlaw0_SameLeases.mono _ _ _)
   | (with_reducible exact LeO.refl _)
   | (with_reducible exact LeO.none _)
   | (with_reducible refine LeO.ite ?_ ?_)
   | (with_reducible refine LeO.bind ?_ (fun _ => ?_))
   | exact pinfoldlaw0_SameLeases.mono _ _ _
   | exact LeO.none _
   | refine LeO.ite ?_ ?_
   | refine LeO.bind ?_ (fun _ => ?_)
def pinfoldlaw17_ClaimKinds.T9 : Bool × List (List Nat × List Nat) := (true, [([], []), ([], []), ([], []), ([], []), ([2, 3], [2, 3]), ([4], [4]), ([], []), ([], []), ([6, 7], [6, 7]), ([8], [8]), ([0, 1, 5, 9], [0, 1, 5, 9]), ([10], [10]), ([11], [11]), ([11], [11]), ([11], [11]), ([11], [11]), ([12, 10, 0, 1, 2, 3, 4, 5, 6, 7, 8, 9, 10, 11, 12], [12]), ([13, 16, 0, 1, 2, 3, 4, 5, 6, 7, 8, 9, 10, 11, 12, 13, 16], [13]), ([14, 17, 0, 1, 2, 3, 4, 5, 6, 7, 8, 9, 10, 11, 12, 13, 14, 16, 17], [14]), ([15, 18, 0, 1, 2, 3, 4, 5, 6, 7, 8, 9, 10, 11, 12, 13, 14, 15, 16, 17, 18], [15])])
def pinfoldlaw17_ClaimKinds.B9 : List Nat := [0, 0, 0, 0, 12, 28, 0, 0, 192, 448, 1023, 2047, 4095, 4095, 4095, 4095, 8191, 81919, 229375, 524287]
theorem pinfoldlaw17_ClaimKinds.tab9 : rtab .any (opsOf Tryd.f5 9) = pinfoldlaw17_ClaimKinds.T9 := by kernel_rfl
theorem pinfoldlaw17_ClaimKinds.bits9 : waitsOk pinfoldlaw17_ClaimKinds.T9.2 pinfoldlaw17_ClaimKinds.B9 = true := by kernel_rfl
set_option maxHeartbeats 8000000 in
set_option maxRecDepth 100000 in
theorem pinfoldlaw17_ClaimKinds.calls (k : Nat) (a0 : Int) (r : Bool) (w : World) (h : pinfoldlaw17_ClaimKinds.f k a0 = some r) :
  Calls Tryd.prog 5 #[.int .i64 a0] w fun e w' => e = .returned (.bool r) ∧ Below w.heap.size w w' := by
 have hu26 := Tryd.underlying26
 have hu36 := Tryd.underlying36
 have hu29 := Tryd.underlying29
 have HB := am_ (Below.refl w.heap.size w)
 have H : ((pinfoldlaw17_awake.f).bind fun t229 => (if t229 = true then ((pinfoldlaw17_given.f).bind fun bt230 => ((some (([(⟨10, 2, (⟨#[109, 101]⟩ : ByteArray), 50, (⟨#[112, 99]⟩ : ByteArray), true⟩ : S36), (⟨11, 1, (⟨#[121, 111, 117]⟩ : ByteArray), 50, (⟨#[]⟩ : ByteArray), false⟩ : S36), (⟨13, 0, (⟨#[118, 105, 112]⟩ : ByteArray), 2, (⟨#[]⟩ : ByteArray), false⟩ : S36)] : List (S36)) : List (S36))).bind fun y244 => ((some (([(⟨#[109, 101]⟩ : ByteArray), (⟨#[109, 101]⟩ : ByteArray), (⟨#[109, 101]⟩ : ByteArray), (⟨#[121, 111, 117]⟩ : ByteArray), (⟨#[121, 111, 117]⟩ : ByteArray), (⟨#[121, 111, 117]⟩ : ByteArray), (⟨#[118, 105, 112]⟩ : ByteArray), (⟨#[118, 105, 112]⟩ : ByteArray), (⟨#[110, 101, 119]⟩ : ByteArray), (⟨#[110, 101, 119]⟩ : ByteArray), (⟨#[110, 101, 119]⟩ : ByteArray), (⟨#[110, 101, 119]⟩ : ByteArray), (⟨#[109, 101]⟩ : ByteArray), (⟨#[109, 101]⟩ : ByteArray)] : List ByteArray) : List ByteArray)).bind fun y247 => ((some (([(⟨false, 0, 0, 10, (⟨#[]⟩ : ByteArray)⟩ : S29), (⟨false, 0, 10, 0, (⟨#[]⟩ : ByteArray)⟩ : S29), (⟨false, 0, 0, 11, (⟨#[]⟩ : ByteArray)⟩ : S29), (⟨true, 167772161, 11, 0, (⟨#[]⟩ : ByteArray)⟩ : S29), (⟨false, 0, 11, 0, (⟨#[]⟩ : ByteArray)⟩ : S29), (⟨true, 167772161, 10, 0, (⟨#[]⟩ : ByteArray)⟩ : S29), (⟨false, 0, 0, 13, (⟨#[]⟩ : ByteArray)⟩ : S29), (⟨true, 167772161, 13, 0, (⟨#[]⟩ : ByteArray)⟩ : S29), (⟨false, 0, 13, 0, (⟨#[]⟩ : ByteArray)⟩ : S29), (⟨false, 0, 12, 0, (⟨#[]⟩ : ByteArray)⟩ : S29), (⟨false, 0, 99, 0, (⟨#[]⟩ : ByteArray)⟩ : S29), (⟨false, 0, 0, 0, (⟨#[]⟩ : ByteArray)⟩ : S29), (⟨true, 7, 10, 0, (⟨#[]⟩ : ByteArray)⟩ : S29), (⟨true, 167772161, 0, 10, (⟨#[]⟩ : ByteArray)⟩ : S29)] : List (S29)) : List (S29))).bind fun y250 => ((some (([1, 1, 2, 1, 2, 2, 1, 2, 2, 2, 2, 0, 0, 2] : List Int) : List Int)).bind fun y253 => (if 0 ≤ (wrap64 (Int.tmod (IntKind.u64.wrap (a0)) 14)) then (if (wrap64 (Int.tmod (IntKind.u64.wrap (a0)) 14)) < (y247.length : Int) then (if (wrap64 (Int.tmod (IntKind.u64.wrap (a0)) 14)) < (y250.length : Int) then ((claim_Claim.f bt230.1 bt230.2.1 bt230.2.2.1 bt230.2.2.2.1 bt230.2.2.2.2.1 bt230.2.2.2.2.2.1 bt230.2.2.2.2.2.2 y244 10 (rdOf ByteArray.empty y247 (wrap64 (Int.tmod (IntKind.u64.wrap (a0)) 14))) ((rd_T29 y250 (wrap64 (Int.tmod (IntKind.u64.wrap (a0)) 14))).f0) ((rd_T29 y250 (wrap64 (Int.tmod (IntKind.u64.wrap (a0)) 14))).f1) ((rd_T29 y250 (wrap64 (Int.tmod (IntKind.u64.wrap (a0)) 14))).f2) ((rd_T29 y250 (wrap64 (Int.tmod (IntKind.u64.wrap (a0)) 14))).f3) ((rd_T29 y250 (wrap64 (Int.tmod (IntKind.u64.wrap (a0)) 14))).f4)).bind fun bt258 => (if bt258.2.1 = 1 then (if ((bt258.2.1 == 1) != (bt258.2.2.1 != 0)) = true then (none) else (if (wrap64 (Int.tmod (IntKind.u64.wrap (a0)) 14)) < (y253.length : Int) then (if bt258.2.1 = (rd y253 (wrap64 (Int.tmod (IntKind.u64.wrap (a0)) 14))) then ((pinfoldlaw0_Num.f bt258.2.2.2).bind fun t265 => (some (t265 == 0))) else (none)) else (none))) else ((pinfoldlaw0_SameLeases.f k bt258.1 y244).bind fun t266 => (if t266 = true then (if ((bt258.2.1 == 1) != (bt258.2.2.1 != 0)) = true then (none) else (if (wrap64 (Int.tmod (IntKind.u64.wrap (a0)) 14)) < (y253.length : Int) then (if bt258.2.1 = (rd y253 (wrap64 (Int.tmod (IntKind.u64.wrap (a0)) 14))) then ((pinfoldlaw0_Num.f bt258.2.2.2).bind fun t268 => (some (t268 == 0))) else (none)) else (none))) else (none))))) else (none)) else (none)) else (none))))))) else (none))) = some r := h
 clear h
 replace H := e4_ H
 obtain ⟨t229, A20, H⟩ := H
 replace H : (if t229 = true then ((pinfoldlaw17_given.f).bind fun bt230 => ((some (([(⟨10, 2, (⟨#[109, 101]⟩ : ByteArray), 50, (⟨#[112, 99]⟩ : ByteArray), true⟩ : S36), (⟨11, 1, (⟨#[121, 111, 117]⟩ : ByteArray), 50, (⟨#[]⟩ : ByteArray), false⟩ : S36), (⟨13, 0, (⟨#[118, 105, 112]⟩ : ByteArray), 2, (⟨#[]⟩ : ByteArray), false⟩ : S36)] : List (S36)) : List (S36))).bind fun y244 => ((some (([(⟨#[109, 101]⟩ : ByteArray), (⟨#[109, 101]⟩ : ByteArray), (⟨#[109, 101]⟩ : ByteArray), (⟨#[121, 111, 117]⟩ : ByteArray), (⟨#[121, 111, 117]⟩ : ByteArray), (⟨#[121, 111, 117]⟩ : ByteArray), (⟨#[118, 105, 112]⟩ : ByteArray), (⟨#[118, 105, 112]⟩ : ByteArray), (⟨#[110, 101, 119]⟩ : ByteArray), (⟨#[110, 101, 119]⟩ : ByteArray), (⟨#[110, 101, 119]⟩ : ByteArray), (⟨#[110, 101, 119]⟩ : ByteArray), (⟨#[109, 101]⟩ : ByteArray), (⟨#[109, 101]⟩ : ByteArray)] : List ByteArray) : List ByteArray)).bind fun y247 => ((some (([(⟨false, 0, 0, 10, (⟨#[]⟩ : ByteArray)⟩ : S29), (⟨false, 0, 10, 0, (⟨#[]⟩ : ByteArray)⟩ : S29), (⟨false, 0, 0, 11, (⟨#[]⟩ : ByteArray)⟩ : S29), (⟨true, 167772161, 11, 0, (⟨#[]⟩ : ByteArray)⟩ : S29), (⟨false, 0, 11, 0, (⟨#[]⟩ : ByteArray)⟩ : S29), (⟨true, 167772161, 10, 0, (⟨#[]⟩ : ByteArray)⟩ : S29), (⟨false, 0, 0, 13, (⟨#[]⟩ : ByteArray)⟩ : S29), (⟨true, 167772161, 13, 0, (⟨#[]⟩ : ByteArray)⟩ : S29), (⟨false, 0, 13, 0, (⟨#[]⟩ : ByteArray)⟩ : S29), (⟨false, 0, 12, 0, (⟨#[]⟩ : ByteArray)⟩ : S29), (⟨false, 0, 99, 0, (⟨#[]⟩ : ByteArray)⟩ : S29), (⟨false, 0, 0, 0, (⟨#[]⟩ : ByteArray)⟩ : S29), (⟨true, 7, 10, 0, (⟨#[]⟩ : ByteArray)⟩ : S29), (⟨true, 167772161, 0, 10, (⟨#[]⟩ : ByteArray)⟩ : S29)] : List (S29)) : List (S29))).bind fun y250 => ((some (([1, 1, 2, 1, 2, 2, 1, 2, 2, 2, 2, 0, 0, 2] : List Int) : List Int)).bind fun y253 => (if 0 ≤ (wrap64 (Int.tmod (IntKind.u64.wrap (a0)) 14)) then (if (wrap64 (Int.tmod (IntKind.u64.wrap (a0)) 14)) < (y247.length : Int) then (if (wrap64 (Int.tmod (IntKind.u64.wrap (a0)) 14)) < (y250.length : Int) then ((claim_Claim.f bt230.1 bt230.2.1 bt230.2.2.1 bt230.2.2.2.1 bt230.2.2.2.2.1 bt230.2.2.2.2.2.1 bt230.2.2.2.2.2.2 y244 10 (rdOf ByteArray.empty y247 (wrap64 (Int.tmod (IntKind.u64.wrap (a0)) 14))) ((rd_T29 y250 (wrap64 (Int.tmod (IntKind.u64.wrap (a0)) 14))).f0) ((rd_T29 y250 (wrap64 (Int.tmod (IntKind.u64.wrap (a0)) 14))).f1) ((rd_T29 y250 (wrap64 (Int.tmod (IntKind.u64.wrap (a0)) 14))).f2) ((rd_T29 y250 (wrap64 (Int.tmod (IntKind.u64.wrap (a0)) 14))).f3) ((rd_T29 y250 (wrap64 (Int.tmod (IntKind.u64.wrap (a0)) 14))).f4)).bind fun bt258 => (if bt258.2.1 = 1 then (if ((bt258.2.1 == 1) != (bt258.2.2.1 != 0)) = true then (none) else (if (wrap64 (Int.tmod (IntKind.u64.wrap (a0)) 14)) < (y253.length : Int) then (if bt258.2.1 = (rd y253 (wrap64 (Int.tmod (IntKind.u64.wrap (a0)) 14))) then ((pinfoldlaw0_Num.f bt258.2.2.2).bind fun t265 => (some (t265 == 0))) else (none)) else (none))) else ((pinfoldlaw0_SameLeases.f k bt258.1 y244).bind fun t266 => (if t266 = true then (if ((bt258.2.1 == 1) != (bt258.2.2.1 != 0)) = true then (none) else (if (wrap64 (Int.tmod (IntKind.u64.wrap (a0)) 14)) < (y253.length : Int) then (if bt258.2.1 = (rd y253 (wrap64 (Int.tmod (IntKind.u64.wrap (a0)) 14))) then ((pinfoldlaw0_Num.f bt258.2.2.2).bind fun t268 => (some (t268 == 0))) else (none)) else (none))) else (none))))) else (none)) else (none)) else (none))))))) else (none)) = some r := H
 have A2 := am_ A20
 clear A20
 by_cases c3 : t229 = true
 ·subst c3
  have H1 : ((pinfoldlaw17_given.f).bind fun bt230 => ((some (([(⟨10, 2, (⟨#[109, 101]⟩ : ByteArray), 50, (⟨#[112, 99]⟩ : ByteArray), true⟩ : S36), (⟨11, 1, (⟨#[121, 111, 117]⟩ : ByteArray), 50, (⟨#[]⟩ : ByteArray), false⟩ : S36), (⟨13, 0, (⟨#[118, 105, 112]⟩ : ByteArray), 2, (⟨#[]⟩ : ByteArray), false⟩ : S36)] : List (S36)) : List (S36))).bind fun y244 => ((some (([(⟨#[109, 101]⟩ : ByteArray), (⟨#[109, 101]⟩ : ByteArray), (⟨#[109, 101]⟩ : ByteArray), (⟨#[121, 111, 117]⟩ : ByteArray), (⟨#[121, 111, 117]⟩ : ByteArray), (⟨#[121, 111, 117]⟩ : ByteArray), (⟨#[118, 105, 112]⟩ : ByteArray), (⟨#[118, 105, 112]⟩ : ByteArray), (⟨#[110, 101, 119]⟩ : ByteArray), (⟨#[110, 101, 119]⟩ : ByteArray), (⟨#[110, 101, 119]⟩ : ByteArray), (⟨#[110, 101, 119]⟩ : ByteArray), (⟨#[109, 101]⟩ : ByteArray), (⟨#[109, 101]⟩ : ByteArray)] : List ByteArray) : List ByteArray)).bind fun y247 => ((some (([(⟨false, 0, 0, 10, (⟨#[]⟩ : ByteArray)⟩ : S29), (⟨false, 0, 10, 0, (⟨#[]⟩ : ByteArray)⟩ : S29), (⟨false, 0, 0, 11, (⟨#[]⟩ : ByteArray)⟩ : S29), (⟨true, 167772161, 11, 0, (⟨#[]⟩ : ByteArray)⟩ : S29), (⟨false, 0, 11, 0, (⟨#[]⟩ : ByteArray)⟩ : S29), (⟨true, 167772161, 10, 0, (⟨#[]⟩ : ByteArray)⟩ : S29), (⟨false, 0, 0, 13, (⟨#[]⟩ : ByteArray)⟩ : S29), (⟨true, 167772161, 13, 0, (⟨#[]⟩ : ByteArray)⟩ : S29), (⟨false, 0, 13, 0, (⟨#[]⟩ : ByteArray)⟩ : S29), (⟨false, 0, 12, 0, (⟨#[]⟩ : ByteArray)⟩ : S29), (⟨false, 0, 99, 0, (⟨#[]⟩ : ByteArray)⟩ : S29), (⟨false, 0, 0, 0, (⟨#[]⟩ : ByteArray)⟩ : S29), (⟨true, 7, 10, 0, (⟨#[]⟩ : ByteArray)⟩ : S29), (⟨true, 167772161, 0, 10, (⟨#[]⟩ : ByteArray)⟩ : S29)] : List (S29)) : List (S29))).bind fun y250 => ((some (([1, 1, 2, 1, 2, 2, 1, 2, 2, 2, 2, 0, 0, 2] : List Int) : List Int)).bind fun y253 => (if 0 ≤ (wrap64 (Int.tmod (IntKind.u64.wrap (a0)) 14)) then (if (wrap64 (Int.tmod (IntKind.u64.wrap (a0)) 14)) < (y247.length : Int) then (if (wrap64 (Int.tmod (IntKind.u64.wrap (a0)) 14)) < (y250.length : Int) then ((claim_Claim.f bt230.1 bt230.2.1 bt230.2.2.1 bt230.2.2.2.1 bt230.2.2.2.2.1 bt230.2.2.2.2.2.1 bt230.2.2.2.2.2.2 y244 10 (rdOf ByteArray.empty y247 (wrap64 (Int.tmod (IntKind.u64.wrap (a0)) 14))) ((rd_T29 y250 (wrap64 (Int.tmod (IntKind.u64.wrap (a0)) 14))).f0) ((rd_T29 y250 (wrap64 (Int.tmod (IntKind.u64.wrap (a0)) 14))).f1) ((rd_T29 y250 (wrap64 (Int.tmod (IntKind.u64.wrap (a0)) 14))).f2) ((rd_T29 y250 (wrap64 (Int.tmod (IntKind.u64.wrap (a0)) 14))).f3) ((rd_T29 y250 (wrap64 (Int.tmod (IntKind.u64.wrap (a0)) 14))).f4)).bind fun bt258 => (if bt258.2.1 = 1 then (if ((bt258.2.1 == 1) != (bt258.2.2.1 != 0)) = true then (none) else (if (wrap64 (Int.tmod (IntKind.u64.wrap (a0)) 14)) < (y253.length : Int) then (if bt258.2.1 = (rd y253 (wrap64 (Int.tmod (IntKind.u64.wrap (a0)) 14))) then ((pinfoldlaw0_Num.f bt258.2.2.2).bind fun t265 => (some (t265 == 0))) else (none)) else (none))) else ((pinfoldlaw0_SameLeases.f k bt258.1 y244).bind fun t266 => (if t266 = true then (if ((bt258.2.1 == 1) != (bt258.2.2.1 != 0)) = true then (none) else (if (wrap64 (Int.tmod (IntKind.u64.wrap (a0)) 14)) < (y253.length : Int) then (if bt258.2.1 = (rd y253 (wrap64 (Int.tmod (IntKind.u64.wrap (a0)) 14))) then ((pinfoldlaw0_Num.f bt258.2.2.2).bind fun t268 => (some (t268 == 0))) else (none)) else (none))) else (none))))) else (none)) else (none)) else (none))))))) = some r := by rw [if_pos rfl] at H; exact H
  clear H
  have H := H1
  clear H1
  replace H := e4_ H
  obtain ⟨⟨t230, t231, t232, t235, t238, t239, t240⟩, A40, H⟩ := H
  replace H : ((some (([(⟨10, 2, (⟨#[109, 101]⟩ : ByteArray), 50, (⟨#[112, 99]⟩ : ByteArray), true⟩ : S36), (⟨11, 1, (⟨#[121, 111, 117]⟩ : ByteArray), 50, (⟨#[]⟩ : ByteArray), false⟩ : S36), (⟨13, 0, (⟨#[118, 105, 112]⟩ : ByteArray), 2, (⟨#[]⟩ : ByteArray), false⟩ : S36)] : List (S36)) : List (S36))).bind fun y244 => ((some (([(⟨#[109, 101]⟩ : ByteArray), (⟨#[109, 101]⟩ : ByteArray), (⟨#[109, 101]⟩ : ByteArray), (⟨#[121, 111, 117]⟩ : ByteArray), (⟨#[121, 111, 117]⟩ : ByteArray), (⟨#[121, 111, 117]⟩ : ByteArray), (⟨#[118, 105, 112]⟩ : ByteArray), (⟨#[118, 105, 112]⟩ : ByteArray), (⟨#[110, 101, 119]⟩ : ByteArray), (⟨#[110, 101, 119]⟩ : ByteArray), (⟨#[110, 101, 119]⟩ : ByteArray), (⟨#[110, 101, 119]⟩ : ByteArray), (⟨#[109, 101]⟩ : ByteArray), (⟨#[109, 101]⟩ : ByteArray)] : List ByteArray) : List ByteArray)).bind fun y247 => ((some (([(⟨false, 0, 0, 10, (⟨#[]⟩ : ByteArray)⟩ : S29), (⟨false, 0, 10, 0, (⟨#[]⟩ : ByteArray)⟩ : S29), (⟨false, 0, 0, 11, (⟨#[]⟩ : ByteArray)⟩ : S29), (⟨true, 167772161, 11, 0, (⟨#[]⟩ : ByteArray)⟩ : S29), (⟨false, 0, 11, 0, (⟨#[]⟩ : ByteArray)⟩ : S29), (⟨true, 167772161, 10, 0, (⟨#[]⟩ : ByteArray)⟩ : S29), (⟨false, 0, 0, 13, (⟨#[]⟩ : ByteArray)⟩ : S29), (⟨true, 167772161, 13, 0, (⟨#[]⟩ : ByteArray)⟩ : S29), (⟨false, 0, 13, 0, (⟨#[]⟩ : ByteArray)⟩ : S29), (⟨false, 0, 12, 0, (⟨#[]⟩ : ByteArray)⟩ : S29), (⟨false, 0, 99, 0, (⟨#[]⟩ : ByteArray)⟩ : S29), (⟨false, 0, 0, 0, (⟨#[]⟩ : ByteArray)⟩ : S29), (⟨true, 7, 10, 0, (⟨#[]⟩ : ByteArray)⟩ : S29), (⟨true, 167772161, 0, 10, (⟨#[]⟩ : ByteArray)⟩ : S29)] : List (S29)) : List (S29))).bind fun y250 => ((some (([1, 1, 2, 1, 2, 2, 1, 2, 2, 2, 2, 0, 0, 2] : List Int) : List Int)).bind fun y253 => (if 0 ≤ (wrap64 (Int.tmod (IntKind.u64.wrap (a0)) 14)) then (if (wrap64 (Int.tmod (IntKind.u64.wrap (a0)) 14)) < (y247.length : Int) then (if (wrap64 (Int.tmod (IntKind.u64.wrap (a0)) 14)) < (y250.length : Int) then ((claim_Claim.f t230 t231 t232 t235 t238 t239 t240 y244 10 (rdOf ByteArray.empty y247 (wrap64 (Int.tmod (IntKind.u64.wrap (a0)) 14))) ((rd_T29 y250 (wrap64 (Int.tmod (IntKind.u64.wrap (a0)) 14))).f0) ((rd_T29 y250 (wrap64 (Int.tmod (IntKind.u64.wrap (a0)) 14))).f1) ((rd_T29 y250 (wrap64 (Int.tmod (IntKind.u64.wrap (a0)) 14))).f2) ((rd_T29 y250 (wrap64 (Int.tmod (IntKind.u64.wrap (a0)) 14))).f3) ((rd_T29 y250 (wrap64 (Int.tmod (IntKind.u64.wrap (a0)) 14))).f4)).bind fun bt258 => (if bt258.2.1 = 1 then (if ((bt258.2.1 == 1) != (bt258.2.2.1 != 0)) = true then (none) else (if (wrap64 (Int.tmod (IntKind.u64.wrap (a0)) 14)) < (y253.length : Int) then (if bt258.2.1 = (rd y253 (wrap64 (Int.tmod (IntKind.u64.wrap (a0)) 14))) then ((pinfoldlaw0_Num.f bt258.2.2.2).bind fun t265 => (some (t265 == 0))) else (none)) else (none))) else ((pinfoldlaw0_SameLeases.f k bt258.1 y244).bind fun t266 => (if t266 = true then (if ((bt258.2.1 == 1) != (bt258.2.2.1 != 0)) = true then (none) else (if (wrap64 (Int.tmod (IntKind.u64.wrap (a0)) 14)) < (y253.length : Int) then (if bt258.2.1 = (rd y253 (wrap64 (Int.tmod (IntKind.u64.wrap (a0)) 14))) then ((pinfoldlaw0_Num.f bt258.2.2.2).bind fun t268 => (some (t268 == 0))) else (none)) else (none))) else (none))))) else (none)) else (none)) else (none)))))) = some r := H
  have A4 := am_ A40
  clear A40
  obtain ⟨y244, hy244⟩ : ∃ y_ : List (S36), y_ = (([(⟨10, 2, (⟨#[109, 101]⟩ : ByteArray), 50, (⟨#[112, 99]⟩ : ByteArray), true⟩ : S36), (⟨11, 1, (⟨#[121, 111, 117]⟩ : ByteArray), 50, (⟨#[]⟩ : ByteArray), false⟩ : S36), (⟨13, 0, (⟨#[118, 105, 112]⟩ : ByteArray), 2, (⟨#[]⟩ : ByteArray), false⟩ : S36)] : List (S36))) := ⟨_, rfl⟩
  replace H : ((some (([(⟨#[109, 101]⟩ : ByteArray), (⟨#[109, 101]⟩ : ByteArray), (⟨#[109, 101]⟩ : ByteArray), (⟨#[121, 111, 117]⟩ : ByteArray), (⟨#[121, 111, 117]⟩ : ByteArray), (⟨#[121, 111, 117]⟩ : ByteArray), (⟨#[118, 105, 112]⟩ : ByteArray), (⟨#[118, 105, 112]⟩ : ByteArray), (⟨#[110, 101, 119]⟩ : ByteArray), (⟨#[110, 101, 119]⟩ : ByteArray), (⟨#[110, 101, 119]⟩ : ByteArray), (⟨#[110, 101, 119]⟩ : ByteArray), (⟨#[109, 101]⟩ : ByteArray), (⟨#[109, 101]⟩ : ByteArray)] : List ByteArray) : List ByteArray)).bind fun y247 => ((some (([(⟨false, 0, 0, 10, (⟨#[]⟩ : ByteArray)⟩ : S29), (⟨false, 0, 10, 0, (⟨#[]⟩ : ByteArray)⟩ : S29), (⟨false, 0, 0, 11, (⟨#[]⟩ : ByteArray)⟩ : S29), (⟨true, 167772161, 11, 0, (⟨#[]⟩ : ByteArray)⟩ : S29), (⟨false, 0, 11, 0, (⟨#[]⟩ : ByteArray)⟩ : S29), (⟨true, 167772161, 10, 0, (⟨#[]⟩ : ByteArray)⟩ : S29), (⟨false, 0, 0, 13, (⟨#[]⟩ : ByteArray)⟩ : S29), (⟨true, 167772161, 13, 0, (⟨#[]⟩ : ByteArray)⟩ : S29), (⟨false, 0, 13, 0, (⟨#[]⟩ : ByteArray)⟩ : S29), (⟨false, 0, 12, 0, (⟨#[]⟩ : ByteArray)⟩ : S29), (⟨false, 0, 99, 0, (⟨#[]⟩ : ByteArray)⟩ : S29), (⟨false, 0, 0, 0, (⟨#[]⟩ : ByteArray)⟩ : S29), (⟨true, 7, 10, 0, (⟨#[]⟩ : ByteArray)⟩ : S29), (⟨true, 167772161, 0, 10, (⟨#[]⟩ : ByteArray)⟩ : S29)] : List (S29)) : List (S29))).bind fun y250 => ((some (([1, 1, 2, 1, 2, 2, 1, 2, 2, 2, 2, 0, 0, 2] : List Int) : List Int)).bind fun y253 => (if 0 ≤ (wrap64 (Int.tmod (IntKind.u64.wrap (a0)) 14)) then (if (wrap64 (Int.tmod (IntKind.u64.wrap (a0)) 14)) < (y247.length : Int) then (if (wrap64 (Int.tmod (IntKind.u64.wrap (a0)) 14)) < (y250.length : Int) then ((claim_Claim.f t230 t231 t232 t235 t238 t239 t240 y244 10 (rdOf ByteArray.empty y247 (wrap64 (Int.tmod (IntKind.u64.wrap (a0)) 14))) ((rd_T29 y250 (wrap64 (Int.tmod (IntKind.u64.wrap (a0)) 14))).f0) ((rd_T29 y250 (wrap64 (Int.tmod (IntKind.u64.wrap (a0)) 14))).f1) ((rd_T29 y250 (wrap64 (Int.tmod (IntKind.u64.wrap (a0)) 14))).f2) ((rd_T29 y250 (wrap64 (Int.tmod (IntKind.u64.wrap (a0)) 14))).f3) ((rd_T29 y250 (wrap64 (Int.tmod (IntKind.u64.wrap (a0)) 14))).f4)).bind fun bt258 => (if bt258.2.1 = 1 then (if ((bt258.2.1 == 1) != (bt258.2.2.1 != 0)) = true then (none) else (if (wrap64 (Int.tmod (IntKind.u64.wrap (a0)) 14)) < (y253.length : Int) then (if bt258.2.1 = (rd y253 (wrap64 (Int.tmod (IntKind.u64.wrap (a0)) 14))) then ((pinfoldlaw0_Num.f bt258.2.2.2).bind fun t265 => (some (t265 == 0))) else (none)) else (none))) else ((pinfoldlaw0_SameLeases.f k bt258.1 y244).bind fun t266 => (if t266 = true then (if ((bt258.2.1 == 1) != (bt258.2.2.1 != 0)) = true then (none) else (if (wrap64 (Int.tmod (IntKind.u64.wrap (a0)) 14)) < (y253.length : Int) then (if bt258.2.1 = (rd y253 (wrap64 (Int.tmod (IntKind.u64.wrap (a0)) 14))) then ((pinfoldlaw0_Num.f bt258.2.2.2).bind fun t268 => (some (t268 == 0))) else (none)) else (none))) else (none))))) else (none)) else (none)) else (none))))) = some r := by first | (rw [hy244]; with_reducible exact H) | (have H2_ := (Option.bind_some _ _).symm.trans H; rw [hy244]; with_reducible exact H2_) | (have H2_ := (Option.bind_some _ _).symm.trans H; with_reducible exact H2_) | with_reducible exact H | (rw [hy244]; exact H) | exact H
  have Ny244 := am_ hy244
  clear hy244
  obtain ⟨y247, hy247⟩ : ∃ y_ : List ByteArray, y_ = (([(⟨#[109, 101]⟩ : ByteArray), (⟨#[109, 101]⟩ : ByteArray), (⟨#[109, 101]⟩ : ByteArray), (⟨#[121, 111, 117]⟩ : ByteArray), (⟨#[121, 111, 117]⟩ : ByteArray), (⟨#[121, 111, 117]⟩ : ByteArray), (⟨#[118, 105, 112]⟩ : ByteArray), (⟨#[118, 105, 112]⟩ : ByteArray), (⟨#[110, 101, 119]⟩ : ByteArray), (⟨#[110, 101, 119]⟩ : ByteArray), (⟨#[110, 101, 119]⟩ : ByteArray), (⟨#[110, 101, 119]⟩ : ByteArray), (⟨#[109, 101]⟩ : ByteArray), (⟨#[109, 101]⟩ : ByteArray)] : List ByteArray)) := ⟨_, rfl⟩
  replace H : ((some (([(⟨false, 0, 0, 10, (⟨#[]⟩ : ByteArray)⟩ : S29), (⟨false, 0, 10, 0, (⟨#[]⟩ : ByteArray)⟩ : S29), (⟨false, 0, 0, 11, (⟨#[]⟩ : ByteArray)⟩ : S29), (⟨true, 167772161, 11, 0, (⟨#[]⟩ : ByteArray)⟩ : S29), (⟨false, 0, 11, 0, (⟨#[]⟩ : ByteArray)⟩ : S29), (⟨true, 167772161, 10, 0, (⟨#[]⟩ : ByteArray)⟩ : S29), (⟨false, 0, 0, 13, (⟨#[]⟩ : ByteArray)⟩ : S29), (⟨true, 167772161, 13, 0, (⟨#[]⟩ : ByteArray)⟩ : S29), (⟨false, 0, 13, 0, (⟨#[]⟩ : ByteArray)⟩ : S29), (⟨false, 0, 12, 0, (⟨#[]⟩ : ByteArray)⟩ : S29), (⟨false, 0, 99, 0, (⟨#[]⟩ : ByteArray)⟩ : S29), (⟨false, 0, 0, 0, (⟨#[]⟩ : ByteArray)⟩ : S29), (⟨true, 7, 10, 0, (⟨#[]⟩ : ByteArray)⟩ : S29), (⟨true, 167772161, 0, 10, (⟨#[]⟩ : ByteArray)⟩ : S29)] : List (S29)) : List (S29))).bind fun y250 => ((some (([1, 1, 2, 1, 2, 2, 1, 2, 2, 2, 2, 0, 0, 2] : List Int) : List Int)).bind fun y253 => (if 0 ≤ (wrap64 (Int.tmod (IntKind.u64.wrap (a0)) 14)) then (if (wrap64 (Int.tmod (IntKind.u64.wrap (a0)) 14)) < (y247.length : Int) then (if (wrap64 (Int.tmod (IntKind.u64.wrap (a0)) 14)) < (y250.length : Int) then ((claim_Claim.f t230 t231 t232 t235 t238 t239 t240 y244 10 (rdOf ByteArray.empty y247 (wrap64 (Int.tmod (IntKind.u64.wrap (a0)) 14))) ((rd_T29 y250 (wrap64 (Int.tmod (IntKind.u64.wrap (a0)) 14))).f0) ((rd_T29 y250 (wrap64 (Int.tmod (IntKind.u64.wrap (a0)) 14))).f1) ((rd_T29 y250 (wrap64 (Int.tmod (IntKind.u64.wrap (a0)) 14))).f2) ((rd_T29 y250 (wrap64 (Int.tmod (IntKind.u64.wrap (a0)) 14))).f3) ((rd_T29 y250 (wrap64 (Int.tmod (IntKind.u64.wrap (a0)) 14))).f4)).bind fun bt258 => (if bt258.2.1 = 1 then (if ((bt258.2.1 == 1) != (bt258.2.2.1 != 0)) = true then (none) else (if (wrap64 (Int.tmod (IntKind.u64.wrap (a0)) 14)) < (y253.length : Int) then (if bt258.2.1 = (rd y253 (wrap64 (Int.tmod (IntKind.u64.wrap (a0)) 14))) then ((pinfoldlaw0_Num.f bt258.2.2.2).bind fun t265 => (some (t265 == 0))) else (none)) else (none))) else ((pinfoldlaw0_SameLeases.f k bt258.1 y244).bind fun t266 => (if t266 = true then (if ((bt258.2.1 == 1) != (bt258.2.2.1 != 0)) = true then (none) else (if (wrap64 (Int.tmod (IntKind.u64.wrap (a0)) 14)) < (y253.length : Int) then (if bt258.2.1 = (rd y253 (wrap64 (Int.tmod (IntKind.u64.wrap (a0)) 14))) then ((pinfoldlaw0_Num.f bt258.2.2.2).bind fun t268 => (some (t268 == 0))) else (none)) else (none))) else (none))))) else (none)) else (none)) else (none)))) = some r := by first | (rw [hy247]; with_reducible exact H) | (have H2_ := (Option.bind_some _ _).symm.trans H; rw [hy247]; with_reducible exact H2_) | (have H2_ := (Option.bind_some _ _).symm.trans H; with_reducible exact H2_) | with_reducible exact H | (rw [hy247]; exact H) | exact H
  have Ny247 := am_ hy247
  clear hy247
  obtain ⟨y250, hy250⟩ : ∃ y_ : List (S29), y_ = (([(⟨false, 0, 0, 10, (⟨#[]⟩ : ByteArray)⟩ : S29), (⟨false, 0, 10, 0, (⟨#[]⟩ : ByteArray)⟩ : S29), (⟨false, 0, 0, 11, (⟨#[]⟩ : ByteArray)⟩ : S29), (⟨true, 167772161, 11, 0, (⟨#[]⟩ : ByteArray)⟩ : S29), (⟨false, 0, 11, 0, (⟨#[]⟩ : ByteArray)⟩ : S29), (⟨true, 167772161, 10, 0, (⟨#[]⟩ : ByteArray)⟩ : S29), (⟨false, 0, 0, 13, (⟨#[]⟩ : ByteArray)⟩ : S29), (⟨true, 167772161, 13, 0, (⟨#[]⟩ : ByteArray)⟩ : S29), (⟨false, 0, 13, 0, (⟨#[]⟩ : ByteArray)⟩ : S29), (⟨false, 0, 12, 0, (⟨#[]⟩ : ByteArray)⟩ : S29), (⟨false, 0, 99, 0, (⟨#[]⟩ : ByteArray)⟩ : S29), (⟨false, 0, 0, 0, (⟨#[]⟩ : ByteArray)⟩ : S29), (⟨true, 7, 10, 0, (⟨#[]⟩ : ByteArray)⟩ : S29), (⟨true, 167772161, 0, 10, (⟨#[]⟩ : ByteArray)⟩ : S29)] : List (S29))) := ⟨_, rfl⟩
  replace H : ((some (([1, 1, 2, 1, 2, 2, 1, 2, 2, 2, 2, 0, 0, 2] : List Int) : List Int)).bind fun y253 => (if 0 ≤ (wrap64 (Int.tmod (IntKind.u64.wrap (a0)) 14)) then (if (wrap64 (Int.tmod (IntKind.u64.wrap (a0)) 14)) < (y247.length : Int) then (if (wrap64 (Int.tmod (IntKind.u64.wrap (a0)) 14)) < (y250.length : Int) then ((claim_Claim.f t230 t231 t232 t235 t238 t239 t240 y244 10 (rdOf ByteArray.empty y247 (wrap64 (Int.tmod (IntKind.u64.wrap (a0)) 14))) ((rd_T29 y250 (wrap64 (Int.tmod (IntKind.u64.wrap (a0)) 14))).f0) ((rd_T29 y250 (wrap64 (Int.tmod (IntKind.u64.wrap (a0)) 14))).f1) ((rd_T29 y250 (wrap64 (Int.tmod (IntKind.u64.wrap (a0)) 14))).f2) ((rd_T29 y250 (wrap64 (Int.tmod (IntKind.u64.wrap (a0)) 14))).f3) ((rd_T29 y250 (wrap64 (Int.tmod (IntKind.u64.wrap (a0)) 14))).f4)).bind fun bt258 => (if bt258.2.1 = 1 then (if ((bt258.2.1 == 1) != (bt258.2.2.1 != 0)) = true then (none) else (if (wrap64 (Int.tmod (IntKind.u64.wrap (a0)) 14)) < (y253.length : Int) then (if bt258.2.1 = (rd y253 (wrap64 (Int.tmod (IntKind.u64.wrap (a0)) 14))) then ((pinfoldlaw0_Num.f bt258.2.2.2).bind fun t265 => (some (t265 == 0))) else (none)) else (none))) else ((pinfoldlaw0_SameLeases.f k bt258.1 y244).bind fun t266 => (if t266 = true then (if ((bt258.2.1 == 1) != (bt258.2.2.1 != 0)) = true then (none) else (if (wrap64 (Int.tmod (IntKind.u64.wrap (a0)) 14)) < (y253.length : Int) then (if bt258.2.1 = (rd y253 (wrap64 (Int.tmod (IntKind.u64.wrap (a0)) 14))) then ((pinfoldlaw0_Num.f bt258.2.2.2).bind fun t268 => (some (t268 == 0))) else (none)) else (none))) else (none))))) else (none)) else (none)) else (none))) = some r := by first | (rw [hy250]; with_reducible exact H) | (have H2_ := (Option.bind_some _ _).symm.trans H; rw [hy250]; with_reducible exact H2_) | (have H2_ := (Option.bind_some _ _).symm.trans H; with_reducible exact H2_) | with_reducible exact H | (rw [hy250]; exact H) | exact H
  have Ny250 := am_ hy250
  clear hy250
  obtain ⟨y253, hy253⟩ : ∃ y_ : List Int, y_ = (([1, 1, 2, 1, 2, 2, 1, 2, 2, 2, 2, 0, 0, 2] : List Int)) := ⟨_, rfl⟩
  replace H : (if 0 ≤ (wrap64 (Int.tmod (IntKind.u64.wrap (a0)) 14)) then (if (wrap64 (Int.tmod (IntKind.u64.wrap (a0)) 14)) < (y247.length : Int) then (if (wrap64 (Int.tmod (IntKind.u64.wrap (a0)) 14)) < (y250.length : Int) then ((claim_Claim.f t230 t231 t232 t235 t238 t239 t240 y244 10 (rdOf ByteArray.empty y247 (wrap64 (Int.tmod (IntKind.u64.wrap (a0)) 14))) ((rd_T29 y250 (wrap64 (Int.tmod (IntKind.u64.wrap (a0)) 14))).f0) ((rd_T29 y250 (wrap64 (Int.tmod (IntKind.u64.wrap (a0)) 14))).f1) ((rd_T29 y250 (wrap64 (Int.tmod (IntKind.u64.wrap (a0)) 14))).f2) ((rd_T29 y250 (wrap64 (Int.tmod (IntKind.u64.wrap (a0)) 14))).f3) ((rd_T29 y250 (wrap64 (Int.tmod (IntKind.u64.wrap (a0)) 14))).f4)).bind fun bt258 => (if bt258.2.1 = 1 then (if ((bt258.2.1 == 1) != (bt258.2.2.1 != 0)) = true then (none) else (if (wrap64 (Int.tmod (IntKind.u64.wrap (a0)) 14)) < (y253.length : Int) then (if bt258.2.1 = (rd y253 (wrap64 (Int.tmod (IntKind.u64.wrap (a0)) 14))) then ((pinfoldlaw0_Num.f bt258.2.2.2).bind fun t265 => (some (t265 == 0))) else (none)) else (none))) else ((pinfoldlaw0_SameLeases.f k bt258.1 y244).bind fun t266 => (if t266 = true then (if ((bt258.2.1 == 1) != (bt258.2.2.1 != 0)) = true then (none) else (if (wrap64 (Int.tmod (IntKind.u64.wrap (a0)) 14)) < (y253.length : Int) then (if bt258.2.1 = (rd y253 (wrap64 (Int.tmod (IntKind.u64.wrap (a0)) 14))) then ((pinfoldlaw0_Num.f bt258.2.2.2).bind fun t268 => (some (t268 == 0))) else (none)) else (none))) else (none))))) else (none)) else (none)) else (none)) = some r := by first | (rw [hy253]; with_reducible exact H) | (have H2_ := (Option.bind_some _ _).symm.trans H; rw [hy253]; with_reducible exact H2_) | (have H2_ := (Option.bind_some _ _).symm.trans H; with_reducible exact H2_) | with_reducible exact H | (rw [hy253]; exact H) | exact H
  have Ny253 := am_ hy253
  clear hy253
  obtain ⟨ji5, hji5⟩ : ∃ j_ : Int, (wrap64 (Int.tmod (IntKind.u64.wrap (a0)) 14)) = j_ := ⟨_, rfl⟩
  replace H : (if 0 ≤ (ji5) then (if (ji5) < (y247.length : Int) then (if (ji5) < (y250.length : Int) then ((claim_Claim.f t230 t231 t232 t235 t238 t239 t240 y244 10 (rdOf ByteArray.empty y247 (ji5)) ((rd_T29 y250 (ji5)).f0) ((rd_T29 y250 (ji5)).f1) ((rd_T29 y250 (ji5)).f2) ((rd_T29 y250 (ji5)).f3) ((rd_T29 y250 (ji5)).f4)).bind fun bt258 => (if bt258.2.1 = 1 then (if ((bt258.2.1 == 1) != (bt258.2.2.1 != 0)) = true then (none) else (if (ji5) < (y253.length : Int) then (if bt258.2.1 = (rd y253 (ji5)) then ((pinfoldlaw0_Num.f bt258.2.2.2).bind fun t265 => (some (t265 == 0))) else (none)) else (none))) else ((pinfoldlaw0_SameLeases.f k bt258.1 y244).bind fun t266 => (if t266 = true then (if ((bt258.2.1 == 1) != (bt258.2.2.1 != 0)) = true then (none) else (if (ji5) < (y253.length : Int) then (if bt258.2.1 = (rd y253 (ji5)) then ((pinfoldlaw0_Num.f bt258.2.2.2).bind fun t268 => (some (t268 == 0))) else (none)) else (none))) else (none))))) else (none)) else (none)) else (none)) = some r := by first | (rw [hji5] at H; exact H) | (simp only [hji5] at H ⊢; exact H)
  (try rw [hji5] at A2)
  (try rw [hji5] at A4)
  have hji5w : (IntKind.i64.wrap (Int.tmod (IntKind.u64.wrap (a0)) 14)) = ji5 := (i64_w _).trans hji5
  by_cases c6 : 0 ≤ (ji5)
  rotate_left
  ·rw [if_neg c6] at H
   exact absurd H (by simp)
  rw [if_pos c6] at H
  have c6b0 : decide (0 ≤ (ji5)) = true := decide_eq_true c6
  clear c6
  by_cases c7 : (ji5) < (y247.length : Int)
  rotate_left
  ·rw [if_neg c7] at H
   exact absurd H (by simp)
  rw [if_pos c7] at H
  have c7b0 : decide ((ji5) < (y247.length : Int)) = true := decide_eq_true c7
  clear c7
  by_cases c8 : (ji5) < (y250.length : Int)
  rotate_left
  ·rw [if_neg c8] at H
   exact absurd H (by simp)
  rw [if_pos c8] at H
  have c8b0 : decide ((ji5) < (y250.length : Int)) = true := decide_eq_true c8
  clear c8
  replace H := e4_ H
  obtain ⟨⟨t258, t261, t262, t263⟩, A90, H⟩ := H
  replace H : (if t261 = 1 then (if ((t261 == 1) != (t262 != 0)) = true then (none) else (if (ji5) < (y253.length : Int) then (if t261 = (rd y253 (ji5)) then ((pinfoldlaw0_Num.f t263).bind fun t265 => (some (t265 == 0))) else (none)) else (none))) else ((pinfoldlaw0_SameLeases.f k t258 y244).bind fun t266 => (if t266 = true then (if ((t261 == 1) != (t262 != 0)) = true then (none) else (if (ji5) < (y253.length : Int) then (if t261 = (rd y253 (ji5)) then ((pinfoldlaw0_Num.f t263).bind fun t268 => (some (t268 == 0))) else (none)) else (none))) else (none)))) = some r := H
  have A9 := am_ A90
  clear A90
  by_cases c10 : t261 = 1
  ·rw [if_pos c10] at H
   have c10b0 : (t261 == 1) = true := beq_iff_eq.mpr c10
   have c10b1 : (t261 != 1) = false := e1_ c10
   clear c10
   by_cases c11 : ((t261 == 1) != (t262 != 0)) = true
   ·rw [if_pos c11] at H
    exact absurd H (by simp)
   rw [if_neg c11] at H
   have c11b0 : ((t261 == 1) != (t262 != 0)) = false := by simpa using c11
   have c11b7 : (t262 != 0) = (t261 == 1) := by have h_ := c11b0; revert h_; cases (t261 == 1) <;> cases (t262 != 0) <;> decide
   rw [c10b0] at c11b7
   (try (have c11b1 : decide ((t261 == 1) = (t262 != 0)) = true := by simpa using c11))
   (try (have c11b2 : ((t261 == 1) == (t262 != 0)) = true := by simpa using c11))
   clear c11
   by_cases c12 : (ji5) < (y253.length : Int)
   rotate_left
   ·rw [if_neg c12] at H
    exact absurd H (by simp)
   rw [if_pos c12] at H
   have c12b0 : decide ((ji5) < (y253.length : Int)) = true := decide_eq_true c12
   clear c12
   by_cases c13 : t261 = (rd y253 (ji5))
   rotate_left
   ·rw [if_neg c13] at H
    exact absurd H (by simp)
   rw [if_pos c13] at H
   have c13b0 : (t261 == (rd y253 (ji5))) = true := beq_iff_eq.mpr c13
   have c13b1 : (t261 != (rd y253 (ji5))) = false := e1_ c13
   clear c13
   replace H := e4_ H
   obtain ⟨t265, A140, H⟩ := H
   replace H : (some (t265 == 0)) = some r := H
   have A14 := am_ A140
   clear A140
   obtain rfl := e5_ H
   go_enter Tryd.func5, Tryd.ntmps5
   try go_wp2_with (first | ((with_reducible refine gate_callee (f := 8) rfl ?_); refine goesL_ (some 13) rfl rfl Tryd.func8 (by kernel_rfl) rfl #[] rfl (by (try simp only [List.map_toArray, List.map_cons, List.map_nil]); first | done | rfl | (simp only [List.length_drop, List.length_take]; rfl)) ?_; (with_reducible refine (pinfoldlaw17_awake.calls  true _ A2.out).mono ?_); rintro e w15 ⟨rfl, hb⟩; refine ⟨_, rfl, ?_⟩; have n0_ := am_ (bt_ (by repeat (with_reducible first | exact HB.out | apply p3_ | apply p1_ | apply p2_)) hb); clear HB; have HB := n0_; clear n0_; (try clear hb)) | ((with_reducible refine gate_callee (f := 16) rfl ?_); refine goesL_ (some 15) rfl rfl Tryd.func16 (by kernel_rfl) rfl #[] rfl (by (try simp only [List.map_toArray, List.map_cons, List.map_nil]); first | done | rfl | (simp only [List.length_drop, List.length_take]; rfl)) ?_; (with_reducible refine (pinfoldlaw17_given.calls  t230 t231 t232 t235 t238 t239 t240 _ A4.out).mono ?_); rintro e w16 ⟨v233, v236, v241, rfl, ho0, ho1, ho2, hb⟩; refine ⟨_, rfl, ?_⟩; have n0_ := am_ (Kd.R_lower ho0 (bz_ (by repeat (with_reducible first | exact HB.out | apply p3_ | apply p1_ | apply p2_)))); have n1_ := am_ (Kd.R_lower ho1 (bz_ (by repeat (with_reducible first | exact HB.out | apply p3_ | apply p1_ | apply p2_)))); have n2_ := am_ (Kd.R_lower ho2 (bz_ (by repeat (with_reducible first | exact HB.out | apply p3_ | apply p1_ | apply p2_)))); have n3_ := am_ (bt_ (by repeat (with_reducible first | exact HB.out | apply p3_ | apply p1_ | apply p2_)) hb); clear HB; have HO234 := n0_; have HO237 := n1_; have HO242 := n2_; have HB := n3_; clear n0_ n1_ n2_ n3_; (try clear hb); (try clear ho0); (try clear ho1); (try clear ho2)) | ((with_reducible refine gate_dst (N := 3) rfl ?_); refine box_event ?hg (N := 3) ?hd (cs := #[.int .i64 0, .int .i64 0, .slice none 0 0, .slice none 0 0, .int .i64 0, .string (⟨#[]⟩ : ByteArray), .slice none 0 0]) (t := 26) ?hr ?_; (case hd => rfl); (case hg => rfl); (case hr => first | (go_simp; done) | (go_simp; rfl)); intro gb243 hg w17 hbox hb; have n0_ := am_ (Kd.R_below (by (with_reducible repeat (first | apply r1_ | apply r2_ | apply r3_)); exact HO234.out) hb); have n1_ := am_ (Kd.R_below (by (with_reducible repeat (first | apply r1_ | apply r2_ | apply r3_)); exact HO237.out) hb); have n2_ := am_ (Kd.R_below (by (with_reducible repeat (first | apply r1_ | apply r2_ | apply r3_)); exact HO242.out) hb); have n3_ := am_ (bt_ (by repeat (with_reducible first | exact HB.out | apply p3_ | apply p1_ | apply p2_)) hb); have n4_ := am_ (hbox); have n5_ := am_ ((by rw [hg]; exact (bz_ (by repeat (with_reducible first | exact HB.out | apply p3_ | apply p1_ | apply p2_))) : w.heap.size ≤ gb243)); have n6_ := am_ ((by rw [hg]; exact (bz_ (by repeat (with_reducible first | exact HB.out | apply p3_ | apply p1_ | apply p2_))) : w.heap.size ≤ gb243)); clear HO234; clear HO237; clear HO242; clear HB; have HO234 := n0_; have HO237 := n1_; have HO242 := n2_; have HB := n3_; have BK243 := n4_; have GW243 := n5_; have GE243 := n6_; clear n0_ n1_ n2_ n3_ n4_ n5_ n6_; clear hb hbox hg; have hcz18_0 : w17.cell? ⟨gb243, 0, none⟩ = some (.int .i64 0) := (bc_ BK243.out 0).trans rfl; have hcz18_1 : w17.cell? ⟨gb243, 1, none⟩ = some (.int .i64 0) := (bc_ BK243.out 1).trans rfl; have hcz18_2 : w17.cell? ⟨gb243, 2, none⟩ = some (.slice none 0 0) := (bc_ BK243.out 2).trans rfl; have hcz18_3 : w17.cell? ⟨gb243, 3, none⟩ = some (.slice none 0 0) := (bc_ BK243.out 3).trans rfl; have hcz18_4 : w17.cell? ⟨gb243, 4, none⟩ = some (.int .i64 0) := (bc_ BK243.out 4).trans rfl; have hcz18_5 : w17.cell? ⟨gb243, 5, none⟩ = some (.string (⟨#[]⟩ : ByteArray)) := (bc_ BK243.out 5).trans rfl; have hcz18_6 : w17.cell? ⟨gb243, 6, none⟩ = some (.slice none 0 0) := (bc_ BK243.out 6).trans rfl; have hfz18_0 := bf_ BK243.out 0; have hfz18_1 := bf_ BK243.out 1; have hfz18_2 := bf_ BK243.out 2; have hfz18_3 := bf_ BK243.out 3; have hfz18_4 := bf_ BK243.out 4; have hfz18_5 := bf_ BK243.out 5; have hfz18_6 := bf_ BK243.out 6; obtain ⟨Ao19, co19, eo19⟩ := Kd.R_slice HO234.out; subst eo19; obtain ⟨Ao20, co20, eo20⟩ := Kd.R_slice HO237.out; subst eo20; obtain ⟨Ao21, co21, eo21⟩ := Kd.R_slice HO242.out; subst eo21) | ((with_reducible refine gate_dst (N := 19) rfl ?_); refine Kd.R_lit k36 _ 36 ?hg (N := 19) ?hd (xs := ([(⟨10, 2, (⟨#[109, 101]⟩ : ByteArray), 50, (⟨#[112, 99]⟩ : ByteArray), true⟩ : S36), (⟨11, 1, (⟨#[121, 111, 117]⟩ : ByteArray), 50, (⟨#[]⟩ : ByteArray), false⟩ : S36), (⟨13, 0, (⟨#[118, 105, 112]⟩ : ByteArray), 2, (⟨#[]⟩ : ByteArray), false⟩ : S36)] : List (S36))) (inner := [.int .i64 10, .int .i64 2, .string (⟨#[109, 101]⟩ : ByteArray), .int .i64 50, .string (⟨#[112, 99]⟩ : ByteArray), .bool true, .int .i64 11, .int .i64 1, .string (⟨#[121, 111, 117]⟩ : ByteArray), .int .i64 50, .string (⟨#[]⟩ : ByteArray), .bool false, .int .i64 13, .int .i64 0, .string (⟨#[118, 105, 112]⟩ : ByteArray), .int .i64 2, .string (⟨#[]⟩ : ByteArray), .bool false]) (ok := fun _ => True) (okp := fun _ => True) ?hr ?hp (fun _ hk => hk) trivial (Below.refl _ _) (Nat.le_refl _) (by simp) ?_; (case hd => rfl); (case hg => rfl); (case hr => first | (go_simp; done) | (go_simp; rfl)); (case hp => exact (Reps.c6 (show Kd.M k36 _ _ _ (⟨10, 2, (⟨#[109, 101]⟩ : ByteArray), 50, (⟨#[112, 99]⟩ : ByteArray), true⟩ : S36) [.int .i64 10, .int .i64 2, .string (⟨#[109, 101]⟩ : ByteArray), .int .i64 50, .string (⟨#[112, 99]⟩ : ByteArray), .bool true] from (k36_mkM _ _ _ (⟨10, 2, (⟨#[109, 101]⟩ : ByteArray), 50, (⟨#[112, 99]⟩ : ByteArray), true⟩ : S36) )) (Reps.c6 (show Kd.M k36 _ _ _ (⟨11, 1, (⟨#[121, 111, 117]⟩ : ByteArray), 50, (⟨#[]⟩ : ByteArray), false⟩ : S36) [.int .i64 11, .int .i64 1, .string (⟨#[121, 111, 117]⟩ : ByteArray), .int .i64 50, .string (⟨#[]⟩ : ByteArray), .bool false] from (k36_mkM _ _ _ (⟨11, 1, (⟨#[121, 111, 117]⟩ : ByteArray), 50, (⟨#[]⟩ : ByteArray), false⟩ : S36) )) (Reps.c6 (show Kd.M k36 _ _ _ (⟨13, 0, (⟨#[118, 105, 112]⟩ : ByteArray), 2, (⟨#[]⟩ : ByteArray), false⟩ : S36) [.int .i64 13, .int .i64 0, .string (⟨#[118, 105, 112]⟩ : ByteArray), .int .i64 2, .string (⟨#[]⟩ : ByteArray), .bool false] from (k36_mkM _ _ _ (⟨13, 0, (⟨#[118, 105, 112]⟩ : ByteArray), 2, (⟨#[]⟩ : ByteArray), false⟩ : S36) )) (Reps.none _ _))))); intro v245 w22 ho23 hb hg_ hnew_; clear hg_ hnew_; (first | rw [← Ny244.out] at ho23 | (simp only [Int.reduceToNat] at ho23; rw [← Ny244.out] at ho23)); have n0_ := am_ (Kd.R_below (by (with_reducible repeat (first | apply r1_ | apply r2_ | apply r3_)); exact (Kd.R_mono (Kd.R_far (p := ⟨gb243, 6, none⟩) (Kd.R_far (p := ⟨gb243, 5, none⟩) (Kd.R_far (p := ⟨gb243, 4, none⟩) (Kd.R_far (p := ⟨gb243, 3, none⟩) (Kd.R_far (p := ⟨gb243, 2, none⟩) (Kd.R_far (p := ⟨gb243, 1, none⟩) (Kd.R_far (p := ⟨gb243, 0, none⟩) (Kd.R_types HO234.out BK243.out (by decide)) (fun _ hk => hk.2) (.int .i64 t230)) (fun _ hk => hk.2) (.int .i64 t231)) (fun _ hk => hk.2) (.slice Ao19 t232.length co19)) (fun _ hk => hk.2) (.slice Ao20 t235.length co20)) (fun _ hk => hk.2) (.int .i64 t238)) (fun _ hk => hk.2) (.string t239)) (fun _ hk => hk.2) (.slice Ao21 t240.length co21)) (fun _ h_ => h_.1))) hb); have n1_ := am_ (Kd.R_below (by (with_reducible repeat (first | apply r1_ | apply r2_ | apply r3_)); exact (Kd.R_mono (Kd.R_far (p := ⟨gb243, 6, none⟩) (Kd.R_far (p := ⟨gb243, 5, none⟩) (Kd.R_far (p := ⟨gb243, 4, none⟩) (Kd.R_far (p := ⟨gb243, 3, none⟩) (Kd.R_far (p := ⟨gb243, 2, none⟩) (Kd.R_far (p := ⟨gb243, 1, none⟩) (Kd.R_far (p := ⟨gb243, 0, none⟩) (Kd.R_types HO237.out BK243.out (by decide)) (fun _ hk => hk.2) (.int .i64 t230)) (fun _ hk => hk.2) (.int .i64 t231)) (fun _ hk => hk.2) (.slice Ao19 t232.length co19)) (fun _ hk => hk.2) (.slice Ao20 t235.length co20)) (fun _ hk => hk.2) (.int .i64 t238)) (fun _ hk => hk.2) (.string t239)) (fun _ hk => hk.2) (.slice Ao21 t240.length co21)) (fun _ h_ => h_.1))) hb); have n2_ := am_ (Kd.R_below (by (with_reducible repeat (first | apply r1_ | apply r2_ | apply r3_)); exact (Kd.R_mono (Kd.R_far (p := ⟨gb243, 6, none⟩) (Kd.R_far (p := ⟨gb243, 5, none⟩) (Kd.R_far (p := ⟨gb243, 4, none⟩) (Kd.R_far (p := ⟨gb243, 3, none⟩) (Kd.R_far (p := ⟨gb243, 2, none⟩) (Kd.R_far (p := ⟨gb243, 1, none⟩) (Kd.R_far (p := ⟨gb243, 0, none⟩) (Kd.R_types HO242.out BK243.out (by decide)) (fun _ hk => hk.2) (.int .i64 t230)) (fun _ hk => hk.2) (.int .i64 t231)) (fun _ hk => hk.2) (.slice Ao19 t232.length co19)) (fun _ hk => hk.2) (.slice Ao20 t235.length co20)) (fun _ hk => hk.2) (.int .i64 t238)) (fun _ hk => hk.2) (.string t239)) (fun _ hk => hk.2) (.slice Ao21 t240.length co21)) (fun _ h_ => h_.1))) hb); have n3_ := am_ (Kd.R_lower ho23 (bz_ (by repeat (with_reducible first | exact HB.out | apply p3_ | apply p1_ | apply p2_ | refine bs_ ?_ GE243.out)))); have n4_ := am_ (kb_ (g := gb243) (o := .cells #[.int .i64 t230, .int .i64 t231, .slice Ao19 t232.length co19, .slice Ao20 t235.length co20, .int .i64 t238, .string t239, .slice Ao21 t240.length co21] 26 (0, 0)) (by (with_reducible repeat (first | refine k2_ ?_ _ | refine k3_ ?_ | refine k1_ ?_ _)); refine blk_put (cs := #[.int .i64 t230, .int .i64 t231, .slice Ao19 t232.length co19, .slice Ao20 t235.length co20, .int .i64 t238, .string t239, .slice none 0 0]) ?_ 6 _ rfl; (with_reducible repeat (first | refine k2_ ?_ _ | refine k3_ ?_ | refine k1_ ?_ _)); refine blk_put (cs := #[.int .i64 t230, .int .i64 t231, .slice Ao19 t232.length co19, .slice Ao20 t235.length co20, .int .i64 t238, .string (⟨#[]⟩ : ByteArray), .slice none 0 0]) ?_ 5 _ rfl; (with_reducible repeat (first | refine k2_ ?_ _ | refine k3_ ?_ | refine k1_ ?_ _)); refine blk_put (cs := #[.int .i64 t230, .int .i64 t231, .slice Ao19 t232.length co19, .slice Ao20 t235.length co20, .int .i64 0, .string (⟨#[]⟩ : ByteArray), .slice none 0 0]) ?_ 4 _ rfl; (with_reducible repeat (first | refine k2_ ?_ _ | refine k3_ ?_ | refine k1_ ?_ _)); refine blk_put (cs := #[.int .i64 t230, .int .i64 t231, .slice Ao19 t232.length co19, .slice none 0 0, .int .i64 0, .string (⟨#[]⟩ : ByteArray), .slice none 0 0]) ?_ 3 _ rfl; (with_reducible repeat (first | refine k2_ ?_ _ | refine k3_ ?_ | refine k1_ ?_ _)); refine blk_put (cs := #[.int .i64 t230, .int .i64 t231, .slice none 0 0, .slice none 0 0, .int .i64 0, .string (⟨#[]⟩ : ByteArray), .slice none 0 0]) ?_ 2 _ rfl; (with_reducible repeat (first | refine k2_ ?_ _ | refine k3_ ?_ | refine k1_ ?_ _)); refine blk_put (cs := #[.int .i64 t230, .int .i64 0, .slice none 0 0, .slice none 0 0, .int .i64 0, .string (⟨#[]⟩ : ByteArray), .slice none 0 0]) ?_ 1 _ rfl; (with_reducible repeat (first | refine k2_ ?_ _ | refine k3_ ?_ | refine k1_ ?_ _)); refine blk_put (cs := #[.int .i64 0, .int .i64 0, .slice none 0 0, .slice none 0 0, .int .i64 0, .string (⟨#[]⟩ : ByteArray), .slice none 0 0]) ?_ 0 _ rfl; (with_reducible repeat (first | refine k2_ ?_ _ | refine k3_ ?_ | refine k1_ ?_ _)); exact BK243.out) hb); have n5_ := am_ (bt_ (by repeat (with_reducible first | exact HB.out | apply p3_ | apply p1_ | apply p2_ | refine bs_ ?_ GE243.out)) hb); clear HO234; clear HO237; clear HO242; clear BK243; clear HB; have HO234 := n0_; have HO237 := n1_; have HO242 := n2_; have HO246 := n3_; have BK243 := n4_; have HB := n5_; clear n0_ n1_ n2_ n3_ n4_ n5_; clear hb ho23) | ((with_reducible refine gate_dst (N := 20) rfl ?_); refine Kd.R_lit Kd.string _ 9 ?hg (N := 20) ?hd (xs := ([(⟨#[109, 101]⟩ : ByteArray), (⟨#[109, 101]⟩ : ByteArray), (⟨#[109, 101]⟩ : ByteArray), (⟨#[121, 111, 117]⟩ : ByteArray), (⟨#[121, 111, 117]⟩ : ByteArray), (⟨#[121, 111, 117]⟩ : ByteArray), (⟨#[118, 105, 112]⟩ : ByteArray), (⟨#[118, 105, 112]⟩ : ByteArray), (⟨#[110, 101, 119]⟩ : ByteArray), (⟨#[110, 101, 119]⟩ : ByteArray), (⟨#[110, 101, 119]⟩ : ByteArray), (⟨#[110, 101, 119]⟩ : ByteArray), (⟨#[109, 101]⟩ : ByteArray), (⟨#[109, 101]⟩ : ByteArray)] : List ByteArray)) (inner := [.string (⟨#[109, 101]⟩ : ByteArray), .string (⟨#[109, 101]⟩ : ByteArray), .string (⟨#[109, 101]⟩ : ByteArray), .string (⟨#[121, 111, 117]⟩ : ByteArray), .string (⟨#[121, 111, 117]⟩ : ByteArray), .string (⟨#[121, 111, 117]⟩ : ByteArray), .string (⟨#[118, 105, 112]⟩ : ByteArray), .string (⟨#[118, 105, 112]⟩ : ByteArray), .string (⟨#[110, 101, 119]⟩ : ByteArray), .string (⟨#[110, 101, 119]⟩ : ByteArray), .string (⟨#[110, 101, 119]⟩ : ByteArray), .string (⟨#[110, 101, 119]⟩ : ByteArray), .string (⟨#[109, 101]⟩ : ByteArray), .string (⟨#[109, 101]⟩ : ByteArray)]) (ok := fun _ => True) (okp := fun _ => True) ?hr ?hp (fun _ hk => hk) trivial (Below.refl _ _) (Nat.le_refl _) (by simp) ?_; (case hd => rfl); (case hg => rfl); (case hr => first | (go_simp; done) | (go_simp; rfl)); (case hp => exact (Reps.one (show Kd.M Kd.string _ _ _ (⟨#[109, 101]⟩ : ByteArray) [.string (⟨#[109, 101]⟩ : ByteArray)] from rfl) (Reps.one (show Kd.M Kd.string _ _ _ (⟨#[109, 101]⟩ : ByteArray) [.string (⟨#[109, 101]⟩ : ByteArray)] from rfl) (Reps.one (show Kd.M Kd.string _ _ _ (⟨#[109, 101]⟩ : ByteArray) [.string (⟨#[109, 101]⟩ : ByteArray)] from rfl) (Reps.one (show Kd.M Kd.string _ _ _ (⟨#[121, 111, 117]⟩ : ByteArray) [.string (⟨#[121, 111, 117]⟩ : ByteArray)] from rfl) (Reps.one (show Kd.M Kd.string _ _ _ (⟨#[121, 111, 117]⟩ : ByteArray) [.string (⟨#[121, 111, 117]⟩ : ByteArray)] from rfl) (Reps.one (show Kd.M Kd.string _ _ _ (⟨#[121, 111, 117]⟩ : ByteArray) [.string (⟨#[121, 111, 117]⟩ : ByteArray)] from rfl) (Reps.one (show Kd.M Kd.string _ _ _ (⟨#[118, 105, 112]⟩ : ByteArray) [.string (⟨#[118, 105, 112]⟩ : ByteArray)] from rfl) (Reps.one (show Kd.M Kd.string _ _ _ (⟨#[118, 105, 112]⟩ : ByteArray) [.string (⟨#[118, 105, 112]⟩ : ByteArray)] from rfl) (Reps.one (show Kd.M Kd.string _ _ _ (⟨#[110, 101, 119]⟩ : ByteArray) [.string (⟨#[110, 101, 119]⟩ : ByteArray)] from rfl) (Reps.one (show Kd.M Kd.string _ _ _ (⟨#[110, 101, 119]⟩ : ByteArray) [.string (⟨#[110, 101, 119]⟩ : ByteArray)] from rfl) (Reps.one (show Kd.M Kd.string _ _ _ (⟨#[110, 101, 119]⟩ : ByteArray) [.string (⟨#[110, 101, 119]⟩ : ByteArray)] from rfl) (Reps.one (show Kd.M Kd.string _ _ _ (⟨#[110, 101, 119]⟩ : ByteArray) [.string (⟨#[110, 101, 119]⟩ : ByteArray)] from rfl) (Reps.one (show Kd.M Kd.string _ _ _ (⟨#[109, 101]⟩ : ByteArray) [.string (⟨#[109, 101]⟩ : ByteArray)] from rfl) (Reps.one (show Kd.M Kd.string _ _ _ (⟨#[109, 101]⟩ : ByteArray) [.string (⟨#[109, 101]⟩ : ByteArray)] from rfl) (Reps.none _ _)))))))))))))))); intro v248 w24 ho25 hb hg_ hnew_; clear hg_ hnew_; (first | rw [← Ny247.out] at ho25 | (simp only [Int.reduceToNat] at ho25; rw [← Ny247.out] at ho25)); have n0_ := am_ (Kd.R_below (by (with_reducible repeat (first | apply r1_ | apply r2_ | apply r3_)); exact HO234.out) hb); have n1_ := am_ (Kd.R_below (by (with_reducible repeat (first | apply r1_ | apply r2_ | apply r3_)); exact HO237.out) hb); have n2_ := am_ (Kd.R_below (by (with_reducible repeat (first | apply r1_ | apply r2_ | apply r3_)); exact HO242.out) hb); have n3_ := am_ (Kd.R_below (by (with_reducible repeat (first | apply r1_ | apply r2_ | apply r3_)); exact HO246.out) hb); have n4_ := am_ (Kd.R_lower ho25 (bz_ (by repeat (with_reducible first | exact HB.out | apply p3_ | apply p1_ | apply p2_ | refine bs_ ?_ GE243.out)))); have n5_ := am_ (kb_ (g := gb243) (o := .cells #[.int .i64 t230, .int .i64 t231, .slice Ao19 t232.length co19, .slice Ao20 t235.length co20, .int .i64 t238, .string t239, .slice Ao21 t240.length co21] 26 (0, 0)) (by (with_reducible repeat (first | refine k2_ ?_ _ | refine k3_ ?_ | refine k1_ ?_ _)); exact BK243.out) hb); have n6_ := am_ (bt_ (by repeat (with_reducible first | exact HB.out | apply p3_ | apply p1_ | apply p2_ | refine bs_ ?_ GE243.out)) hb); clear HO234; clear HO237; clear HO242; clear HO246; clear BK243; clear HB; have HO234 := n0_; have HO237 := n1_; have HO242 := n2_; have HO246 := n3_; have HO249 := n4_; have BK243 := n5_; have HB := n6_; clear n0_ n1_ n2_ n3_ n4_ n5_ n6_; clear hb ho25) | ((with_reducible refine gate_dst (N := 35) rfl ?_); refine Kd.R_lit k29 _ 29 ?hg (N := 35) ?hd (xs := ([(⟨false, 0, 0, 10, (⟨#[]⟩ : ByteArray)⟩ : S29), (⟨false, 0, 10, 0, (⟨#[]⟩ : ByteArray)⟩ : S29), (⟨false, 0, 0, 11, (⟨#[]⟩ : ByteArray)⟩ : S29), (⟨true, 167772161, 11, 0, (⟨#[]⟩ : ByteArray)⟩ : S29), (⟨false, 0, 11, 0, (⟨#[]⟩ : ByteArray)⟩ : S29), (⟨true, 167772161, 10, 0, (⟨#[]⟩ : ByteArray)⟩ : S29), (⟨false, 0, 0, 13, (⟨#[]⟩ : ByteArray)⟩ : S29), (⟨true, 167772161, 13, 0, (⟨#[]⟩ : ByteArray)⟩ : S29), (⟨false, 0, 13, 0, (⟨#[]⟩ : ByteArray)⟩ : S29), (⟨false, 0, 12, 0, (⟨#[]⟩ : ByteArray)⟩ : S29), (⟨false, 0, 99, 0, (⟨#[]⟩ : ByteArray)⟩ : S29), (⟨false, 0, 0, 0, (⟨#[]⟩ : ByteArray)⟩ : S29), (⟨true, 7, 10, 0, (⟨#[]⟩ : ByteArray)⟩ : S29), (⟨true, 167772161, 0, 10, (⟨#[]⟩ : ByteArray)⟩ : S29)] : List (S29))) (inner := [.bool false, .int .i64 0, .int .i64 0, .int .i64 10, .string (⟨#[]⟩ : ByteArray), .bool false, .int .i64 0, .int .i64 10, .int .i64 0, .string (⟨#[]⟩ : ByteArray), .bool false, .int .i64 0, .int .i64 0, .int .i64 11, .string (⟨#[]⟩ : ByteArray), .bool true, .int .i64 167772161, .int .i64 11, .int .i64 0, .string (⟨#[]⟩ : ByteArray), .bool false, .int .i64 0, .int .i64 11, .int .i64 0, .string (⟨#[]⟩ : ByteArray), .bool true, .int .i64 167772161, .int .i64 10, .int .i64 0, .string (⟨#[]⟩ : ByteArray), .bool false, .int .i64 0, .int .i64 0, .int .i64 13, .string (⟨#[]⟩ : ByteArray), .bool true, .int .i64 167772161, .int .i64 13, .int .i64 0, .string (⟨#[]⟩ : ByteArray), .bool false, .int .i64 0, .int .i64 13, .int .i64 0, .string (⟨#[]⟩ : ByteArray), .bool false, .int .i64 0, .int .i64 12, .int .i64 0, .string (⟨#[]⟩ : ByteArray), .bool false, .int .i64 0, .int .i64 99, .int .i64 0, .string (⟨#[]⟩ : ByteArray), .bool false, .int .i64 0, .int .i64 0, .int .i64 0, .string (⟨#[]⟩ : ByteArray), .bool true, .int .i64 7, .int .i64 10, .int .i64 0, .string (⟨#[]⟩ : ByteArray), .bool true, .int .i64 167772161, .int .i64 0, .int .i64 10, .string (⟨#[]⟩ : ByteArray)]) (ok := fun _ => True) (okp := fun _ => True) ?hr ?hp (fun _ hk => hk) trivial (Below.refl _ _) (Nat.le_refl _) (by simp) ?_; (case hd => rfl); (case hg => rfl); (case hr => first | (go_simp; done) | (go_simp; rfl)); (case hp => exact (Reps.c5 (show Kd.M k29 _ _ _ (⟨false, 0, 0, 10, (⟨#[]⟩ : ByteArray)⟩ : S29) [.bool false, .int .i64 0, .int .i64 0, .int .i64 10, .string (⟨#[]⟩ : ByteArray)] from (k29_mkM _ _ _ (⟨false, 0, 0, 10, (⟨#[]⟩ : ByteArray)⟩ : S29) )) (Reps.c5 (show Kd.M k29 _ _ _ (⟨false, 0, 10, 0, (⟨#[]⟩ : ByteArray)⟩ : S29) [.bool false, .int .i64 0, .int .i64 10, .int .i64 0, .string (⟨#[]⟩ : ByteArray)] from (k29_mkM _ _ _ (⟨false, 0, 10, 0, (⟨#[]⟩ : ByteArray)⟩ : S29) )) (Reps.c5 (show Kd.M k29 _ _ _ (⟨false, 0, 0, 11, (⟨#[]⟩ : ByteArray)⟩ : S29) [.bool false, .int .i64 0, .int .i64 0, .int .i64 11, .string (⟨#[]⟩ : ByteArray)] from (k29_mkM _ _ _ (⟨false, 0, 0, 11, (⟨#[]⟩ : ByteArray)⟩ : S29) )) (Reps.c5 (show Kd.M k29 _ _ _ (⟨true, 167772161, 11, 0, (⟨#[]⟩ : ByteArray)⟩ : S29) [.bool true, .int .i64 167772161, .int .i64 11, .int .i64 0, .string (⟨#[]⟩ : ByteArray)] from (k29_mkM _ _ _ (⟨true, 167772161, 11, 0, (⟨#[]⟩ : ByteArray)⟩ : S29) )) (Reps.c5 (show Kd.M k29 _ _ _ (⟨false, 0, 11, 0, (⟨#[]⟩ : ByteArray)⟩ : S29) [.bool false, .int .i64 0, .int .i64 11, .int .i64 0, .string (⟨#[]⟩ : ByteArray)] from (k29_mkM _ _ _ (⟨false, 0, 11, 0, (⟨#[]⟩ : ByteArray)⟩ : S29) )) (Reps.c5 (show Kd.M k29 _ _ _ (⟨true, 167772161, 10, 0, (⟨#[]⟩ : ByteArray)⟩ : S29) [.bool true, .int .i64 167772161, .int .i64 10, .int .i64 0, .string (⟨#[]⟩ : ByteArray)] from (k29_mkM _ _ _ (⟨true, 167772161, 10, 0, (⟨#[]⟩ : ByteArray)⟩ : S29) )) (Reps.c5 (show Kd.M k29 _ _ _ (⟨false, 0, 0, 13, (⟨#[]⟩ : ByteArray)⟩ : S29) [.bool false, .int .i64 0, .int .i64 0, .int .i64 13, .string (⟨#[]⟩ : ByteArray)] from (k29_mkM _ _ _ (⟨false, 0, 0, 13, (⟨#[]⟩ : ByteArray)⟩ : S29) )) (Reps.c5 (show Kd.M k29 _ _ _ (⟨true, 167772161, 13, 0, (⟨#[]⟩ : ByteArray)⟩ : S29) [.bool true, .int .i64 167772161, .int .i64 13, .int .i64 0, .string (⟨#[]⟩ : ByteArray)] from (k29_mkM _ _ _ (⟨true, 167772161, 13, 0, (⟨#[]⟩ : ByteArray)⟩ : S29) )) (Reps.c5 (show Kd.M k29 _ _ _ (⟨false, 0, 13, 0, (⟨#[]⟩ : ByteArray)⟩ : S29) [.bool false, .int .i64 0, .int .i64 13, .int .i64 0, .string (⟨#[]⟩ : ByteArray)] from (k29_mkM _ _ _ (⟨false, 0, 13, 0, (⟨#[]⟩ : ByteArray)⟩ : S29) )) (Reps.c5 (show Kd.M k29 _ _ _ (⟨false, 0, 12, 0, (⟨#[]⟩ : ByteArray)⟩ : S29) [.bool false, .int .i64 0, .int .i64 12, .int .i64 0, .string (⟨#[]⟩ : ByteArray)] from (k29_mkM _ _ _ (⟨false, 0, 12, 0, (⟨#[]⟩ : ByteArray)⟩ : S29) )) (Reps.c5 (show Kd.M k29 _ _ _ (⟨false, 0, 99, 0, (⟨#[]⟩ : ByteArray)⟩ : S29) [.bool false, .int .i64 0, .int .i64 99, .int .i64 0, .string (⟨#[]⟩ : ByteArray)] from (k29_mkM _ _ _ (⟨false, 0, 99, 0, (⟨#[]⟩ : ByteArray)⟩ : S29) )) (Reps.c5 (show Kd.M k29 _ _ _ (⟨false, 0, 0, 0, (⟨#[]⟩ : ByteArray)⟩ : S29) [.bool false, .int .i64 0, .int .i64 0, .int .i64 0, .string (⟨#[]⟩ : ByteArray)] from (k29_mkM _ _ _ (⟨false, 0, 0, 0, (⟨#[]⟩ : ByteArray)⟩ : S29) )) (Reps.c5 (show Kd.M k29 _ _ _ (⟨true, 7, 10, 0, (⟨#[]⟩ : ByteArray)⟩ : S29) [.bool true, .int .i64 7, .int .i64 10, .int .i64 0, .string (⟨#[]⟩ : ByteArray)] from (k29_mkM _ _ _ (⟨true, 7, 10, 0, (⟨#[]⟩ : ByteArray)⟩ : S29) )) (Reps.c5 (show Kd.M k29 _ _ _ (⟨true, 167772161, 0, 10, (⟨#[]⟩ : ByteArray)⟩ : S29) [.bool true, .int .i64 167772161, .int .i64 0, .int .i64 10, .string (⟨#[]⟩ : ByteArray)] from (k29_mkM _ _ _ (⟨true, 167772161, 0, 10, (⟨#[]⟩ : ByteArray)⟩ : S29) )) (Reps.none _ _)))))))))))))))); intro v251 w26 ho27 hb hg_ hnew_; clear hg_ hnew_; (first | rw [← Ny250.out] at ho27 | (simp only [Int.reduceToNat] at ho27; rw [← Ny250.out] at ho27)); have n0_ := am_ (Kd.R_below (by (with_reducible repeat (first | apply r1_ | apply r2_ | apply r3_)); exact HO234.out) hb); have n1_ := am_ (Kd.R_below (by (with_reducible repeat (first | apply r1_ | apply r2_ | apply r3_)); exact HO237.out) hb); have n2_ := am_ (Kd.R_below (by (with_reducible repeat (first | apply r1_ | apply r2_ | apply r3_)); exact HO242.out) hb); have n3_ := am_ (Kd.R_below (by (with_reducible repeat (first | apply r1_ | apply r2_ | apply r3_)); exact HO246.out) hb); have n4_ := am_ (Kd.R_below (by (with_reducible repeat (first | apply r1_ | apply r2_ | apply r3_)); exact HO249.out) hb); have n5_ := am_ (Kd.R_lower ho27 (bz_ (by repeat (with_reducible first | exact HB.out | apply p3_ | apply p1_ | apply p2_ | refine bs_ ?_ GE243.out)))); have n6_ := am_ (kb_ (g := gb243) (o := .cells #[.int .i64 t230, .int .i64 t231, .slice Ao19 t232.length co19, .slice Ao20 t235.length co20, .int .i64 t238, .string t239, .slice Ao21 t240.length co21] 26 (0, 0)) (by (with_reducible repeat (first | refine k2_ ?_ _ | refine k3_ ?_ | refine k1_ ?_ _)); exact BK243.out) hb); have n7_ := am_ (bt_ (by repeat (with_reducible first | exact HB.out | apply p3_ | apply p1_ | apply p2_ | refine bs_ ?_ GE243.out)) hb); clear HO234; clear HO237; clear HO242; clear HO246; clear HO249; clear BK243; clear HB; have HO234 := n0_; have HO237 := n1_; have HO242 := n2_; have HO246 := n3_; have HO249 := n4_; have HO252 := n5_; have BK243 := n6_; have HB := n7_; clear n0_ n1_ n2_ n3_ n4_ n5_ n6_ n7_; clear hb ho27) | ((with_reducible refine gate_dst (N := 36) rfl ?_); refine Kd.R_lit (Kd.int .i64) _ 3 ?hg (N := 36) ?hd (xs := ([1, 1, 2, 1, 2, 2, 1, 2, 2, 2, 2, 0, 0, 2] : List Int)) (inner := [.int .i64 1, .int .i64 1, .int .i64 2, .int .i64 1, .int .i64 2, .int .i64 2, .int .i64 1, .int .i64 2, .int .i64 2, .int .i64 2, .int .i64 2, .int .i64 0, .int .i64 0, .int .i64 2]) (ok := fun _ => True) (okp := fun _ => True) ?hr ?hp (fun _ hk => hk) trivial (Below.refl _ _) (Nat.le_refl _) (by simp) ?_; (case hd => rfl); (case hg => rfl); (case hr => first | (go_simp; done) | (go_simp; rfl)); (case hp => exact (Reps.one (show Kd.M (Kd.int .i64) _ _ _ 1 [.int .i64 1] from rfl) (Reps.one (show Kd.M (Kd.int .i64) _ _ _ 1 [.int .i64 1] from rfl) (Reps.one (show Kd.M (Kd.int .i64) _ _ _ 2 [.int .i64 2] from rfl) (Reps.one (show Kd.M (Kd.int .i64) _ _ _ 1 [.int .i64 1] from rfl) (Reps.one (show Kd.M (Kd.int .i64) _ _ _ 2 [.int .i64 2] from rfl) (Reps.one (show Kd.M (Kd.int .i64) _ _ _ 2 [.int .i64 2] from rfl) (Reps.one (show Kd.M (Kd.int .i64) _ _ _ 1 [.int .i64 1] from rfl) (Reps.one (show Kd.M (Kd.int .i64) _ _ _ 2 [.int .i64 2] from rfl) (Reps.one (show Kd.M (Kd.int .i64) _ _ _ 2 [.int .i64 2] from rfl) (Reps.one (show Kd.M (Kd.int .i64) _ _ _ 2 [.int .i64 2] from rfl) (Reps.one (show Kd.M (Kd.int .i64) _ _ _ 2 [.int .i64 2] from rfl) (Reps.one (show Kd.M (Kd.int .i64) _ _ _ 0 [.int .i64 0] from rfl) (Reps.one (show Kd.M (Kd.int .i64) _ _ _ 0 [.int .i64 0] from rfl) (Reps.one (show Kd.M (Kd.int .i64) _ _ _ 2 [.int .i64 2] from rfl) (Reps.none _ _)))))))))))))))); intro v254 w28 ho29 hb hg_ hnew_; clear hg_ hnew_; (first | rw [← Ny253.out] at ho29 | (simp only [Int.reduceToNat] at ho29; rw [← Ny253.out] at ho29)); have n0_ := am_ (r5_ (by (with_reducible repeat (first | apply r1_ | apply r2_ | apply r3_)); exact HO234.out) (r4_ ho29) hb); have n1_ := am_ (Kd.R_below (by (with_reducible repeat (first | apply r1_ | apply r2_ | apply r3_)); exact HO237.out) hb); have n2_ := am_ (Kd.R_below (by (with_reducible repeat (first | apply r1_ | apply r2_ | apply r3_)); exact HO242.out) hb); have n3_ := am_ (Kd.R_below (by (with_reducible repeat (first | apply r1_ | apply r2_ | apply r3_)); exact HO246.out) hb); have n4_ := am_ (Kd.R_below (by (with_reducible repeat (first | apply r1_ | apply r2_ | apply r3_)); exact HO249.out) hb); have n5_ := am_ (Kd.R_below (by (with_reducible repeat (first | apply r1_ | apply r2_ | apply r3_)); exact HO252.out) hb); have n6_ := am_ (Kd.R_lower (Kd.R_new' ho29 (Kd.R_lt (by (with_reducible repeat (first | apply r1_ | apply r2_ | apply r3_)); exact HO234.out))) (bz_ (by repeat (with_reducible first | exact HB.out | apply p3_ | apply p1_ | apply p2_ | refine bs_ ?_ GE243.out)))); have n7_ := am_ (kb_ (g := gb243) (o := .cells #[.int .i64 t230, .int .i64 t231, .slice Ao19 t232.length co19, .slice Ao20 t235.length co20, .int .i64 t238, .string t239, .slice Ao21 t240.length co21] 26 (0, 0)) (by (with_reducible repeat (first | refine k2_ ?_ _ | refine k3_ ?_ | refine k1_ ?_ _)); exact BK243.out) hb); have n8_ := am_ (bt_ (by repeat (with_reducible first | exact HB.out | apply p3_ | apply p1_ | apply p2_ | refine bs_ ?_ GE243.out)) hb); clear HO234; clear HO237; clear HO242; clear HO246; clear HO249; clear HO252; clear BK243; clear HB; have HO234 := n0_; have HO237 := n1_; have HO242 := n2_; have HO246 := n3_; have HO249 := n4_; have HO252 := n5_; have HO255 := n6_; have BK243 := n7_; have HB := n8_; clear n0_ n1_ n2_ n3_ n4_ n5_ n6_ n7_ n8_; clear hb ho29))
   have n0_ := am_ (r3_ HO234.out)
   have n1_ := am_ (r3_ HO237.out)
   have n2_ := am_ (r3_ HO242.out)
   have n3_ := am_ (r3_ HO246.out)
   have n4_ := am_ (r3_ HO249.out)
   have n5_ := am_ (r3_ HO252.out)
   have n6_ := am_ (r3_ HO255.out)
   have n7_ := am_ (k3_ BK243.out)
   have n8_ := am_ (p2_ HB.out)
   clear HO234
   clear HO237
   clear HO242
   clear HO246
   clear HO249
   clear HO252
   clear HO255
   clear BK243
   clear HB
   have HO234 := n0_
   have HO237 := n1_
   have HO242 := n2_
   have HO246 := n3_
   have HO249 := n4_
   have HO252 := n5_
   have HO255 := n6_
   have BK243 := n7_
   have HB := n8_
   clear n0_ n1_ n2_ n3_ n4_ n5_ n6_ n7_ n8_
   obtain ⟨Ao31, co31, eo31⟩ := Kd.R_slice HO249.out
   (first | subst eo31 | (injection eo31 with f1_ f2_ f3_; have f4_ := f1_.symm; have f5_ := f3_.symm; clear f1_ f2_ f3_; subst f4_; subst f5_))
   have p256 : 0 ≤ ((ji5) : Int) := of_decide_eq_true (by first | (with_reducible assumption) | assumption)
   have q256 : (ji5) < (y247.length : Int) := of_decide_eq_true (by first | (with_reducible assumption) | assumption)
   obtain ⟨ad256, e256, hx256_0⟩ := Kd.at_string (Kd.R_reads' HO249.out).2.2 (ji5) p256 q256
   cases e256
   replace p256 := eq_true p256
   replace q256 := eq_true q256
   obtain ⟨Ao32, co32, eo32⟩ := Kd.R_slice HO252.out
   (first | subst eo32 | (injection eo32 with f1_ f2_ f3_; have f4_ := f1_.symm; have f5_ := f3_.symm; clear f1_ f2_ f3_; subst f4_; subst f5_))
   have p257 : 0 ≤ ((ji5) : Int) := of_decide_eq_true (by first | (with_reducible assumption) | assumption)
   have q257 : (ji5) < (y250.length : Int) := of_decide_eq_true (by first | (with_reducible assumption) | assumption)
   obtain ⟨ad257, e257, hx257_0, hx257_1, hx257_2, hx257_3, hx257_4⟩ := at_T29 (Kd.R_reads' HO252.out).2.2 (ji5) p257 q257
   cases e257
   replace p257 := eq_true p257
   replace q257 := eq_true q257
   obtain ⟨Ao33, co33, eo33⟩ := Kd.R_slice HO246.out
   (first | subst eo33 | (injection eo33 with f1_ f2_ f3_; have f4_ := f1_.symm; have f5_ := f3_.symm; clear f1_ f2_ f3_; subst f4_; subst f5_))
   refine start_ (n := 20) (S := fun w' => w'.cell? ⟨gb243, 0, none⟩ = some (.int .i64 t230) ∧ w'.cell? ⟨gb243, 1, none⟩ = some (.int .i64 t231) ∧ w'.cell? ⟨gb243, 2, none⟩ = some (.slice Ao19 t232.length co19) ∧ w'.cell? ⟨gb243, 3, none⟩ = some (.slice Ao20 t235.length co20) ∧ w'.cell? ⟨gb243, 4, none⟩ = some (.int .i64 t238) ∧ w'.cell? ⟨gb243, 5, none⟩ = some (.string t239) ∧ w'.cell? ⟨gb243, 6, none⟩ = some (.slice Ao21 t240.length co21) ∧ w'.cell? (ad256.add ((ji5)).toNat) = some (.string (rdOf ByteArray.empty y247 (ji5))) ∧ w'.cell? (ad257.add (((ji5)).toNat * 5)) = some (.bool ((rd_T29 y250 (ji5)).f0)) ∧ w'.cell? ⟨(ad257.add (((ji5)).toNat * 5)).block, (ad257.add (((ji5)).toNat * 5)).off + 1, none⟩ = some (.int .i64 ((rd_T29 y250 (ji5)).f1)) ∧ w'.cell? ⟨(ad257.add (((ji5)).toNat * 5)).block, (ad257.add (((ji5)).toNat * 5)).off + 2, none⟩ = some (.int .i64 ((rd_T29 y250 (ji5)).f2)) ∧ w'.cell? ⟨(ad257.add (((ji5)).toNat * 5)).block, (ad257.add (((ji5)).toNat * 5)).off + 3, none⟩ = some (.int .i64 ((rd_T29 y250 (ji5)).f3)) ∧ w'.cell? ⟨(ad257.add (((ji5)).toNat * 5)).block, (ad257.add (((ji5)).toNat * 5)).off + 4, none⟩ = some (.string ((rd_T29 y250 (ji5)).f4))) (ds := []) #[false, false, false, false, false, false, false, false, false, false, false, false, false, false, false, false, false, false, false, false] (by kernel_rfl) rfl rfl ⟨(bc_ BK243.out 0).trans rfl, (bc_ BK243.out 1).trans rfl, (bc_ BK243.out 2).trans rfl, (bc_ BK243.out 3).trans rfl, (bc_ BK243.out 4).trans rfl, (bc_ BK243.out 5).trans rfl, (bc_ BK243.out 6).trans rfl, hx256_0, hx257_0, hx257_1, hx257_2, hx257_3, hx257_4⟩ (fun hHeld => ?_); refine with_tabW pinfoldlaw17_ClaimKinds.tab9 pinfoldlaw17_ClaimKinds.bits9 (fun HT_ HW_ => ?_)
   generalize w28.drew = w30 at HO234 HO237 HO242 HO246 HO249 HO252 HO255 BK243 HB hx256_0 hx257_0 hx257_1 hx257_2 hx257_3 hx257_4 hHeld ⊢
   refine pure_ (i := 1) (N := some 43) (v := ?_) (a' := ?_) #[false, true, false, false, false, false, false, false, false, false, false, false, false, false, false, false, false, false, false, false] rfl rfl (any_of HT_.out (by kernel_rfl)) (fun _ _ _ h => h) (Or.inl ⟨by rfl, ?_⟩) ?_ ?_
   rotate_left
   ·intro w'
    go_simp
    with_reducible rfl
   rotate_left
   ·simp only [Act.put, sa_, sb_, sc_, i64_w, i32_w]
    rfl
   refine pure_ (i := 2) (N := some 44) (v := ?_) (a' := ?_) #[false, true, true, false, false, false, false, false, false, false, false, false, false, false, false, false, false, false, false, false] rfl rfl (any_of HT_.out (by kernel_rfl)) (fun _ _ _ h => h) (Or.inl ⟨by rfl, ?_⟩) ?_ ?_
   rotate_left
   ·intro w'
    go_simp
    with_reducible rfl
   rotate_left
   ·simp only [Act.put, sa_, sb_, sc_, i64_w, i32_w]
    rfl
   refine pure_ (i := 3) (N := some 45) (v := ?_) (a' := ?_) #[false, true, true, true, false, false, false, false, false, false, false, false, false, false, false, false, false, false, false, false] rfl rfl (any_of HT_.out (by kernel_rfl)) (fun _ _ _ h => h) (Or.inl ⟨by rfl, ?_⟩) ?_ ?_
   rotate_left
   ·intro w'
    go_simp
    with_reducible rfl
   rotate_left
   ·simp only [Act.put, sa_, sb_, sc_, i64_w, i32_w]
    rfl
   refine pure_ (i := 4) (N := some 46) (v := ?_) (a' := ?_) #[false, true, true, true, true, false, false, false, false, false, false, false, false, false, false, false, false, false, false, false] rfl rfl (any_of HT_.out (by kernel_rfl)) (fun _ _ _ h => h) (Or.inl ⟨by rfl, ?_⟩) ?_ ?_
   rotate_left
   ·intro w'
    go_simp
    with_reducible rfl
   rotate_left
   ·simp only [Act.put, sa_, sb_, sc_, i64_w, i32_w]
    rfl
   refine pure_ (i := 6) (N := some 48) (v := ?_) (a' := ?_) #[false, true, true, true, true, false, true, false, false, false, false, false, false, false, false, false, false, false, false, false] rfl rfl (any_of HT_.out (by kernel_rfl)) (fun _ _ _ h => h) (Or.inl ⟨by rfl, ?_⟩) ?_ ?_
   rotate_left
   ·intro w'
    go_simp
    with_reducible rfl
   rotate_left
   ·simp only [Act.put, sa_, sb_, sc_, i64_w, i32_w]
    rfl
   refine pure_ (i := 7) (N := some 49) (v := ?_) (a' := ?_) #[false, true, true, true, true, false, true, true, false, false, false, false, false, false, false, false, false, false, false, false] rfl rfl (any_of HT_.out (by kernel_rfl)) (fun _ _ _ h => h) (Or.inl ⟨by rfl, ?_⟩) ?_ ?_
   rotate_left
   ·intro w'
    go_simp
    with_reducible rfl
   rotate_left
   ·simp only [Act.put, sa_, sb_, sc_, i64_w, i32_w]
    rfl
   refine pure_ (i := 8) (N := some 50) (v := ?_) (a' := ?_) #[false, true, true, true, true, false, true, true, true, false, false, false, false, false, false, false, false, false, false, false] rfl rfl (any_of HT_.out (by kernel_rfl)) (fun _ _ _ h => h) (Or.inl ⟨by rfl, ?_⟩) ?_ ?_
   rotate_left
   ·intro w'
    go_simp
    with_reducible rfl
   rotate_left
   ·simp only [Act.put, sa_, sb_, sc_, i64_w, i32_w]
    rfl
   refine take_ (i := 0) (N := some 42) (v := ?_) (a' := ?_) #[true, true, true, true, true, false, true, true, true, false, false, false, false, false, false, false, false, false, false, false] rfl rfl (take_ofW HT_.out HW_.out (by kernel_rfl)) (fun _ _ _ h => h) (Or.inl ⟨by rfl, ?_⟩) hHeld ?_ ?_
   rotate_left
   ·rintro w' ⟨s0, s1, s2, s3, s4, s5, s6, s7, s8, s9, s10, s11, s12⟩
    go_simp
    with_reducible rfl
   rotate_left
   ·simp only [Act.put, sa_, sb_, sc_, i64_w, i32_w]
    rfl
   refine take_ (i := 5) (N := some 47) (v := ?_) (a' := ?_) #[true, true, true, true, true, true, true, true, true, false, false, false, false, false, false, false, false, false, false, false] rfl rfl (take_ofW HT_.out HW_.out (by kernel_rfl)) (fun _ _ _ h => h) (Or.inl ⟨by rfl, ?_⟩) hHeld ?_ ?_
   rotate_left
   ·rintro w' ⟨s0, s1, s2, s3, s4, s5, s6, s7, s8, s9, s10, s11, s12⟩
    go_simp
    with_reducible rfl
   rotate_left
   ·simp only [Act.put, sa_, sb_, sc_, i64_w, i32_w]
    rfl
   refine take_ (i := 9) (N := some 51) (v := ?_) (a' := ?_) #[true, true, true, true, true, true, true, true, true, true, false, false, false, false, false, false, false, false, false, false] rfl rfl (take_ofW HT_.out HW_.out (by kernel_rfl)) (fun _ _ _ h => h) (Or.inl ⟨by rfl, ?_⟩) hHeld ?_ ?_
   rotate_left
   ·rintro w' ⟨s0, s1, s2, s3, s4, s5, s6, s7, s8, s9, s10, s11, s12⟩
    go_simp
    with_reducible rfl
   rotate_left
   ·simp only [Act.put, sa_, sb_, sc_, i64_w, i32_w]
    rfl
   refine one_ (i := 10) (N := some 52) #[true, true, true, true, true, true, true, true, true, true, true, false, false, false, false, false, false, false, false, false] rfl rfl (one_of HT_.out (by kernel_rfl)) (by decide) (fun K hK => ?_)
   refine goes_ Tryd.func9 (by kernel_rfl) rfl #[.agg #[.int .i64 t230, .int .i64 t231, .slice Ao19 t232.length co19, .slice Ao20 t235.length co20, .int .i64 t238, .string t239, .slice Ao21 t240.length co21], .slice Ao33 y244.length co33, .int .i64 10, .string (rdOf ByteArray.empty y247 (ji5)), .agg #[.bool ((rd_T29 y250 (ji5)).f0), .int .i64 ((rd_T29 y250 (ji5)).f1), .int .i64 ((rd_T29 y250 (ji5)).f2), .int .i64 ((rd_T29 y250 (ji5)).f3), .string ((rd_T29 y250 (ji5)).f4)]] (by rfl) rfl rfl (by (try simp only [List.map_toArray, List.map_cons, List.map_nil]); first | done | (simp only [hji5]; rfl) | rfl | (simp only [List.length_drop, List.length_take]; rfl)) ?_
   with_reducible refine (claim_Claim.calls t230 t231 _ _ t232 _ _ t235 t238 t239 _ _ t240 _ _ y244 10 (rdOf ByteArray.empty y247 (ji5)) ((rd_T29 y250 (ji5)).f0) ((rd_T29 y250 (ji5)).f1) ((rd_T29 y250 (ji5)).f2) ((rd_T29 y250 (ji5)).f3) ((rd_T29 y250 (ji5)).f4) t258 t261 t262 t263 _ ?side1 ?side2 ?side3 ?side4 ?side5 ?side6 ?side7 ?side8 A9.out).mono ?_
   (case side1 => repeat (first | exact (Kd.R_reads' HO234.out).2.2 | (with_reducible refine c1_ ?_ _) | (with_reducible refine c2_ ?_ _) | (with_reducible refine c3_ ?_)))
   (case side2 => exact (Kd.R_reads' HO234.out).2.1)
   (case side3 => repeat (first | exact (Kd.R_reads' HO237.out).2.2 | (with_reducible refine c1_ ?_ _) | (with_reducible refine c2_ ?_ _) | (with_reducible refine c3_ ?_)))
   (case side4 => exact (Kd.R_reads' HO237.out).2.1)
   (case side5 => repeat (first | exact (Kd.R_reads' HO242.out).2.2 | (with_reducible refine c1_ ?_ _) | (with_reducible refine c2_ ?_ _) | (with_reducible refine c3_ ?_)))
   (case side6 => exact (Kd.R_reads' HO242.out).2.1)
   (case side7 => repeat (first | exact (Kd.R_reads' HO246.out).2.2 | (with_reducible refine c1_ ?_ _) | (with_reducible refine c2_ ?_ _) | (with_reducible refine c3_ ?_)))
   (case side8 => exact (Kd.R_reads' HO246.out).2.1)
   rintro e w34 ⟨v259, rfl, ho0, hb⟩
   have HS7_ := (hb.cell (wb_ _ _ (hHeld.2.2.2.2.2.2.2.1))).trans (hHeld.2.2.2.2.2.2.2.1)
   have HS8_ := (hb.cell (wb_ _ _ (hHeld.2.2.2.2.2.2.2.2.1))).trans (hHeld.2.2.2.2.2.2.2.2.1)
   have HS9_ := (hb.cell (wb_ _ _ (hHeld.2.2.2.2.2.2.2.2.2.1))).trans (hHeld.2.2.2.2.2.2.2.2.2.1)
   have HS10_ := (hb.cell (wb_ _ _ (hHeld.2.2.2.2.2.2.2.2.2.2.1))).trans (hHeld.2.2.2.2.2.2.2.2.2.2.1)
   have HS11_ := (hb.cell (wb_ _ _ (hHeld.2.2.2.2.2.2.2.2.2.2.2.1))).trans (hHeld.2.2.2.2.2.2.2.2.2.2.2.1)
   have HS12_ := (hb.cell (wb_ _ _ (hHeld.2.2.2.2.2.2.2.2.2.2.2.2))).trans (hHeld.2.2.2.2.2.2.2.2.2.2.2.2)
   refine ⟨_, rfl, ?_⟩
   have n0_ := am_ (Kd.R_below (by (with_reducible repeat (first | apply r1_ | apply r2_ | apply r3_)); exact HO234.out) hb)
   have n1_ := am_ (Kd.R_below (by (with_reducible repeat (first | apply r1_ | apply r2_ | apply r3_)); exact HO237.out) hb)
   have n2_ := am_ (Kd.R_below (by (with_reducible repeat (first | apply r1_ | apply r2_ | apply r3_)); exact HO242.out) hb)
   have n3_ := am_ (r5_ (by (with_reducible repeat (first | apply r1_ | apply r2_ | apply r3_)); exact HO246.out) (r4_ ho0) hb)
   have n4_ := am_ (Kd.R_below (by (with_reducible repeat (first | apply r1_ | apply r2_ | apply r3_)); exact HO249.out) hb)
   have n5_ := am_ (Kd.R_below (by (with_reducible repeat (first | apply r1_ | apply r2_ | apply r3_)); exact HO252.out) hb)
   have n6_ := am_ (Kd.R_below (by (with_reducible repeat (first | apply r1_ | apply r2_ | apply r3_)); exact HO255.out) hb)
   have n7_ := am_ (Kd.R_lower (Kd.R_new' ho0 (Kd.R_lt (by (with_reducible repeat (first | apply r1_ | apply r2_ | apply r3_)); exact HO246.out))) (bz_ (by repeat (with_reducible first | exact HB.out | apply p3_ | apply p1_ | apply p2_ | refine bs_ ?_ GE243.out))))
   have n8_ := am_ (kb_ (g := gb243) (o := .cells #[.int .i64 t230, .int .i64 t231, .slice Ao19 t232.length co19, .slice Ao20 t235.length co20, .int .i64 t238, .string t239, .slice Ao21 t240.length co21] 26 (0, 0)) (by (with_reducible repeat (first | refine k2_ ?_ _ | refine k3_ ?_ | refine k1_ ?_ _)); exact BK243.out) hb)
   have n9_ := am_ (bt_ (by repeat (with_reducible first | exact HB.out | apply p3_ | apply p1_ | apply p2_ | refine bs_ ?_ GE243.out)) hb)
   clear HO234
   clear HO237
   clear HO242
   clear HO246
   clear HO249
   clear HO252
   clear HO255
   clear BK243
   clear HB
   have HO234 := n0_
   have HO237 := n1_
   have HO242 := n2_
   have HO246 := n3_
   have HO249 := n4_
   have HO252 := n5_
   have HO255 := n6_
   have HO260 := n7_
   have BK243 := n8_
   have HB := n9_
   clear n0_ n1_ n2_ n3_ n4_ n5_ n6_ n7_ n8_ n9_
   (try clear hb)
   (try clear hb2)
   (try clear hk)
   (try clear hi)
   (try clear ho0)
   refine hK.out _ _ ⟨(bc_ BK243.out 0).trans rfl, (bc_ BK243.out 1).trans rfl, (bc_ BK243.out 2).trans rfl, (bc_ BK243.out 3).trans rfl, (bc_ BK243.out 4).trans rfl, (bc_ BK243.out 5).trans rfl, (bc_ BK243.out 6).trans rfl, HS7_, HS8_, HS9_, HS10_, HS11_, HS12_⟩ (fun hHeld => ?_)
   clear hK K
   refine norm_ (a' := ?_) ?_ ?_
   rotate_left
   ·show Act.put _ (some 52) _ = _
    simp only [Act.put, sa_, sb_, sc_, i64_w, i32_w]
    rfl
   refine pure_ (i := 11) (N := some 41) (v := ?_) (a' := ?_) #[true, true, true, true, true, true, true, true, true, true, true, true, false, false, false, false, false, false, false, false] rfl rfl (any_of HT_.out (by kernel_rfl)) (fun _ _ _ h => h) (Or.inl ⟨by rfl, ?_⟩) ?_ ?_
   rotate_left
   ·intro w'
    go_simp
    with_reducible rfl
   rotate_left
   ·simp only [Act.put, sa_, sb_, sc_, i64_w, i32_w]
    rfl
   refine pure_ (i := 12) (N := some 53) (v := ?_) (a' := ?_) #[true, true, true, true, true, true, true, true, true, true, true, true, true, false, false, false, false, false, false, false] rfl rfl (any_of HT_.out (by kernel_rfl)) (fun _ _ _ h => h) (Or.inl ⟨by rfl, ?_⟩) ?_ ?_
   rotate_left
   ·intro w'
    go_simp
    with_reducible rfl
   rotate_left
   ·simp only [Act.put, sa_, sb_, sc_, i64_w, i32_w]
    rfl
   refine pure_ (i := 13) (N := some 54) (v := ?_) (a' := ?_) #[true, true, true, true, true, true, true, true, true, true, true, true, true, true, false, false, false, false, false, false] rfl rfl (any_of HT_.out (by kernel_rfl)) (fun _ _ _ h => h) (Or.inl ⟨by rfl, ?_⟩) ?_ ?_
   rotate_left
   ·intro w'
    go_simp
    with_reducible rfl
   rotate_left
   ·simp only [Act.put, sa_, sb_, sc_, i64_w, i32_w]
    rfl
   refine pure_ (i := 14) (N := some 55) (v := ?_) (a' := ?_) #[true, true, true, true, true, true, true, true, true, true, true, true, true, true, true, false, false, false, false, false] rfl rfl (any_of HT_.out (by kernel_rfl)) (fun _ _ _ h => h) (Or.inl ⟨by rfl, ?_⟩) ?_ ?_
   rotate_left
   ·intro w'
    go_simp
    with_reducible rfl
   rotate_left
   ·simp only [Act.put, sa_, sb_, sc_, i64_w, i32_w]
    rfl
   refine pure_ (i := 15) (N := some 56) (v := ?_) (a' := ?_) #[true, true, true, true, true, true, true, true, true, true, true, true, true, true, true, true, false, false, false, false] rfl rfl (any_of HT_.out (by kernel_rfl)) (fun _ _ _ h => h) (Or.inl ⟨by rfl, ?_⟩) ?_ ?_
   rotate_left
   ·intro w'
    go_simp
    with_reducible rfl
   rotate_left
   ·simp only [Act.put, sa_, sb_, sc_, i64_w, i32_w]
    rfl
   refine pure_ (i := 16) (N := some 9) (v := ?_) (a' := ?_) #[true, true, true, true, true, true, true, true, true, true, true, true, true, true, true, true, true, false, false, false] rfl rfl (any_of HT_.out (by kernel_rfl)) (fun _ _ _ h => h) (Or.inl ⟨by rfl, ?_⟩) ?_ ?_
   rotate_left
   ·intro w'
    go_simp
    with_reducible rfl
   rotate_left
   ·simp only [Act.put, sa_, sb_, sc_, i64_w, i32_w]
    rfl
   refine pure_ (i := 17) (N := some 10) (v := ?_) (a' := ?_) #[true, true, true, true, true, true, true, true, true, true, true, true, true, true, true, true, true, true, false, false] rfl rfl (any_of HT_.out (by kernel_rfl)) (fun _ _ _ h => h) (Or.inl ⟨by rfl, ?_⟩) ?_ ?_
   rotate_left
   ·intro w'
    go_simp
    with_reducible rfl
   rotate_left
   ·simp only [Act.put, sa_, sb_, sc_, i64_w, i32_w]
    rfl
   refine pure_ (i := 18) (N := some 11) (v := ?_) (a' := ?_) #[true, true, true, true, true, true, true, true, true, true, true, true, true, true, true, true, true, true, true, false] rfl rfl (any_of HT_.out (by kernel_rfl)) (fun _ _ _ h => h) (Or.inl ⟨by rfl, ?_⟩) ?_ ?_
   rotate_left
   ·intro w'
    go_simp
    with_reducible rfl
   rotate_left
   ·simp only [Act.put, sa_, sb_, sc_, i64_w, i32_w]
    rfl
   refine pure_ (i := 19) (N := some 12) (v := ?_) (a' := ?_) #[true, true, true, true, true, true, true, true, true, true, true, true, true, true, true, true, true, true, true, true] rfl rfl (any_of HT_.out (by kernel_rfl)) (fun _ _ _ h => h) (Or.inl ⟨by rfl, ?_⟩) ?_ ?_
   rotate_left
   ·intro w'
    go_simp
    with_reducible rfl
   rotate_left
   ·simp only [Act.put, sa_, sb_, sc_, i64_w, i32_w]
    rfl
   refine done_ (done_of HT_.out (by kernel_rfl)) ?_
   obtain ⟨Ao35, co35, eo35⟩ := Kd.R_slice HO255.out
   subst eo35
   have p264 : 0 ≤ ((ji5) : Int) := of_decide_eq_true (by first | (with_reducible assumption) | assumption)
   have q264 : (ji5) < (y253.length : Int) := of_decide_eq_true (by first | (with_reducible assumption) | assumption)
   obtain ⟨ad264, e264, hx264_0⟩ := Kd.at_int (Kd.R_reads' HO255.out).2.2 (ji5) p264 q264
   cases e264
   replace p264 := eq_true p264
   replace q264 := eq_true q264
   try go_wp2_with (first | (go_at_call 10; (with_reducible refine (pinfoldlaw0_Num.calls t263 t265 _ A14.out).mono ?_); rintro e w' ⟨rfl, ⟨nd, rfl⟩⟩))
   all_goals first | (go_ret; exact ⟨by first | rfl | (simp [errW_none, errW_some] <;> rfl) | (simp only [← hji5]; first | rfl | (simp [errW_none, errW_some] <;> rfl)) | (simp [*, errW_none, errW_some] <;> rfl), by repeat (with_reducible first | exact HB.out | apply p3_ | apply p1_ | apply p2_ | refine bs_ ?_ GE243.out)⟩) | (exfalso; rename_i hh_; first | exact hh_ (beq_iff_eq.mp c13b0) | (rw [c13b0] at hh_; cases hh_) | simp_all)
  rw [if_neg c10] at H
  have c10b0 : (t261 == 1) = false := e2_ c10
  have c10b1 : (t261 != 1) = true := bne_iff_ne.mpr c10
  replace H := e4_ H
  obtain ⟨t266, A360, H⟩ := H
  replace H : (if t266 = true then (if ((t261 == 1) != (t262 != 0)) = true then (none) else (if (ji5) < (y253.length : Int) then (if t261 = (rd y253 (ji5)) then ((pinfoldlaw0_Num.f t263).bind fun t268 => (some (t268 == 0))) else (none)) else (none))) else (none)) = some r := H
  have A36 := am_ A360
  clear A360
  by_cases c37 : t266 = true
  ·subst c37
   have H1 : (if ((t261 == 1) != (t262 != 0)) = true then (none) else (if (ji5) < (y253.length : Int) then (if t261 = (rd y253 (ji5)) then ((pinfoldlaw0_Num.f t263).bind fun t268 => (some (t268 == 0))) else (none)) else (none))) = some r := by rw [if_pos rfl] at H; exact H
   clear H
   have H := H1
   clear H1
   by_cases c38 : ((t261 == 1) != (t262 != 0)) = true
   ·rw [if_pos c38] at H
    exact absurd H (by simp)
   rw [if_neg c38] at H
   have c38b0 : ((t261 == 1) != (t262 != 0)) = false := by simpa using c38
   have c38b7 : (t262 != 0) = (t261 == 1) := by have h_ := c38b0; revert h_; cases (t261 == 1) <;> cases (t262 != 0) <;> decide
   rw [c10b0] at c38b7
   (try (have c38b1 : decide ((t261 == 1) = (t262 != 0)) = true := by simpa using c38))
   (try (have c38b2 : ((t261 == 1) == (t262 != 0)) = true := by simpa using c38))
   clear c38
   by_cases c39 : (ji5) < (y253.length : Int)
   rotate_left
   ·rw [if_neg c39] at H
    exact absurd H (by simp)
   rw [if_pos c39] at H
   have c39b0 : decide ((ji5) < (y253.length : Int)) = true := decide_eq_true c39
   clear c39
   by_cases c40 : t261 = (rd y253 (ji5))
   rotate_left
   ·rw [if_neg c40] at H
    exact absurd H (by simp)
   rw [if_pos c40] at H
   have c40b0 : (t261 == (rd y253 (ji5))) = true := beq_iff_eq.mpr c40
   have c40b1 : (t261 != (rd y253 (ji5))) = false := e1_ c40
   clear c40
   replace H := e4_ H
   obtain ⟨t268, A410, H⟩ := H
   replace H : (some (t268 == 0)) = some r := H
   have A41 := am_ A410
   clear A410
   obtain rfl := e5_ H
   go_enter Tryd.func5, Tryd.ntmps5
   try go_wp2_with (first | ((with_reducible refine gate_callee (f := 8) rfl ?_); refine goesL_ (some 13) rfl rfl Tryd.func8 (by kernel_rfl) rfl #[] rfl (by (try simp only [List.map_toArray, List.map_cons, List.map_nil]); first | done | rfl | (simp only [List.length_drop, List.length_take]; rfl)) ?_; (with_reducible refine (pinfoldlaw17_awake.calls  true _ A2.out).mono ?_); rintro e w42 ⟨rfl, hb⟩; refine ⟨_, rfl, ?_⟩; have n0_ := am_ (bt_ (by repeat (with_reducible first | exact HB.out | apply p3_ | apply p1_ | apply p2_)) hb); clear HB; have HB := n0_; clear n0_; (try clear hb)) | ((with_reducible refine gate_callee (f := 16) rfl ?_); refine goesL_ (some 15) rfl rfl Tryd.func16 (by kernel_rfl) rfl #[] rfl (by (try simp only [List.map_toArray, List.map_cons, List.map_nil]); first | done | rfl | (simp only [List.length_drop, List.length_take]; rfl)) ?_; (with_reducible refine (pinfoldlaw17_given.calls  t230 t231 t232 t235 t238 t239 t240 _ A4.out).mono ?_); rintro e w43 ⟨v233, v236, v241, rfl, ho0, ho1, ho2, hb⟩; refine ⟨_, rfl, ?_⟩; have n0_ := am_ (Kd.R_lower ho0 (bz_ (by repeat (with_reducible first | exact HB.out | apply p3_ | apply p1_ | apply p2_)))); have n1_ := am_ (Kd.R_lower ho1 (bz_ (by repeat (with_reducible first | exact HB.out | apply p3_ | apply p1_ | apply p2_)))); have n2_ := am_ (Kd.R_lower ho2 (bz_ (by repeat (with_reducible first | exact HB.out | apply p3_ | apply p1_ | apply p2_)))); have n3_ := am_ (bt_ (by repeat (with_reducible first | exact HB.out | apply p3_ | apply p1_ | apply p2_)) hb); clear HB; have HO234 := n0_; have HO237 := n1_; have HO242 := n2_; have HB := n3_; clear n0_ n1_ n2_ n3_; (try clear hb); (try clear ho0); (try clear ho1); (try clear ho2)) | ((with_reducible refine gate_dst (N := 3) rfl ?_); refine box_event ?hg (N := 3) ?hd (cs := #[.int .i64 0, .int .i64 0, .slice none 0 0, .slice none 0 0, .int .i64 0, .string (⟨#[]⟩ : ByteArray), .slice none 0 0]) (t := 26) ?hr ?_; (case hd => rfl); (case hg => rfl); (case hr => first | (go_simp; done) | (go_simp; rfl)); intro gb243 hg w44 hbox hb; have n0_ := am_ (Kd.R_below (by (with_reducible repeat (first | apply r1_ | apply r2_ | apply r3_)); exact HO234.out) hb); have n1_ := am_ (Kd.R_below (by (with_reducible repeat (first | apply r1_ | apply r2_ | apply r3_)); exact HO237.out) hb); have n2_ := am_ (Kd.R_below (by (with_reducible repeat (first | apply r1_ | apply r2_ | apply r3_)); exact HO242.out) hb); have n3_ := am_ (bt_ (by repeat (with_reducible first | exact HB.out | apply p3_ | apply p1_ | apply p2_)) hb); have n4_ := am_ (hbox); have n5_ := am_ ((by rw [hg]; exact (bz_ (by repeat (with_reducible first | exact HB.out | apply p3_ | apply p1_ | apply p2_))) : w.heap.size ≤ gb243)); have n6_ := am_ ((by rw [hg]; exact (bz_ (by repeat (with_reducible first | exact HB.out | apply p3_ | apply p1_ | apply p2_))) : w.heap.size ≤ gb243)); clear HO234; clear HO237; clear HO242; clear HB; have HO234 := n0_; have HO237 := n1_; have HO242 := n2_; have HB := n3_; have BK243 := n4_; have GW243 := n5_; have GE243 := n6_; clear n0_ n1_ n2_ n3_ n4_ n5_ n6_; clear hb hbox hg; have hcz45_0 : w44.cell? ⟨gb243, 0, none⟩ = some (.int .i64 0) := (bc_ BK243.out 0).trans rfl; have hcz45_1 : w44.cell? ⟨gb243, 1, none⟩ = some (.int .i64 0) := (bc_ BK243.out 1).trans rfl; have hcz45_2 : w44.cell? ⟨gb243, 2, none⟩ = some (.slice none 0 0) := (bc_ BK243.out 2).trans rfl; have hcz45_3 : w44.cell? ⟨gb243, 3, none⟩ = some (.slice none 0 0) := (bc_ BK243.out 3).trans rfl; have hcz45_4 : w44.cell? ⟨gb243, 4, none⟩ = some (.int .i64 0) := (bc_ BK243.out 4).trans rfl; have hcz45_5 : w44.cell? ⟨gb243, 5, none⟩ = some (.string (⟨#[]⟩ : ByteArray)) := (bc_ BK243.out 5).trans rfl; have hcz45_6 : w44.cell? ⟨gb243, 6, none⟩ = some (.slice none 0 0) := (bc_ BK243.out 6).trans rfl; have hfz45_0 := bf_ BK243.out 0; have hfz45_1 := bf_ BK243.out 1; have hfz45_2 := bf_ BK243.out 2; have hfz45_3 := bf_ BK243.out 3; have hfz45_4 := bf_ BK243.out 4; have hfz45_5 := bf_ BK243.out 5; have hfz45_6 := bf_ BK243.out 6; obtain ⟨Ao46, co46, eo46⟩ := Kd.R_slice HO234.out; subst eo46; obtain ⟨Ao47, co47, eo47⟩ := Kd.R_slice HO237.out; subst eo47; obtain ⟨Ao48, co48, eo48⟩ := Kd.R_slice HO242.out; subst eo48) | ((with_reducible refine gate_dst (N := 19) rfl ?_); refine Kd.R_lit k36 _ 36 ?hg (N := 19) ?hd (xs := ([(⟨10, 2, (⟨#[109, 101]⟩ : ByteArray), 50, (⟨#[112, 99]⟩ : ByteArray), true⟩ : S36), (⟨11, 1, (⟨#[121, 111, 117]⟩ : ByteArray), 50, (⟨#[]⟩ : ByteArray), false⟩ : S36), (⟨13, 0, (⟨#[118, 105, 112]⟩ : ByteArray), 2, (⟨#[]⟩ : ByteArray), false⟩ : S36)] : List (S36))) (inner := [.int .i64 10, .int .i64 2, .string (⟨#[109, 101]⟩ : ByteArray), .int .i64 50, .string (⟨#[112, 99]⟩ : ByteArray), .bool true, .int .i64 11, .int .i64 1, .string (⟨#[121, 111, 117]⟩ : ByteArray), .int .i64 50, .string (⟨#[]⟩ : ByteArray), .bool false, .int .i64 13, .int .i64 0, .string (⟨#[118, 105, 112]⟩ : ByteArray), .int .i64 2, .string (⟨#[]⟩ : ByteArray), .bool false]) (ok := fun _ => True) (okp := fun _ => True) ?hr ?hp (fun _ hk => hk) trivial (Below.refl _ _) (Nat.le_refl _) (by simp) ?_; (case hd => rfl); (case hg => rfl); (case hr => first | (go_simp; done) | (go_simp; rfl)); (case hp => exact (Reps.c6 (show Kd.M k36 _ _ _ (⟨10, 2, (⟨#[109, 101]⟩ : ByteArray), 50, (⟨#[112, 99]⟩ : ByteArray), true⟩ : S36) [.int .i64 10, .int .i64 2, .string (⟨#[109, 101]⟩ : ByteArray), .int .i64 50, .string (⟨#[112, 99]⟩ : ByteArray), .bool true] from (k36_mkM _ _ _ (⟨10, 2, (⟨#[109, 101]⟩ : ByteArray), 50, (⟨#[112, 99]⟩ : ByteArray), true⟩ : S36) )) (Reps.c6 (show Kd.M k36 _ _ _ (⟨11, 1, (⟨#[121, 111, 117]⟩ : ByteArray), 50, (⟨#[]⟩ : ByteArray), false⟩ : S36) [.int .i64 11, .int .i64 1, .string (⟨#[121, 111, 117]⟩ : ByteArray), .int .i64 50, .string (⟨#[]⟩ : ByteArray), .bool false] from (k36_mkM _ _ _ (⟨11, 1, (⟨#[121, 111, 117]⟩ : ByteArray), 50, (⟨#[]⟩ : ByteArray), false⟩ : S36) )) (Reps.c6 (show Kd.M k36 _ _ _ (⟨13, 0, (⟨#[118, 105, 112]⟩ : ByteArray), 2, (⟨#[]⟩ : ByteArray), false⟩ : S36) [.int .i64 13, .int .i64 0, .string (⟨#[118, 105, 112]⟩ : ByteArray), .int .i64 2, .string (⟨#[]⟩ : ByteArray), .bool false] from (k36_mkM _ _ _ (⟨13, 0, (⟨#[118, 105, 112]⟩ : ByteArray), 2, (⟨#[]⟩ : ByteArray), false⟩ : S36) )) (Reps.none _ _))))); intro v245 w49 ho50 hb hg_ hnew_; clear hg_ hnew_; (first | rw [← Ny244.out] at ho50 | (simp only [Int.reduceToNat] at ho50; rw [← Ny244.out] at ho50)); have n0_ := am_ (Kd.R_below (by (with_reducible repeat (first | apply r1_ | apply r2_ | apply r3_)); exact (Kd.R_mono (Kd.R_far (p := ⟨gb243, 6, none⟩) (Kd.R_far (p := ⟨gb243, 5, none⟩) (Kd.R_far (p := ⟨gb243, 4, none⟩) (Kd.R_far (p := ⟨gb243, 3, none⟩) (Kd.R_far (p := ⟨gb243, 2, none⟩) (Kd.R_far (p := ⟨gb243, 1, none⟩) (Kd.R_far (p := ⟨gb243, 0, none⟩) (Kd.R_types HO234.out BK243.out (by decide)) (fun _ hk => hk.2) (.int .i64 t230)) (fun _ hk => hk.2) (.int .i64 t231)) (fun _ hk => hk.2) (.slice Ao46 t232.length co46)) (fun _ hk => hk.2) (.slice Ao47 t235.length co47)) (fun _ hk => hk.2) (.int .i64 t238)) (fun _ hk => hk.2) (.string t239)) (fun _ hk => hk.2) (.slice Ao48 t240.length co48)) (fun _ h_ => h_.1))) hb); have n1_ := am_ (Kd.R_below (by (with_reducible repeat (first | apply r1_ | apply r2_ | apply r3_)); exact (Kd.R_mono (Kd.R_far (p := ⟨gb243, 6, none⟩) (Kd.R_far (p := ⟨gb243, 5, none⟩) (Kd.R_far (p := ⟨gb243, 4, none⟩) (Kd.R_far (p := ⟨gb243, 3, none⟩) (Kd.R_far (p := ⟨gb243, 2, none⟩) (Kd.R_far (p := ⟨gb243, 1, none⟩) (Kd.R_far (p := ⟨gb243, 0, none⟩) (Kd.R_types HO237.out BK243.out (by decide)) (fun _ hk => hk.2) (.int .i64 t230)) (fun _ hk => hk.2) (.int .i64 t231)) (fun _ hk => hk.2) (.slice Ao46 t232.length co46)) (fun _ hk => hk.2) (.slice Ao47 t235.length co47)) (fun _ hk => hk.2) (.int .i64 t238)) (fun _ hk => hk.2) (.string t239)) (fun _ hk => hk.2) (.slice Ao48 t240.length co48)) (fun _ h_ => h_.1))) hb); have n2_ := am_ (Kd.R_below (by (with_reducible repeat (first | apply r1_ | apply r2_ | apply r3_)); exact (Kd.R_mono (Kd.R_far (p := ⟨gb243, 6, none⟩) (Kd.R_far (p := ⟨gb243, 5, none⟩) (Kd.R_far (p := ⟨gb243, 4, none⟩) (Kd.R_far (p := ⟨gb243, 3, none⟩) (Kd.R_far (p := ⟨gb243, 2, none⟩) (Kd.R_far (p := ⟨gb243, 1, none⟩) (Kd.R_far (p := ⟨gb243, 0, none⟩) (Kd.R_types HO242.out BK243.out (by decide)) (fun _ hk => hk.2) (.int .i64 t230)) (fun _ hk => hk.2) (.int .i64 t231)) (fun _ hk => hk.2) (.slice Ao46 t232.length co46)) (fun _ hk => hk.2) (.slice Ao47 t235.length co47)) (fun _ hk => hk.2) (.int .i64 t238)) (fun _ hk => hk.2) (.string t239)) (fun _ hk => hk.2) (.slice Ao48 t240.length co48)) (fun _ h_ => h_.1))) hb); have n3_ := am_ (Kd.R_lower ho50 (bz_ (by repeat (with_reducible first | exact HB.out | apply p3_ | apply p1_ | apply p2_ | refine bs_ ?_ GE243.out)))); have n4_ := am_ (kb_ (g := gb243) (o := .cells #[.int .i64 t230, .int .i64 t231, .slice Ao46 t232.length co46, .slice Ao47 t235.length co47, .int .i64 t238, .string t239, .slice Ao48 t240.length co48] 26 (0, 0)) (by (with_reducible repeat (first | refine k2_ ?_ _ | refine k3_ ?_ | refine k1_ ?_ _)); refine blk_put (cs := #[.int .i64 t230, .int .i64 t231, .slice Ao46 t232.length co46, .slice Ao47 t235.length co47, .int .i64 t238, .string t239, .slice none 0 0]) ?_ 6 _ rfl; (with_reducible repeat (first | refine k2_ ?_ _ | refine k3_ ?_ | refine k1_ ?_ _)); refine blk_put (cs := #[.int .i64 t230, .int .i64 t231, .slice Ao46 t232.length co46, .slice Ao47 t235.length co47, .int .i64 t238, .string (⟨#[]⟩ : ByteArray), .slice none 0 0]) ?_ 5 _ rfl; (with_reducible repeat (first | refine k2_ ?_ _ | refine k3_ ?_ | refine k1_ ?_ _)); refine blk_put (cs := #[.int .i64 t230, .int .i64 t231, .slice Ao46 t232.length co46, .slice Ao47 t235.length co47, .int .i64 0, .string (⟨#[]⟩ : ByteArray), .slice none 0 0]) ?_ 4 _ rfl; (with_reducible repeat (first | refine k2_ ?_ _ | refine k3_ ?_ | refine k1_ ?_ _)); refine blk_put (cs := #[.int .i64 t230, .int .i64 t231, .slice Ao46 t232.length co46, .slice none 0 0, .int .i64 0, .string (⟨#[]⟩ : ByteArray), .slice none 0 0]) ?_ 3 _ rfl; (with_reducible repeat (first | refine k2_ ?_ _ | refine k3_ ?_ | refine k1_ ?_ _)); refine blk_put (cs := #[.int .i64 t230, .int .i64 t231, .slice none 0 0, .slice none 0 0, .int .i64 0, .string (⟨#[]⟩ : ByteArray), .slice none 0 0]) ?_ 2 _ rfl; (with_reducible repeat (first | refine k2_ ?_ _ | refine k3_ ?_ | refine k1_ ?_ _)); refine blk_put (cs := #[.int .i64 t230, .int .i64 0, .slice none 0 0, .slice none 0 0, .int .i64 0, .string (⟨#[]⟩ : ByteArray), .slice none 0 0]) ?_ 1 _ rfl; (with_reducible repeat (first | refine k2_ ?_ _ | refine k3_ ?_ | refine k1_ ?_ _)); refine blk_put (cs := #[.int .i64 0, .int .i64 0, .slice none 0 0, .slice none 0 0, .int .i64 0, .string (⟨#[]⟩ : ByteArray), .slice none 0 0]) ?_ 0 _ rfl; (with_reducible repeat (first | refine k2_ ?_ _ | refine k3_ ?_ | refine k1_ ?_ _)); exact BK243.out) hb); have n5_ := am_ (bt_ (by repeat (with_reducible first | exact HB.out | apply p3_ | apply p1_ | apply p2_ | refine bs_ ?_ GE243.out)) hb); clear HO234; clear HO237; clear HO242; clear BK243; clear HB; have HO234 := n0_; have HO237 := n1_; have HO242 := n2_; have HO246 := n3_; have BK243 := n4_; have HB := n5_; clear n0_ n1_ n2_ n3_ n4_ n5_; clear hb ho50) | ((with_reducible refine gate_dst (N := 20) rfl ?_); refine Kd.R_lit Kd.string _ 9 ?hg (N := 20) ?hd (xs := ([(⟨#[109, 101]⟩ : ByteArray), (⟨#[109, 101]⟩ : ByteArray), (⟨#[109, 101]⟩ : ByteArray), (⟨#[121, 111, 117]⟩ : ByteArray), (⟨#[121, 111, 117]⟩ : ByteArray), (⟨#[121, 111, 117]⟩ : ByteArray), (⟨#[118, 105, 112]⟩ : ByteArray), (⟨#[118, 105, 112]⟩ : ByteArray), (⟨#[110, 101, 119]⟩ : ByteArray), (⟨#[110, 101, 119]⟩ : ByteArray), (⟨#[110, 101, 119]⟩ : ByteArray), (⟨#[110, 101, 119]⟩ : ByteArray), (⟨#[109, 101]⟩ : ByteArray), (⟨#[109, 101]⟩ : ByteArray)] : List ByteArray)) (inner := [.string (⟨#[109, 101]⟩ : ByteArray), .string (⟨#[109, 101]⟩ : ByteArray), .string (⟨#[109, 101]⟩ : ByteArray), .string (⟨#[121, 111, 117]⟩ : ByteArray), .string (⟨#[121, 111, 117]⟩ : ByteArray), .string (⟨#[121, 111, 117]⟩ : ByteArray), .string (⟨#[118, 105, 112]⟩ : ByteArray), .string (⟨#[118, 105, 112]⟩ : ByteArray), .string (⟨#[110, 101, 119]⟩ : ByteArray), .string (⟨#[110, 101, 119]⟩ : ByteArray), .string (⟨#[110, 101, 119]⟩ : ByteArray), .string (⟨#[110, 101, 119]⟩ : ByteArray), .string (⟨#[109, 101]⟩ : ByteArray), .string (⟨#[109, 101]⟩ : ByteArray)]) (ok := fun _ => True) (okp := fun _ => True) ?hr ?hp (fun _ hk => hk) trivial (Below.refl _ _) (Nat.le_refl _) (by simp) ?_; (case hd => rfl); (case hg => rfl); (case hr => first | (go_simp; done) | (go_simp; rfl)); (case hp => exact (Reps.one (show Kd.M Kd.string _ _ _ (⟨#[109, 101]⟩ : ByteArray) [.string (⟨#[109, 101]⟩ : ByteArray)] from rfl) (Reps.one (show Kd.M Kd.string _ _ _ (⟨#[109, 101]⟩ : ByteArray) [.string (⟨#[109, 101]⟩ : ByteArray)] from rfl) (Reps.one (show Kd.M Kd.string _ _ _ (⟨#[109, 101]⟩ : ByteArray) [.string (⟨#[109, 101]⟩ : ByteArray)] from rfl) (Reps.one (show Kd.M Kd.string _ _ _ (⟨#[121, 111, 117]⟩ : ByteArray) [.string (⟨#[121, 111, 117]⟩ : ByteArray)] from rfl) (Reps.one (show Kd.M Kd.string _ _ _ (⟨#[121, 111, 117]⟩ : ByteArray) [.string (⟨#[121, 111, 117]⟩ : ByteArray)] from rfl) (Reps.one (show Kd.M Kd.string _ _ _ (⟨#[121, 111, 117]⟩ : ByteArray) [.string (⟨#[121, 111, 117]⟩ : ByteArray)] from rfl) (Reps.one (show Kd.M Kd.string _ _ _ (⟨#[118, 105, 112]⟩ : ByteArray) [.string (⟨#[118, 105, 112]⟩ : ByteArray)] from rfl) (Reps.one (show Kd.M Kd.string _ _ _ (⟨#[118, 105, 112]⟩ : ByteArray) [.string (⟨#[118, 105, 112]⟩ : ByteArray)] from rfl) (Reps.one (show Kd.M Kd.string _ _ _ (⟨#[110, 101, 119]⟩ : ByteArray) [.string (⟨#[110, 101, 119]⟩ : ByteArray)] from rfl) (Reps.one (show Kd.M Kd.string _ _ _ (⟨#[110, 101, 119]⟩ : ByteArray) [.string (⟨#[110, 101, 119]⟩ : ByteArray)] from rfl) (Reps.one (show Kd.M Kd.string _ _ _ (⟨#[110, 101, 119]⟩ : ByteArray) [.string (⟨#[110, 101, 119]⟩ : ByteArray)] from rfl) (Reps.one (show Kd.M Kd.string _ _ _ (⟨#[110, 101, 119]⟩ : ByteArray) [.string (⟨#[110, 101, 119]⟩ : ByteArray)] from rfl) (Reps.one (show Kd.M Kd.string _ _ _ (⟨#[109, 101]⟩ : ByteArray) [.string (⟨#[109, 101]⟩ : ByteArray)] from rfl) (Reps.one (show Kd.M Kd.string _ _ _ (⟨#[109, 101]⟩ : ByteArray) [.string (⟨#[109, 101]⟩ : ByteArray)] from rfl) (Reps.none _ _)))))))))))))))); intro v248 w51 ho52 hb hg_ hnew_; clear hg_ hnew_; (first | rw [← Ny247.out] at ho52 | (simp only [Int.reduceToNat] at ho52; rw [← Ny247.out] at ho52)); have n0_ := am_ (Kd.R_below (by (with_reducible repeat (first | apply r1_ | apply r2_ | apply r3_)); exact HO234.out) hb); have n1_ := am_ (Kd.R_below (by (with_reducible repeat (first | apply r1_ | apply r2_ | apply r3_)); exact HO237.out) hb); have n2_ := am_ (Kd.R_below (by (with_reducible repeat (first | apply r1_ | apply r2_ | apply r3_)); exact HO242.out) hb); have n3_ := am_ (Kd.R_below (by (with_reducible repeat (first | apply r1_ | apply r2_ | apply r3_)); exact HO246.out) hb); have n4_ := am_ (Kd.R_lower ho52 (bz_ (by repeat (with_reducible first | exact HB.out | apply p3_ | apply p1_ | apply p2_ | refine bs_ ?_ GE243.out)))); have n5_ := am_ (kb_ (g := gb243) (o := .cells #[.int .i64 t230, .int .i64 t231, .slice Ao46 t232.length co46, .slice Ao47 t235.length co47, .int .i64 t238, .string t239, .slice Ao48 t240.length co48] 26 (0, 0)) (by (with_reducible repeat (first | refine k2_ ?_ _ | refine k3_ ?_ | refine k1_ ?_ _)); exact BK243.out) hb); have n6_ := am_ (bt_ (by repeat (with_reducible first | exact HB.out | apply p3_ | apply p1_ | apply p2_ | refine bs_ ?_ GE243.out)) hb); clear HO234; clear HO237; clear HO242; clear HO246; clear BK243; clear HB; have HO234 := n0_; have HO237 := n1_; have HO242 := n2_; have HO246 := n3_; have HO249 := n4_; have BK243 := n5_; have HB := n6_; clear n0_ n1_ n2_ n3_ n4_ n5_ n6_; clear hb ho52) | ((with_reducible refine gate_dst (N := 35) rfl ?_); refine Kd.R_lit k29 _ 29 ?hg (N := 35) ?hd (xs := ([(⟨false, 0, 0, 10, (⟨#[]⟩ : ByteArray)⟩ : S29), (⟨false, 0, 10, 0, (⟨#[]⟩ : ByteArray)⟩ : S29), (⟨false, 0, 0, 11, (⟨#[]⟩ : ByteArray)⟩ : S29), (⟨true, 167772161, 11, 0, (⟨#[]⟩ : ByteArray)⟩ : S29), (⟨false, 0, 11, 0, (⟨#[]⟩ : ByteArray)⟩ : S29), (⟨true, 167772161, 10, 0, (⟨#[]⟩ : ByteArray)⟩ : S29), (⟨false, 0, 0, 13, (⟨#[]⟩ : ByteArray)⟩ : S29), (⟨true, 167772161, 13, 0, (⟨#[]⟩ : ByteArray)⟩ : S29), (⟨false, 0, 13, 0, (⟨#[]⟩ : ByteArray)⟩ : S29), (⟨false, 0, 12, 0, (⟨#[]⟩ : ByteArray)⟩ : S29), (⟨false, 0, 99, 0, (⟨#[]⟩ : ByteArray)⟩ : S29), (⟨false, 0, 0, 0, (⟨#[]⟩ : ByteArray)⟩ : S29), (⟨true, 7, 10, 0, (⟨#[]⟩ : ByteArray)⟩ : S29), (⟨true, 167772161, 0, 10, (⟨#[]⟩ : ByteArray)⟩ : S29)] : List (S29))) (inner := [.bool false, .int .i64 0, .int .i64 0, .int .i64 10, .string (⟨#[]⟩ : ByteArray), .bool false, .int .i64 0, .int .i64 10, .int .i64 0, .string (⟨#[]⟩ : ByteArray), .bool false, .int .i64 0, .int .i64 0, .int .i64 11, .string (⟨#[]⟩ : ByteArray), .bool true, .int .i64 167772161, .int .i64 11, .int .i64 0, .string (⟨#[]⟩ : ByteArray), .bool false, .int .i64 0, .int .i64 11, .int .i64 0, .string (⟨#[]⟩ : ByteArray), .bool true, .int .i64 167772161, .int .i64 10, .int .i64 0, .string (⟨#[]⟩ : ByteArray), .bool false, .int .i64 0, .int .i64 0, .int .i64 13, .string (⟨#[]⟩ : ByteArray), .bool true, .int .i64 167772161, .int .i64 13, .int .i64 0, .string (⟨#[]⟩ : ByteArray), .bool false, .int .i64 0, .int .i64 13, .int .i64 0, .string (⟨#[]⟩ : ByteArray), .bool false, .int .i64 0, .int .i64 12, .int .i64 0, .string (⟨#[]⟩ : ByteArray), .bool false, .int .i64 0, .int .i64 99, .int .i64 0, .string (⟨#[]⟩ : ByteArray), .bool false, .int .i64 0, .int .i64 0, .int .i64 0, .string (⟨#[]⟩ : ByteArray), .bool true, .int .i64 7, .int .i64 10, .int .i64 0, .string (⟨#[]⟩ : ByteArray), .bool true, .int .i64 167772161, .int .i64 0, .int .i64 10, .string (⟨#[]⟩ : ByteArray)]) (ok := fun _ => True) (okp := fun _ => True) ?hr ?hp (fun _ hk => hk) trivial (Below.refl _ _) (Nat.le_refl _) (by simp) ?_; (case hd => rfl); (case hg => rfl); (case hr => first | (go_simp; done) | (go_simp; rfl)); (case hp => exact (Reps.c5 (show Kd.M k29 _ _ _ (⟨false, 0, 0, 10, (⟨#[]⟩ : ByteArray)⟩ : S29) [.bool false, .int .i64 0, .int .i64 0, .int .i64 10, .string (⟨#[]⟩ : ByteArray)] from (k29_mkM _ _ _ (⟨false, 0, 0, 10, (⟨#[]⟩ : ByteArray)⟩ : S29) )) (Reps.c5 (show Kd.M k29 _ _ _ (⟨false, 0, 10, 0, (⟨#[]⟩ : ByteArray)⟩ : S29) [.bool false, .int .i64 0, .int .i64 10, .int .i64 0, .string (⟨#[]⟩ : ByteArray)] from (k29_mkM _ _ _ (⟨false, 0, 10, 0, (⟨#[]⟩ : ByteArray)⟩ : S29) )) (Reps.c5 (show Kd.M k29 _ _ _ (⟨false, 0, 0, 11, (⟨#[]⟩ : ByteArray)⟩ : S29) [.bool false, .int .i64 0, .int .i64 0, .int .i64 11, .string (⟨#[]⟩ : ByteArray)] from (k29_mkM _ _ _ (⟨false, 0, 0, 11, (⟨#[]⟩ : ByteArray)⟩ : S29) )) (Reps.c5 (show Kd.M k29 _ _ _ (⟨true, 167772161, 11, 0, (⟨#[]⟩ : ByteArray)⟩ : S29) [.bool true, .int .i64 167772161, .int .i64 11, .int .i64 0, .string (⟨#[]⟩ : ByteArray)] from (k29_mkM _ _ _ (⟨true, 167772161, 11, 0, (⟨#[]⟩ : ByteArray)⟩ : S29) )) (Reps.c5 (show Kd.M k29 _ _ _ (⟨false, 0, 11, 0, (⟨#[]⟩ : ByteArray)⟩ : S29) [.bool false, .int .i64 0, .int .i64 11, .int .i64 0, .string (⟨#[]⟩ : ByteArray)] from (k29_mkM _ _ _ (⟨false, 0, 11, 0, (⟨#[]⟩ : ByteArray)⟩ : S29) )) (Reps.c5 (show Kd.M k29 _ _ _ (⟨true, 167772161, 10, 0, (⟨#[]⟩ : ByteArray)⟩ : S29) [.bool true, .int .i64 167772161, .int .i64 10, .int .i64 0, .string (⟨#[]⟩ : ByteArray)] from (k29_mkM _ _ _ (⟨true, 167772161, 10, 0, (⟨#[]⟩ : ByteArray)⟩ : S29) )) (Reps.c5 (show Kd.M k29 _ _ _ (⟨false, 0, 0, 13, (⟨#[]⟩ : ByteArray)⟩ : S29) [.bool false, .int .i64 0, .int .i64 0, .int .i64 13, .string (⟨#[]⟩ : ByteArray)] from (k29_mkM _ _ _ (⟨false, 0, 0, 13, (⟨#[]⟩ : ByteArray)⟩ : S29) )) (Reps.c5 (show Kd.M k29 _ _ _ (⟨true, 167772161, 13, 0, (⟨#[]⟩ : ByteArray)⟩ : S29) [.bool true, .int .i64 167772161, .int .i64 13, .int .i64 0, .string (⟨#[]⟩ : ByteArray)] from (k29_mkM _ _ _ (⟨true, 167772161, 13, 0, (⟨#[]⟩ : ByteArray)⟩ : S29) )) (Reps.c5 (show Kd.M k29 _ _ _ (⟨false, 0, 13, 0, (⟨#[]⟩ : ByteArray)⟩ : S29) [.bool false, .int .i64 0, .int .i64 13, .int .i64 0, .string (⟨#[]⟩ : ByteArray)] from (k29_mkM _ _ _ (⟨false, 0, 13, 0, (⟨#[]⟩ : ByteArray)⟩ : S29) )) (Reps.c5 (show Kd.M k29 _ _ _ (⟨false, 0, 12, 0, (⟨#[]⟩ : ByteArray)⟩ : S29) [.bool false, .int .i64 0, .int .i64 12, .int .i64 0, .string (⟨#[]⟩ : ByteArray)] from (k29_mkM _ _ _ (⟨false, 0, 12, 0, (⟨#[]⟩ : ByteArray)⟩ : S29) )) (Reps.c5 (show Kd.M k29 _ _ _ (⟨false, 0, 99, 0, (⟨#[]⟩ : ByteArray)⟩ : S29) [.bool false, .int .i64 0, .int .i64 99, .int .i64 0, .string (⟨#[]⟩ : ByteArray)] from (k29_mkM _ _ _ (⟨false, 0, 99, 0, (⟨#[]⟩ : ByteArray)⟩ : S29) )) (Reps.c5 (show Kd.M k29 _ _ _ (⟨false, 0, 0, 0, (⟨#[]⟩ : ByteArray)⟩ : S29) [.bool false, .int .i64 0, .int .i64 0, .int .i64 0, .string (⟨#[]⟩ : ByteArray)] from (k29_mkM _ _ _ (⟨false, 0, 0, 0, (⟨#[]⟩ : ByteArray)⟩ : S29) )) (Reps.c5 (show Kd.M k29 _ _ _ (⟨true, 7, 10, 0, (⟨#[]⟩ : ByteArray)⟩ : S29) [.bool true, .int .i64 7, .int .i64 10, .int .i64 0, .string (⟨#[]⟩ : ByteArray)] from (k29_mkM _ _ _ (⟨true, 7, 10, 0, (⟨#[]⟩ : ByteArray)⟩ : S29) )) (Reps.c5 (show Kd.M k29 _ _ _ (⟨true, 167772161, 0, 10, (⟨#[]⟩ : ByteArray)⟩ : S29) [.bool true, .int .i64 167772161, .int .i64 0, .int .i64 10, .string (⟨#[]⟩ : ByteArray)] from (k29_mkM _ _ _ (⟨true, 167772161, 0, 10, (⟨#[]⟩ : ByteArray)⟩ : S29) )) (Reps.none _ _)))))))))))))))); intro v251 w53 ho54 hb hg_ hnew_; clear hg_ hnew_; (first | rw [← Ny250.out] at ho54 | (simp only [Int.reduceToNat] at ho54; rw [← Ny250.out] at ho54)); have n0_ := am_ (Kd.R_below (by (with_reducible repeat (first | apply r1_ | apply r2_ | apply r3_)); exact HO234.out) hb); have n1_ := am_ (Kd.R_below (by (with_reducible repeat (first | apply r1_ | apply r2_ | apply r3_)); exact HO237.out) hb); have n2_ := am_ (Kd.R_below (by (with_reducible repeat (first | apply r1_ | apply r2_ | apply r3_)); exact HO242.out) hb); have n3_ := am_ (Kd.R_below (by (with_reducible repeat (first | apply r1_ | apply r2_ | apply r3_)); exact HO246.out) hb); have n4_ := am_ (Kd.R_below (by (with_reducible repeat (first | apply r1_ | apply r2_ | apply r3_)); exact HO249.out) hb); have n5_ := am_ (Kd.R_lower ho54 (bz_ (by repeat (with_reducible first | exact HB.out | apply p3_ | apply p1_ | apply p2_ | refine bs_ ?_ GE243.out)))); have n6_ := am_ (kb_ (g := gb243) (o := .cells #[.int .i64 t230, .int .i64 t231, .slice Ao46 t232.length co46, .slice Ao47 t235.length co47, .int .i64 t238, .string t239, .slice Ao48 t240.length co48] 26 (0, 0)) (by (with_reducible repeat (first | refine k2_ ?_ _ | refine k3_ ?_ | refine k1_ ?_ _)); exact BK243.out) hb); have n7_ := am_ (bt_ (by repeat (with_reducible first | exact HB.out | apply p3_ | apply p1_ | apply p2_ | refine bs_ ?_ GE243.out)) hb); clear HO234; clear HO237; clear HO242; clear HO246; clear HO249; clear BK243; clear HB; have HO234 := n0_; have HO237 := n1_; have HO242 := n2_; have HO246 := n3_; have HO249 := n4_; have HO252 := n5_; have BK243 := n6_; have HB := n7_; clear n0_ n1_ n2_ n3_ n4_ n5_ n6_ n7_; clear hb ho54) | ((with_reducible refine gate_dst (N := 36) rfl ?_); refine Kd.R_lit (Kd.int .i64) _ 3 ?hg (N := 36) ?hd (xs := ([1, 1, 2, 1, 2, 2, 1, 2, 2, 2, 2, 0, 0, 2] : List Int)) (inner := [.int .i64 1, .int .i64 1, .int .i64 2, .int .i64 1, .int .i64 2, .int .i64 2, .int .i64 1, .int .i64 2, .int .i64 2, .int .i64 2, .int .i64 2, .int .i64 0, .int .i64 0, .int .i64 2]) (ok := fun _ => True) (okp := fun _ => True) ?hr ?hp (fun _ hk => hk) trivial (Below.refl _ _) (Nat.le_refl _) (by simp) ?_; (case hd => rfl); (case hg => rfl); (case hr => first | (go_simp; done) | (go_simp; rfl)); (case hp => exact (Reps.one (show Kd.M (Kd.int .i64) _ _ _ 1 [.int .i64 1] from rfl) (Reps.one (show Kd.M (Kd.int .i64) _ _ _ 1 [.int .i64 1] from rfl) (Reps.one (show Kd.M (Kd.int .i64) _ _ _ 2 [.int .i64 2] from rfl) (Reps.one (show Kd.M (Kd.int .i64) _ _ _ 1 [.int .i64 1] from rfl) (Reps.one (show Kd.M (Kd.int .i64) _ _ _ 2 [.int .i64 2] from rfl) (Reps.one (show Kd.M (Kd.int .i64) _ _ _ 2 [.int .i64 2] from rfl) (Reps.one (show Kd.M (Kd.int .i64) _ _ _ 1 [.int .i64 1] from rfl) (Reps.one (show Kd.M (Kd.int .i64) _ _ _ 2 [.int .i64 2] from rfl) (Reps.one (show Kd.M (Kd.int .i64) _ _ _ 2 [.int .i64 2] from rfl) (Reps.one (show Kd.M (Kd.int .i64) _ _ _ 2 [.int .i64 2] from rfl) (Reps.one (show Kd.M (Kd.int .i64) _ _ _ 2 [.int .i64 2] from rfl) (Reps.one (show Kd.M (Kd.int .i64) _ _ _ 0 [.int .i64 0] from rfl) (Reps.one (show Kd.M (Kd.int .i64) _ _ _ 0 [.int .i64 0] from rfl) (Reps.one (show Kd.M (Kd.int .i64) _ _ _ 2 [.int .i64 2] from rfl) (Reps.none _ _)))))))))))))))); intro v254 w55 ho56 hb hg_ hnew_; clear hg_ hnew_; (first | rw [← Ny253.out] at ho56 | (simp only [Int.reduceToNat] at ho56; rw [← Ny253.out] at ho56)); have n0_ := am_ (r5_ (by (with_reducible repeat (first | apply r1_ | apply r2_ | apply r3_)); exact HO234.out) (r4_ ho56) hb); have n1_ := am_ (Kd.R_below (by (with_reducible repeat (first | apply r1_ | apply r2_ | apply r3_)); exact HO237.out) hb); have n2_ := am_ (Kd.R_below (by (with_reducible repeat (first | apply r1_ | apply r2_ | apply r3_)); exact HO242.out) hb); have n3_ := am_ (Kd.R_below (by (with_reducible repeat (first | apply r1_ | apply r2_ | apply r3_)); exact HO246.out) hb); have n4_ := am_ (Kd.R_below (by (with_reducible repeat (first | apply r1_ | apply r2_ | apply r3_)); exact HO249.out) hb); have n5_ := am_ (Kd.R_below (by (with_reducible repeat (first | apply r1_ | apply r2_ | apply r3_)); exact HO252.out) hb); have n6_ := am_ (Kd.R_lower (Kd.R_new' ho56 (Kd.R_lt (by (with_reducible repeat (first | apply r1_ | apply r2_ | apply r3_)); exact HO234.out))) (bz_ (by repeat (with_reducible first | exact HB.out | apply p3_ | apply p1_ | apply p2_ | refine bs_ ?_ GE243.out)))); have n7_ := am_ (kb_ (g := gb243) (o := .cells #[.int .i64 t230, .int .i64 t231, .slice Ao46 t232.length co46, .slice Ao47 t235.length co47, .int .i64 t238, .string t239, .slice Ao48 t240.length co48] 26 (0, 0)) (by (with_reducible repeat (first | refine k2_ ?_ _ | refine k3_ ?_ | refine k1_ ?_ _)); exact BK243.out) hb); have n8_ := am_ (bt_ (by repeat (with_reducible first | exact HB.out | apply p3_ | apply p1_ | apply p2_ | refine bs_ ?_ GE243.out)) hb); clear HO234; clear HO237; clear HO242; clear HO246; clear HO249; clear HO252; clear BK243; clear HB; have HO234 := n0_; have HO237 := n1_; have HO242 := n2_; have HO246 := n3_; have HO249 := n4_; have HO252 := n5_; have HO255 := n6_; have BK243 := n7_; have HB := n8_; clear n0_ n1_ n2_ n3_ n4_ n5_ n6_ n7_ n8_; clear hb ho56))
   have n0_ := am_ (r3_ HO234.out)
   have n1_ := am_ (r3_ HO237.out)
   have n2_ := am_ (r3_ HO242.out)
   have n3_ := am_ (r3_ HO246.out)
   have n4_ := am_ (r3_ HO249.out)
   have n5_ := am_ (r3_ HO252.out)
   have n6_ := am_ (r3_ HO255.out)
   have n7_ := am_ (k3_ BK243.out)
   have n8_ := am_ (p2_ HB.out)
   clear HO234
   clear HO237
   clear HO242
   clear HO246
   clear HO249
   clear HO252
   clear HO255
   clear BK243
   clear HB
   have HO234 := n0_
   have HO237 := n1_
   have HO242 := n2_
   have HO246 := n3_
   have HO249 := n4_
   have HO252 := n5_
   have HO255 := n6_
   have BK243 := n7_
   have HB := n8_
   clear n0_ n1_ n2_ n3_ n4_ n5_ n6_ n7_ n8_
   obtain ⟨Ao58, co58, eo58⟩ := Kd.R_slice HO249.out
   (first | subst eo58 | (injection eo58 with f1_ f2_ f3_; have f4_ := f1_.symm; have f5_ := f3_.symm; clear f1_ f2_ f3_; subst f4_; subst f5_))
   have p256 : 0 ≤ ((ji5) : Int) := of_decide_eq_true (by first | (with_reducible assumption) | assumption)
   have q256 : (ji5) < (y247.length : Int) := of_decide_eq_true (by first | (with_reducible assumption) | assumption)
   obtain ⟨ad256, e256, hx256_0⟩ := Kd.at_string (Kd.R_reads' HO249.out).2.2 (ji5) p256 q256
   cases e256
   replace p256 := eq_true p256
   replace q256 := eq_true q256
   obtain ⟨Ao59, co59, eo59⟩ := Kd.R_slice HO252.out
   (first | subst eo59 | (injection eo59 with f1_ f2_ f3_; have f4_ := f1_.symm; have f5_ := f3_.symm; clear f1_ f2_ f3_; subst f4_; subst f5_))
   have p257 : 0 ≤ ((ji5) : Int) := of_decide_eq_true (by first | (with_reducible assumption) | assumption)
   have q257 : (ji5) < (y250.length : Int) := of_decide_eq_true (by first | (with_reducible assumption) | assumption)
   obtain ⟨ad257, e257, hx257_0, hx257_1, hx257_2, hx257_3, hx257_4⟩ := at_T29 (Kd.R_reads' HO252.out).2.2 (ji5) p257 q257
   cases e257
   replace p257 := eq_true p257
   replace q257 := eq_true q257
   obtain ⟨Ao60, co60, eo60⟩ := Kd.R_slice HO246.out
   (first | subst eo60 | (injection eo60 with f1_ f2_ f3_; have f4_ := f1_.symm; have f5_ := f3_.symm; clear f1_ f2_ f3_; subst f4_; subst f5_))
   refine start_ (n := 20) (S := fun w' => w'.cell? ⟨gb243, 0, none⟩ = some (.int .i64 t230) ∧ w'.cell? ⟨gb243, 1, none⟩ = some (.int .i64 t231) ∧ w'.cell? ⟨gb243, 2, none⟩ = some (.slice Ao46 t232.length co46) ∧ w'.cell? ⟨gb243, 3, none⟩ = some (.slice Ao47 t235.length co47) ∧ w'.cell? ⟨gb243, 4, none⟩ = some (.int .i64 t238) ∧ w'.cell? ⟨gb243, 5, none⟩ = some (.string t239) ∧ w'.cell? ⟨gb243, 6, none⟩ = some (.slice Ao48 t240.length co48) ∧ w'.cell? (ad256.add ((ji5)).toNat) = some (.string (rdOf ByteArray.empty y247 (ji5))) ∧ w'.cell? (ad257.add (((ji5)).toNat * 5)) = some (.bool ((rd_T29 y250 (ji5)).f0)) ∧ w'.cell? ⟨(ad257.add (((ji5)).toNat * 5)).block, (ad257.add (((ji5)).toNat * 5)).off + 1, none⟩ = some (.int .i64 ((rd_T29 y250 (ji5)).f1)) ∧ w'.cell? ⟨(ad257.add (((ji5)).toNat * 5)).block, (ad257.add (((ji5)).toNat * 5)).off + 2, none⟩ = some (.int .i64 ((rd_T29 y250 (ji5)).f2)) ∧ w'.cell? ⟨(ad257.add (((ji5)).toNat * 5)).block, (ad257.add (((ji5)).toNat * 5)).off + 3, none⟩ = some (.int .i64 ((rd_T29 y250 (ji5)).f3)) ∧ w'.cell? ⟨(ad257.add (((ji5)).toNat * 5)).block, (ad257.add (((ji5)).toNat * 5)).off + 4, none⟩ = some (.string ((rd_T29 y250 (ji5)).f4))) (ds := []) #[false, false, false, false, false, false, false, false, false, false, false, false, false, false, false, false, false, false, false, false] (by kernel_rfl) rfl rfl ⟨(bc_ BK243.out 0).trans rfl, (bc_ BK243.out 1).trans rfl, (bc_ BK243.out 2).trans rfl, (bc_ BK243.out 3).trans rfl, (bc_ BK243.out 4).trans rfl, (bc_ BK243.out 5).trans rfl, (bc_ BK243.out 6).trans rfl, hx256_0, hx257_0, hx257_1, hx257_2, hx257_3, hx257_4⟩ (fun hHeld => ?_); refine with_tabW pinfoldlaw17_ClaimKinds.tab9 pinfoldlaw17_ClaimKinds.bits9 (fun HT_ HW_ => ?_)
   generalize w55.drew = w57 at HO234 HO237 HO242 HO246 HO249 HO252 HO255 BK243 HB hx256_0 hx257_0 hx257_1 hx257_2 hx257_3 hx257_4 hHeld ⊢
   refine pure_ (i := 1) (N := some 43) (v := ?_) (a' := ?_) #[false, true, false, false, false, false, false, false, false, false, false, false, false, false, false, false, false, false, false, false] rfl rfl (any_of HT_.out (by kernel_rfl)) (fun _ _ _ h => h) (Or.inl ⟨by rfl, ?_⟩) ?_ ?_
   rotate_left
   ·intro w'
    go_simp
    with_reducible rfl
   rotate_left
   ·simp only [Act.put, sa_, sb_, sc_, i64_w, i32_w]
    rfl
   refine pure_ (i := 2) (N := some 44) (v := ?_) (a' := ?_) #[false, true, true, false, false, false, false, false, false, false, false, false, false, false, false, false, false, false, false, false] rfl rfl (any_of HT_.out (by kernel_rfl)) (fun _ _ _ h => h) (Or.inl ⟨by rfl, ?_⟩) ?_ ?_
   rotate_left
   ·intro w'
    go_simp
    with_reducible rfl
   rotate_left
   ·simp only [Act.put, sa_, sb_, sc_, i64_w, i32_w]
    rfl
   refine pure_ (i := 3) (N := some 45) (v := ?_) (a' := ?_) #[false, true, true, true, false, false, false, false, false, false, false, false, false, false, false, false, false, false, false, false] rfl rfl (any_of HT_.out (by kernel_rfl)) (fun _ _ _ h => h) (Or.inl ⟨by rfl, ?_⟩) ?_ ?_
   rotate_left
   ·intro w'
    go_simp
    with_reducible rfl
   rotate_left
   ·simp only [Act.put, sa_, sb_, sc_, i64_w, i32_w]
    rfl
   refine pure_ (i := 4) (N := some 46) (v := ?_) (a' := ?_) #[false, true, true, true, true, false, false, false, false, false, false, false, false, false, false, false, false, false, false, false] rfl rfl (any_of HT_.out (by kernel_rfl)) (fun _ _ _ h => h) (Or.inl ⟨by rfl, ?_⟩) ?_ ?_
   rotate_left
   ·intro w'
    go_simp
    with_reducible rfl
   rotate_left
   ·simp only [Act.put, sa_, sb_, sc_, i64_w, i32_w]
    rfl
   refine pure_ (i := 6) (N := some 48) (v := ?_) (a' := ?_) #[false, true, true, true, true, false, true, false, false, false, false, false, false, false, false, false, false, false, false, false] rfl rfl (any_of HT_.out (by kernel_rfl)) (fun _ _ _ h => h) (Or.inl ⟨by rfl, ?_⟩) ?_ ?_
   rotate_left
   ·intro w'
    go_simp
    with_reducible rfl
   rotate_left
   ·simp only [Act.put, sa_, sb_, sc_, i64_w, i32_w]
    rfl
   refine pure_ (i := 7) (N := some 49) (v := ?_) (a' := ?_) #[false, true, true, true, true, false, true, true, false, false, false, false, false, false, false, false, false, false, false, false] rfl rfl (any_of HT_.out (by kernel_rfl)) (fun _ _ _ h => h) (Or.inl ⟨by rfl, ?_⟩) ?_ ?_
   rotate_left
   ·intro w'
    go_simp
    with_reducible rfl
   rotate_left
   ·simp only [Act.put, sa_, sb_, sc_, i64_w, i32_w]
    rfl
   refine pure_ (i := 8) (N := some 50) (v := ?_) (a' := ?_) #[false, true, true, true, true, false, true, true, true, false, false, false, false, false, false, false, false, false, false, false] rfl rfl (any_of HT_.out (by kernel_rfl)) (fun _ _ _ h => h) (Or.inl ⟨by rfl, ?_⟩) ?_ ?_
   rotate_left
   ·intro w'
    go_simp
    with_reducible rfl
   rotate_left
   ·simp only [Act.put, sa_, sb_, sc_, i64_w, i32_w]
    rfl
   refine take_ (i := 0) (N := some 42) (v := ?_) (a' := ?_) #[true, true, true, true, true, false, true, true, true, false, false, false, false, false, false, false, false, false, false, false] rfl rfl (take_ofW HT_.out HW_.out (by kernel_rfl)) (fun _ _ _ h => h) (Or.inl ⟨by rfl, ?_⟩) hHeld ?_ ?_
   rotate_left
   ·rintro w' ⟨s0, s1, s2, s3, s4, s5, s6, s7, s8, s9, s10, s11, s12⟩
    go_simp
    with_reducible rfl
   rotate_left
   ·simp only [Act.put, sa_, sb_, sc_, i64_w, i32_w]
    rfl
   refine take_ (i := 5) (N := some 47) (v := ?_) (a' := ?_) #[true, true, true, true, true, true, true, true, true, false, false, false, false, false, false, false, false, false, false, false] rfl rfl (take_ofW HT_.out HW_.out (by kernel_rfl)) (fun _ _ _ h => h) (Or.inl ⟨by rfl, ?_⟩) hHeld ?_ ?_
   rotate_left
   ·rintro w' ⟨s0, s1, s2, s3, s4, s5, s6, s7, s8, s9, s10, s11, s12⟩
    go_simp
    with_reducible rfl
   rotate_left
   ·simp only [Act.put, sa_, sb_, sc_, i64_w, i32_w]
    rfl
   refine take_ (i := 9) (N := some 51) (v := ?_) (a' := ?_) #[true, true, true, true, true, true, true, true, true, true, false, false, false, false, false, false, false, false, false, false] rfl rfl (take_ofW HT_.out HW_.out (by kernel_rfl)) (fun _ _ _ h => h) (Or.inl ⟨by rfl, ?_⟩) hHeld ?_ ?_
   rotate_left
   ·rintro w' ⟨s0, s1, s2, s3, s4, s5, s6, s7, s8, s9, s10, s11, s12⟩
    go_simp
    with_reducible rfl
   rotate_left
   ·simp only [Act.put, sa_, sb_, sc_, i64_w, i32_w]
    rfl
   refine one_ (i := 10) (N := some 52) #[true, true, true, true, true, true, true, true, true, true, true, false, false, false, false, false, false, false, false, false] rfl rfl (one_of HT_.out (by kernel_rfl)) (by decide) (fun K hK => ?_)
   refine goes_ Tryd.func9 (by kernel_rfl) rfl #[.agg #[.int .i64 t230, .int .i64 t231, .slice Ao46 t232.length co46, .slice Ao47 t235.length co47, .int .i64 t238, .string t239, .slice Ao48 t240.length co48], .slice Ao60 y244.length co60, .int .i64 10, .string (rdOf ByteArray.empty y247 (ji5)), .agg #[.bool ((rd_T29 y250 (ji5)).f0), .int .i64 ((rd_T29 y250 (ji5)).f1), .int .i64 ((rd_T29 y250 (ji5)).f2), .int .i64 ((rd_T29 y250 (ji5)).f3), .string ((rd_T29 y250 (ji5)).f4)]] (by rfl) rfl rfl (by (try simp only [List.map_toArray, List.map_cons, List.map_nil]); first | done | (simp only [hji5]; rfl) | rfl | (simp only [List.length_drop, List.length_take]; rfl)) ?_
   with_reducible refine (claim_Claim.calls t230 t231 _ _ t232 _ _ t235 t238 t239 _ _ t240 _ _ y244 10 (rdOf ByteArray.empty y247 (ji5)) ((rd_T29 y250 (ji5)).f0) ((rd_T29 y250 (ji5)).f1) ((rd_T29 y250 (ji5)).f2) ((rd_T29 y250 (ji5)).f3) ((rd_T29 y250 (ji5)).f4) t258 t261 t262 t263 _ ?side1 ?side2 ?side3 ?side4 ?side5 ?side6 ?side7 ?side8 A9.out).mono ?_
   (case side1 => repeat (first | exact (Kd.R_reads' HO234.out).2.2 | (with_reducible refine c1_ ?_ _) | (with_reducible refine c2_ ?_ _) | (with_reducible refine c3_ ?_)))
   (case side2 => exact (Kd.R_reads' HO234.out).2.1)
   (case side3 => repeat (first | exact (Kd.R_reads' HO237.out).2.2 | (with_reducible refine c1_ ?_ _) | (with_reducible refine c2_ ?_ _) | (with_reducible refine c3_ ?_)))
   (case side4 => exact (Kd.R_reads' HO237.out).2.1)
   (case side5 => repeat (first | exact (Kd.R_reads' HO242.out).2.2 | (with_reducible refine c1_ ?_ _) | (with_reducible refine c2_ ?_ _) | (with_reducible refine c3_ ?_)))
   (case side6 => exact (Kd.R_reads' HO242.out).2.1)
   (case side7 => repeat (first | exact (Kd.R_reads' HO246.out).2.2 | (with_reducible refine c1_ ?_ _) | (with_reducible refine c2_ ?_ _) | (with_reducible refine c3_ ?_)))
   (case side8 => exact (Kd.R_reads' HO246.out).2.1)
   rintro e w61 ⟨v259, rfl, ho0, hb⟩
   have HS7_ := (hb.cell (wb_ _ _ (hHeld.2.2.2.2.2.2.2.1))).trans (hHeld.2.2.2.2.2.2.2.1)
   have HS8_ := (hb.cell (wb_ _ _ (hHeld.2.2.2.2.2.2.2.2.1))).trans (hHeld.2.2.2.2.2.2.2.2.1)
   have HS9_ := (hb.cell (wb_ _ _ (hHeld.2.2.2.2.2.2.2.2.2.1))).trans (hHeld.2.2.2.2.2.2.2.2.2.1)
   have HS10_ := (hb.cell (wb_ _ _ (hHeld.2.2.2.2.2.2.2.2.2.2.1))).trans (hHeld.2.2.2.2.2.2.2.2.2.2.1)
   have HS11_ := (hb.cell (wb_ _ _ (hHeld.2.2.2.2.2.2.2.2.2.2.2.1))).trans (hHeld.2.2.2.2.2.2.2.2.2.2.2.1)
   have HS12_ := (hb.cell (wb_ _ _ (hHeld.2.2.2.2.2.2.2.2.2.2.2.2))).trans (hHeld.2.2.2.2.2.2.2.2.2.2.2.2)
   refine ⟨_, rfl, ?_⟩
   have n0_ := am_ (Kd.R_below (by (with_reducible repeat (first | apply r1_ | apply r2_ | apply r3_)); exact HO234.out) hb)
   have n1_ := am_ (Kd.R_below (by (with_reducible repeat (first | apply r1_ | apply r2_ | apply r3_)); exact HO237.out) hb)
   have n2_ := am_ (Kd.R_below (by (with_reducible repeat (first | apply r1_ | apply r2_ | apply r3_)); exact HO242.out) hb)
   have n3_ := am_ (r5_ (by (with_reducible repeat (first | apply r1_ | apply r2_ | apply r3_)); exact HO246.out) (r4_ ho0) hb)
   have n4_ := am_ (Kd.R_below (by (with_reducible repeat (first | apply r1_ | apply r2_ | apply r3_)); exact HO249.out) hb)
   have n5_ := am_ (Kd.R_below (by (with_reducible repeat (first | apply r1_ | apply r2_ | apply r3_)); exact HO252.out) hb)
   have n6_ := am_ (Kd.R_below (by (with_reducible repeat (first | apply r1_ | apply r2_ | apply r3_)); exact HO255.out) hb)
   have n7_ := am_ (Kd.R_lower (Kd.R_new' ho0 (Kd.R_lt (by (with_reducible repeat (first | apply r1_ | apply r2_ | apply r3_)); exact HO246.out))) (bz_ (by repeat (with_reducible first | exact HB.out | apply p3_ | apply p1_ | apply p2_ | refine bs_ ?_ GE243.out))))
   have n8_ := am_ (kb_ (g := gb243) (o := .cells #[.int .i64 t230, .int .i64 t231, .slice Ao46 t232.length co46, .slice Ao47 t235.length co47, .int .i64 t238, .string t239, .slice Ao48 t240.length co48] 26 (0, 0)) (by (with_reducible repeat (first | refine k2_ ?_ _ | refine k3_ ?_ | refine k1_ ?_ _)); exact BK243.out) hb)
   have n9_ := am_ (bt_ (by repeat (with_reducible first | exact HB.out | apply p3_ | apply p1_ | apply p2_ | refine bs_ ?_ GE243.out)) hb)
   clear HO234
   clear HO237
   clear HO242
   clear HO246
   clear HO249
   clear HO252
   clear HO255
   clear BK243
   clear HB
   have HO234 := n0_
   have HO237 := n1_
   have HO242 := n2_
   have HO246 := n3_
   have HO249 := n4_
   have HO252 := n5_
   have HO255 := n6_
   have HO260 := n7_
   have BK243 := n8_
   have HB := n9_
   clear n0_ n1_ n2_ n3_ n4_ n5_ n6_ n7_ n8_ n9_
   (try clear hb)
   (try clear hb2)
   (try clear hk)
   (try clear hi)
   (try clear ho0)
   refine hK.out _ _ ⟨(bc_ BK243.out 0).trans rfl, (bc_ BK243.out 1).trans rfl, (bc_ BK243.out 2).trans rfl, (bc_ BK243.out 3).trans rfl, (bc_ BK243.out 4).trans rfl, (bc_ BK243.out 5).trans rfl, (bc_ BK243.out 6).trans rfl, HS7_, HS8_, HS9_, HS10_, HS11_, HS12_⟩ (fun hHeld => ?_)
   clear hK K
   refine norm_ (a' := ?_) ?_ ?_
   rotate_left
   ·show Act.put _ (some 52) _ = _
    simp only [Act.put, sa_, sb_, sc_, i64_w, i32_w]
    rfl
   refine pure_ (i := 11) (N := some 41) (v := ?_) (a' := ?_) #[true, true, true, true, true, true, true, true, true, true, true, true, false, false, false, false, false, false, false, false] rfl rfl (any_of HT_.out (by kernel_rfl)) (fun _ _ _ h => h) (Or.inl ⟨by rfl, ?_⟩) ?_ ?_
   rotate_left
   ·intro w'
    go_simp
    with_reducible rfl
   rotate_left
   ·simp only [Act.put, sa_, sb_, sc_, i64_w, i32_w]
    rfl
   refine pure_ (i := 12) (N := some 53) (v := ?_) (a' := ?_) #[true, true, true, true, true, true, true, true, true, true, true, true, true, false, false, false, false, false, false, false] rfl rfl (any_of HT_.out (by kernel_rfl)) (fun _ _ _ h => h) (Or.inl ⟨by rfl, ?_⟩) ?_ ?_
   rotate_left
   ·intro w'
    go_simp
    with_reducible rfl
   rotate_left
   ·simp only [Act.put, sa_, sb_, sc_, i64_w, i32_w]
    rfl
   refine pure_ (i := 13) (N := some 54) (v := ?_) (a' := ?_) #[true, true, true, true, true, true, true, true, true, true, true, true, true, true, false, false, false, false, false, false] rfl rfl (any_of HT_.out (by kernel_rfl)) (fun _ _ _ h => h) (Or.inl ⟨by rfl, ?_⟩) ?_ ?_
   rotate_left
   ·intro w'
    go_simp
    with_reducible rfl
   rotate_left
   ·simp only [Act.put, sa_, sb_, sc_, i64_w, i32_w]
    rfl
   refine pure_ (i := 14) (N := some 55) (v := ?_) (a' := ?_) #[true, true, true, true, true, true, true, true, true, true, true, true, true, true, true, false, false, false, false, false] rfl rfl (any_of HT_.out (by kernel_rfl)) (fun _ _ _ h => h) (Or.inl ⟨by rfl, ?_⟩) ?_ ?_
   rotate_left
   ·intro w'
    go_simp
    with_reducible rfl
   rotate_left
   ·simp only [Act.put, sa_, sb_, sc_, i64_w, i32_w]
    rfl
   refine pure_ (i := 15) (N := some 56) (v := ?_) (a' := ?_) #[true, true, true, true, true, true, true, true, true, true, true, true, true, true, true, true, false, false, false, false] rfl rfl (any_of HT_.out (by kernel_rfl)) (fun _ _ _ h => h) (Or.inl ⟨by rfl, ?_⟩) ?_ ?_
   rotate_left
   ·intro w'
    go_simp
    with_reducible rfl
   rotate_left
   ·simp only [Act.put, sa_, sb_, sc_, i64_w, i32_w]
    rfl
   refine pure_ (i := 16) (N := some 9) (v := ?_) (a' := ?_) #[true, true, true, true, true, true, true, true, true, true, true, true, true, true, true, true, true, false, false, false] rfl rfl (any_of HT_.out (by kernel_rfl)) (fun _ _ _ h => h) (Or.inl ⟨by rfl, ?_⟩) ?_ ?_
   rotate_left
   ·intro w'
    go_simp
    with_reducible rfl
   rotate_left
   ·simp only [Act.put, sa_, sb_, sc_, i64_w, i32_w]
    rfl
   refine pure_ (i := 17) (N := some 10) (v := ?_) (a' := ?_) #[true, true, true, true, true, true, true, true, true, true, true, true, true, true, true, true, true, true, false, false] rfl rfl (any_of HT_.out (by kernel_rfl)) (fun _ _ _ h => h) (Or.inl ⟨by rfl, ?_⟩) ?_ ?_
   rotate_left
   ·intro w'
    go_simp
    with_reducible rfl
   rotate_left
   ·simp only [Act.put, sa_, sb_, sc_, i64_w, i32_w]
    rfl
   refine pure_ (i := 18) (N := some 11) (v := ?_) (a' := ?_) #[true, true, true, true, true, true, true, true, true, true, true, true, true, true, true, true, true, true, true, false] rfl rfl (any_of HT_.out (by kernel_rfl)) (fun _ _ _ h => h) (Or.inl ⟨by rfl, ?_⟩) ?_ ?_
   rotate_left
   ·intro w'
    go_simp
    with_reducible rfl
   rotate_left
   ·simp only [Act.put, sa_, sb_, sc_, i64_w, i32_w]
    rfl
   refine pure_ (i := 19) (N := some 12) (v := ?_) (a' := ?_) #[true, true, true, true, true, true, true, true, true, true, true, true, true, true, true, true, true, true, true, true] rfl rfl (any_of HT_.out (by kernel_rfl)) (fun _ _ _ h => h) (Or.inl ⟨by rfl, ?_⟩) ?_ ?_
   rotate_left
   ·intro w'
    go_simp
    with_reducible rfl
   rotate_left
   ·simp only [Act.put, sa_, sb_, sc_, i64_w, i32_w]
    rfl
   refine done_ (done_of HT_.out (by kernel_rfl)) ?_
   obtain ⟨Ao62, co62, eo62⟩ := Kd.R_slice HO260.out
   subst eo62
   try go_wp2_with (first | (go_at_call 17; (with_reducible refine (pinfoldlaw0_SameLeases.calls k _ _ t258 _ _ y244 true _ ?side1 ?side2 ?side3 ?side4 A36.out).mono ?_); (case side1 => repeat (first | exact (Kd.R_reads' HO260.out).2.2 | (with_reducible refine c1_ ?_ _) | (with_reducible refine c2_ ?_ _) | (with_reducible refine c3_ ?_))); (case side2 => exact (Kd.R_reads' HO260.out).2.1); (case side3 => repeat (first | exact (Kd.R_reads' HO246.out).2.2 | (with_reducible refine c1_ ?_ _) | (with_reducible refine c2_ ?_ _) | (with_reducible refine c3_ ?_))); (case side4 => exact (Kd.R_reads' HO246.out).2.1); rintro e w' ⟨rfl, ⟨nd, rfl⟩⟩; obtain ⟨Ao63, co63, eo63⟩ := Kd.R_slice HO255.out; subst eo63; have p267 : 0 ≤ ((ji5) : Int) := of_decide_eq_true (by first | (with_reducible assumption) | assumption); have q267 : (ji5) < (y253.length : Int) := of_decide_eq_true (by first | (with_reducible assumption) | assumption); obtain ⟨ad267, e267, hx267_0⟩ := Kd.at_int (Kd.R_reads' HO255.out).2.2 (ji5) p267 q267; cases e267; replace p267 := eq_true p267; replace q267 := eq_true q267) | (go_at_call 10; (with_reducible refine (pinfoldlaw0_Num.calls t263 t268 _ A41.out).mono ?_); rintro e w' ⟨rfl, ⟨nd, rfl⟩⟩))
   all_goals first | (go_ret; exact ⟨by first | rfl | (simp [errW_none, errW_some] <;> rfl) | (simp only [← hji5]; first | rfl | (simp [errW_none, errW_some] <;> rfl)) | (simp [*, errW_none, errW_some] <;> rfl), by repeat (with_reducible first | exact HB.out | apply p3_ | apply p1_ | apply p2_ | refine bs_ ?_ GE243.out)⟩) | (exfalso; rename_i hh_; first | exact hh_ (beq_iff_eq.mp c40b0) | (rw [c40b0] at hh_; cases hh_) | simp_all)
  replace c37 := e3_ c37
  subst c37
  have H1 : (none) = some r := by rw [if_neg (show ¬ (false = true) by decide)] at H; exact H
  clear H
  have H := H1
  clear H1
  exact absurd H (by simp)
 replace c3 := e3_ c3
 subst c3
 have H1 : (none) = some r := by rw [if_neg (show ¬ (false = true) by decide)] at H; exact H
 clear H
 have H := H1
 clear H1
 exact absurd H (by simp)

/-- THE ONE PURE STATEMENT of pinfoldlaw17_ClaimKinds. -/
def pinfoldlaw17_ClaimKinds.Pure : Prop := ∀ (a0 : Int), (Lit.int .i64 a0).wf = true → ∃ k, pinfoldlaw17_ClaimKinds.f k a0 = some true
theorem pinfoldlaw17_ClaimKinds.walk (P : pinfoldlaw17_ClaimKinds.Pure) (a0 : Int) (w : World)  (w0 : (Lit.int .i64 a0).wf = true) :
  Calls Tryd.prog 5 #[.int .i64 a0] w fun e w' => e = .returned (.bool true) ∧ Below w.heap.size w w' := by
 obtain ⟨k, h⟩ := P a0 w0
 refine (pinfoldlaw17_ClaimKinds.calls k a0 true w  h).mono ?_
 rintro e w' ⟨rfl, hd⟩
 exact ⟨rfl, hd⟩

end Go.Proofs.YtibalpbkmgegnaaDoor.PJ
