/- ClaimKinds: who is told what, by hand. No condition. -/
import Derived.Test.YtibalpbkmgegnaaDoorPJx13
namespace Go.Proofs.YtibalpbkmgegnaaDoor.Pure
open Go.RowKit Go.Proofs.YtibalpbkmgegnaaDoor.PJ Go.Proofs.YtibalpbkmgegnaaDoorW.PrintWords Go.Proofs.YtibalpbkmgegnaaDoorW.PrintLast
set_option linter.unusedSimpArgs false
set_option linter.unusedVariables false

theorem fit_of {l2 : List Int} {l3 : List S72} {z : ByteArray} {l6 : List S74} (h2 : l2.length * Tryd.prog.bytesOf 3 ≤ 140737488351232) (h3 : l3.length * Tryd.prog.bytesOf 72 ≤ 140737488351232) (hz : z.size ≤ 140737488351232) (h6 : l6.length * Tryd.prog.bytesOf 74 ≤ 140737488351232) (hx : ∀ x ∈ l6, x.f0.size ≤ 140737488351232 ∧ x.f4.size ≤ 140737488351232) : confFit l2 l3 z l6 := by
  rw [show Tryd.prog.bytesOf 3 = 8 by kernel_rfl] at h2
  rw [show Tryd.prog.bytesOf 72 = 24 by kernel_rfl] at h3
  rw [show Tryd.prog.bytesOf 74 = 80 by kernel_rfl] at h6
  exact ⟨by omega, by omega, hz, by omega, hx⟩
theorem awake20 : pinfoldlaw17_awake.f = some true := rfl
theorem awake_eq (k : Nat) (_ : 20 ≤ k) : pinfoldlaw17_awake.f = some true := rfl
abbrev gEx : List Int := [12]
abbrev gRes : List S72 := [⟨(⟨#[118, 105, 112]⟩ : ByteArray), 13⟩]
abbrev gZone : ByteArray := ⟨#[108, 97, 110]⟩
abbrev gRR : List S74 := [⟨(⟨#[119, 119, 119, 46, 108, 97, 110]⟩ : ByteArray), 1, 5, 7, (⟨#[]⟩ : ByteArray), (⟨#[]⟩ : ByteArray), 0⟩]
theorem given_eq : pinfoldlaw17_given.f = some (10, 13, gEx, gRes, 100, gZone, gRR) := rfl
theorem given_fit : confFit gEx gRes gZone gRR := by unfold confFit; decide
/-- who is told what, at each of the rows. -/
def kindsAt (j : Int) : Option Bool := ((some (([(⟨10, 2, (⟨#[109, 101]⟩ : ByteArray), 50, (⟨#[112, 99]⟩ : ByteArray), true⟩ : S36), (⟨11, 1, (⟨#[121, 111, 117]⟩ : ByteArray), 50, (⟨#[]⟩ : ByteArray), false⟩ : S36), (⟨13, 0, (⟨#[118, 105, 112]⟩ : ByteArray), 2, (⟨#[]⟩ : ByteArray), false⟩ : S36)] : List (S36)) : List (S36))).bind fun y313 => ((some (([(⟨#[109, 101]⟩ : ByteArray), (⟨#[109, 101]⟩ : ByteArray), (⟨#[109, 101]⟩ : ByteArray), (⟨#[121, 111, 117]⟩ : ByteArray), (⟨#[121, 111, 117]⟩ : ByteArray), (⟨#[121, 111, 117]⟩ : ByteArray), (⟨#[118, 105, 112]⟩ : ByteArray), (⟨#[118, 105, 112]⟩ : ByteArray), (⟨#[110, 101, 119]⟩ : ByteArray), (⟨#[110, 101, 119]⟩ : ByteArray), (⟨#[110, 101, 119]⟩ : ByteArray), (⟨#[110, 101, 119]⟩ : ByteArray), (⟨#[109, 101]⟩ : ByteArray), (⟨#[109, 101]⟩ : ByteArray)] : List ByteArray) : List ByteArray)).bind fun y316 => ((some (([(⟨false, 0, 0, 10, (⟨#[]⟩ : ByteArray)⟩ : S29), (⟨false, 0, 10, 0, (⟨#[]⟩ : ByteArray)⟩ : S29), (⟨false, 0, 0, 11, (⟨#[]⟩ : ByteArray)⟩ : S29), (⟨true, 167772161, 11, 0, (⟨#[]⟩ : ByteArray)⟩ : S29), (⟨false, 0, 11, 0, (⟨#[]⟩ : ByteArray)⟩ : S29), (⟨true, 167772161, 10, 0, (⟨#[]⟩ : ByteArray)⟩ : S29), (⟨false, 0, 0, 13, (⟨#[]⟩ : ByteArray)⟩ : S29), (⟨true, 167772161, 13, 0, (⟨#[]⟩ : ByteArray)⟩ : S29), (⟨false, 0, 13, 0, (⟨#[]⟩ : ByteArray)⟩ : S29), (⟨false, 0, 12, 0, (⟨#[]⟩ : ByteArray)⟩ : S29), (⟨false, 0, 99, 0, (⟨#[]⟩ : ByteArray)⟩ : S29), (⟨false, 0, 0, 0, (⟨#[]⟩ : ByteArray)⟩ : S29), (⟨true, 7, 10, 0, (⟨#[]⟩ : ByteArray)⟩ : S29), (⟨true, 167772161, 0, 10, (⟨#[]⟩ : ByteArray)⟩ : S29)] : List (S29)) : List (S29))).bind fun y319 => ((some (([1, 1, 2, 1, 2, 2, 1, 2, 2, 2, 2, 0, 0, 2] : List Int) : List Int)).bind fun y322 => (if 0 ≤ j then (if j < (y316.length : Int) then (if j < (y319.length : Int) then ((claim_Claim.f (10 : Int) (13 : Int) gEx gRes (100 : Int) gZone gRR y313 10 (rdOf ByteArray.empty y316 j) ((rd_T29 y319 j).f0) ((rd_T29 y319 j).f1) ((rd_T29 y319 j).f2) ((rd_T29 y319 j).f3) ((rd_T29 y319 j).f4)).bind fun bt327 => (if bt327.2.1 = 1 then (if ((bt327.2.1 == 1) != (bt327.2.2.1 != 0)) = true then (none) else (if j < (y322.length : Int) then (if bt327.2.1 = (rd y322 j) then ((pinfoldlaw0_Num.f bt327.2.2.2).bind fun t334 => (some (t334 == 0))) else (none)) else (none))) else ((pinfoldlaw0_SameLeases.f 20 bt327.1 y313).bind fun t335 => (if t335 = true then (if ((bt327.2.1 == 1) != (bt327.2.2.1 != 0)) = true then (none) else (if j < (y322.length : Int) then (if bt327.2.1 = (rd y322 j) then ((pinfoldlaw0_Num.f bt327.2.2.2).bind fun t337 => (some (t337 == 0))) else (none)) else (none))) else (none))))) else (none)) else (none)) else (none))))))
theorem kinds_all : (List.range 14).all (fun i => decide (kindsAt (i : Int) = some true)) = true := by kernel_rfl
/-- who is told what, by hand. -/
theorem ClaimKinds : pinfoldlaw17_ClaimKinds.Pure := by
  intro a0 _
  refine ⟨20, ?_⟩
  unfold pinfoldlaw17_ClaimKinds.f
  rw [awake20, Option.bind_some, if_pos rfl, given_eq, Option.bind_some]
  show kindsAt (wrap64 (Int.tmod (IntKind.u64.wrap a0) 14)) = some true
  rw [u64_eq]
  have h0 := Int.emod_nonneg a0 (show (18446744073709551616 : Int) ≠ 0 by decide)
  rw [Int.tmod_eq_emod_of_nonneg h0]
  have h1 := Int.emod_nonneg (a0 % 18446744073709551616) (show (14 : Int) ≠ 0 by decide)
  have h2 := Int.emod_lt_of_pos (a0 % 18446744073709551616) (show (0 : Int) < 14 by decide)
  rw [w64 (by omega)]
  obtain ⟨i, hi⟩ : ∃ i : Nat, a0 % 18446744073709551616 % 14 = (i : Int) := ⟨(a0 % 18446744073709551616 % 14).toNat, by omega⟩
  rw [hi]
  exact of_decide_eq_true (List.all_eq_true.1 kinds_all i (List.mem_range.2 (by omega)))

end Go.Proofs.YtibalpbkmgegnaaDoor.Pure
