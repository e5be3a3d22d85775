/- OfferForms: what may not be asked; nothing left: each answered so. No condition. -/
import Derived.Test.YtdhckibkljafgaaDoorPHx12
namespace Go.Proofs.YtdhckibkljafgaaDoor.Pure
open Go.RowKit Go.Proofs.YtdhckibkljafgaaDoor.PH Go.Proofs.YtdhckibkljafgaaDoorW.PrintWords Go.Proofs.YtdhckibkljafgaaDoorW.PrintLast
set_option linter.unusedSimpArgs false
set_option linter.unusedVariables false

theorem fit_of {l2 : List Int} {l3 : List S56} {z : ByteArray} {l6 : List S58} (h2 : l2.length * Tryd.prog.bytesOf 3 ≤ 140737488351232) (h3 : l3.length * Tryd.prog.bytesOf 56 ≤ 140737488351232) (hz : z.size ≤ 140737488351232) (h6 : l6.length * Tryd.prog.bytesOf 58 ≤ 140737488351232) (hx : ∀ x ∈ l6, x.f0.size ≤ 140737488351232 ∧ x.f4.size ≤ 140737488351232) : confFit l2 l3 z l6 := by
  rw [show Tryd.prog.bytesOf 3 = 8 by kernel_rfl] at h2
  rw [show Tryd.prog.bytesOf 56 = 24 by kernel_rfl] at h3
  rw [show Tryd.prog.bytesOf 58 = 80 by kernel_rfl] at h6
  exact ⟨by omega, by omega, hz, by omega, hx⟩
theorem awake20 : pinfoldlaw15_awake.f 20 = some true := by kernel_rfl
theorem awake_eq (k : Nat) (hk : 20 ≤ k) : pinfoldlaw15_awake.f k = some true := at_rounds (g := fun k => pinfoldlaw15_awake.f k) pinfoldlaw15_awake.mono (k := 20) hk awake20
abbrev gEx : List Int := [12]
abbrev gRes : List S56 := [⟨(⟨#[118, 105, 112]⟩ : ByteArray), 13⟩]
abbrev gZone : ByteArray := ⟨#[108, 97, 110]⟩
abbrev gRR : List S58 := [⟨(⟨#[119, 119, 119, 46, 108, 97, 110]⟩ : ByteArray), 1, 5, 7, (⟨#[]⟩ : ByteArray), (⟨#[]⟩ : ByteArray), 0⟩]
theorem given_eq : pinfoldlaw15_given.f = some (10, 13, gEx, gRes, 100, gZone, gRR) := rfl
theorem given_fit : confFit gEx gRes gZone gRR := by unfold confFit; decide
theorem full_none : offerV 10 13 gEx gRes 100 gZone gRR [(⟨10, 2, (⟨#[97]⟩ : ByteArray), 9, (⟨#[]⟩ : ByteArray), false⟩ : S35), (⟨11, 3, (⟨#[]⟩ : ByteArray), 9, (⟨#[]⟩ : ByteArray), false⟩ : S35)] 0 (⟨#[109, 101]⟩ : ByteArray) 10 = ([], 0, 1401) := by kernel_rfl
theorem forms_ok (k : Nat) (now : Int) (c : ByteArray) (ls : List S35) (a0 a1 : Int) (l2 : List Int) (l3 : List S56) (a4 : Int) (z : ByteArray) (l6 : List S58) (hf : pickFit l2 l3 z l6 ls) (hb : (pickMayB a0 a1 l2 l3 a4 z l6 ls now c && decide (0 ≤ now ∧ now ≤ 1099510579200)) = false) : pinfoldlaw15_OfferForms.j0 (k + 1) now c ls a0 a1 l2 l3 a4 z l6 = some true := by
  have hg2 : tabFit [(⟨10, 2, (⟨#[97]⟩ : ByteArray), 9, (⟨#[]⟩ : ByteArray), false⟩ : S35), (⟨11, 3, (⟨#[]⟩ : ByteArray), 9, (⟨#[]⟩ : ByteArray), false⟩ : S35)] := by unfold tabFit; decide
  have e1 : offer_Offer.f a0 a1 l2 l3 a4 z l6 ls now c 0 = some ([], 0, 1500) := by
    unfold offer_Offer.f offerV
    rw [if_pos hf, hb, if_neg (by decide)]
  have e2 : offer_Offer.f 10 13 gEx gRes 100 gZone gRR [(⟨10, 2, (⟨#[97]⟩ : ByteArray), 9, (⟨#[]⟩ : ByteArray), false⟩ : S35), (⟨11, 3, (⟨#[]⟩ : ByteArray), 9, (⟨#[]⟩ : ByteArray), false⟩ : S35)] 0 (⟨#[109, 101]⟩ : ByteArray) 10 = some ([], 0, 1401) := by
    unfold offer_Offer.f
    rw [if_pos ⟨given_fit, hg2⟩, full_none]
  rw [pinfoldlaw15_OfferForms.j0, e1, given_eq, Option.bind_some, Option.bind_some]
  dsimp only
  rw [e2, Option.bind_some]
  rfl
/-- what may not be asked; nothing left: each answered so. -/
theorem OfferForms : pinfoldlaw15_OfferForms.Pure := by
  intro a0 a1 _ _
  refine ⟨20, ?_⟩
  unfold pinfoldlaw15_OfferForms.f
  rw [awake20, Option.bind_some, if_pos rfl, given_eq, Option.bind_some]
  dsimp only
  rw [and_1023, u64_eq]
  have h0 := Int.emod_nonneg a1 (show (1024 : Int) ≠ 0 by decide)
  have h1 := Int.emod_lt_of_pos a1 (show (0 : Int) < 1024 by decide)
  generalize a1 % 1024 = e at h0 h1
  generalize Int.tmod (a0 % 18446744073709551616) 5 = which
  rw [w64 (a := 1 + e) (by omega), w64 (a := -(1 + e)) (by omega), w64 (a := 1099510579200 + (1 + e)) (by omega)]
  have hn : tabFit ([] : List S35) := by unfold tabFit; decide
  have hz : tabFit [(⟨0, 0, (⟨#[]⟩ : ByteArray), 0, (⟨#[]⟩ : ByteArray), false⟩ : S35)] := by unfold tabFit; decide
  have hA : confFit gEx gRes (⟨#[65]⟩ : ByteArray) gRR := by unfold confFit; decide
  by_cases q0 : which = 0
  · rw [if_pos q0]
    refine forms_ok 19 _ _ _ _ _ _ _ _ _ _ ⟨hA, hn⟩ ?_
    kernel_rfl
  rw [if_neg q0]
  by_cases q1 : which = 1
  · rw [if_pos q1]
    refine forms_ok 19 _ _ _ _ _ _ _ _ _ _ ⟨given_fit, hz⟩ ?_
    kernel_rfl
  rw [if_neg q1]
  by_cases q2 : which = 2
  · rw [if_pos q2]
    refine forms_ok 19 _ _ _ _ _ _ _ _ _ _ ⟨given_fit, hn⟩ ?_
    rw [show decide (0 ≤ -(1 + e) ∧ -(1 + e) ≤ 1099510579200) = false from decide_eq_false (by omega), Bool.and_false]
  rw [if_neg q2]
  by_cases q3 : which = 3
  · rw [if_pos q3]
    refine forms_ok 19 _ _ _ _ _ _ _ _ _ _ ⟨given_fit, hn⟩ ?_
    rw [show decide (0 ≤ 1099510579200 + (1 + e) ∧ 1099510579200 + (1 + e) ≤ 1099510579200) = false from decide_eq_false (by omega), Bool.and_false]
  rw [if_neg q3]
  refine forms_ok 19 _ _ _ _ _ _ _ _ _ _ ⟨given_fit, hn⟩ ?_
  kernel_rfl

end Go.Proofs.YtdhckibkljafgaaDoor.Pure
