/- OfferAgain: who asks again is offered the same; a bound one stays. No condition. -/
import Derived.Test.YtdhckibkljafgaaDoorPHx11
namespace Go.Proofs.YtdhckibkljafgaaDoor.Pure
open Go.RowKit Go.Proofs.YtdhckibkljafgaaDoor.PH Go.Proofs.YtdhckibkljafgaaDoorW.PrintWords Go.Proofs.YtdhckibkljafgaaDoorW.PrintLast
set_option linter.unusedSimpArgs false
set_option linter.unusedVariables false

theorem fit_of {l2 : List Int} {l3 : List S56} {z : ByteArray} {l6 : List S58} (h2 : l2.length * Tryd.prog.bytesOf 3 ≤ 140737488351232) (h3 : l3.length * Tryd.prog.bytesOf 56 ≤ 140737488351232) (hz : z.size ≤ 140737488351232) (h6 : l6.length * Tryd.prog.bytesOf 58 ≤ 140737488351232) (hx : ∀ x ∈ l6, x.f0.size ≤ 140737488351232 ∧ x.f4.size ≤ 140737488351232) : confFit l2 l3 z l6 := by
  rw [show Tryd.prog.bytesOf 3 = 8 by kernel_rfl] at h2
  rw [show Tryd.prog.bytesOf 56 = 24 by kernel_rfl] at h3
  rw [show Tryd.prog.bytesOf 58 = 80 by kernel_rfl] at h6
  exact ⟨by omega, by omega, hz, by omega, hx⟩
theorem awake20 : pinfoldlaw15_awake.f 20 = some true := by kernel_rfl
theorem awake_eq (k : Nat) (hk : 20 ≤ k) : pinfoldlaw15_awake.f k = some true := at_rounds (g := fun k => pinfoldlaw15_awake.f k) pinfoldlaw15_awake.mono (k := 20) hk awake20
abbrev gEx : List Int := [12]
abbrev gRes : List S56 := [⟨(⟨#[118, 105, 112]⟩ : ByteArray), 13⟩]
abbrev gZone : ByteArray := ⟨#[108, 97, 110]⟩
abbrev gRR : List S58 := [⟨(⟨#[119, 119, 119, 46, 108, 97, 110]⟩ : ByteArray), 1, 5, 7, (⟨#[]⟩ : ByteArray), (⟨#[]⟩ : ByteArray), 0⟩]
theorem given_eq : pinfoldlaw15_given.f = some (10, 13, gEx, gRes, 100, gZone, gRR) := rfl
theorem given_fit : confFit gEx gRes gZone gRR := by unfold confFit; decide
theorem and_7 (a : Int) : Go.bits .and .i64 a 7 = a % 8 := and_mask a 3 (by decide)
abbrev oMe : ByteArray := ⟨#[109, 101]⟩
abbrev oOne (st un : Int) : List S35 := [(⟨10, st, oMe, un, (⟨#[]⟩ : ByteArray), false⟩ : S35)]
/-- what is offered, as numbers alone. -/
def offOk (ls : List S35) (t : Int) (r : List S35) : Bool :=
  (pickMayB 10 13 gEx gRes 100 gZone gRR ls t oMe && decide (0 ≤ t ∧ t ≤ 1099510579200)) && (openB 10 13 gEx gRes 100 gZone gRR ls t oMe (gotL (ofL ls oMe t)).f0 && (decide ((gotL (ofL ls oMe t)).f0 = 10) && (decide ((offerGo oMe t 10 ls).2 = (10, 0)) && sameL (offerGo oMe t 10 ls).1 r)))
  where
  sameL : List S35 → List S35 → Bool
    | [x], [y] => decide (x.f0 = y.f0) && (decide (x.f1 = y.f1) && (decide (x.f2.data.toList = y.f2.data.toList) && (decide (x.f3 = y.f3) && (decide (x.f4.data.toList = y.f4.data.toList) && (x.f5 == y.f5)))))
    | _, _ => false
theorem same_one {l m : List S35} (h : offOk.sameL l m = true) : ∃ x y, l = [x] ∧ m = [y] ∧ x = y := by
  unfold offOk.sameL at h
  split at h
  · rename_i x y
    simp only [Bool.and_eq_true, decide_eq_true_eq, beq_iff_eq] at h
    obtain ⟨h0, h1, h2, h3, h4, h5⟩ := h
    refine ⟨x, y, rfl, rfl, ?_⟩
    obtain ⟨x0, x1, ⟨⟨x2⟩⟩, x3, ⟨⟨x4⟩⟩, x5⟩ := x
    obtain ⟨y0, y1, ⟨⟨y2⟩⟩, y3, ⟨⟨y4⟩⟩, y5⟩ := y
    simp only at h0 h1 h2 h3 h4 h5
    subst h0 h1 h2 h3 h4 h5
    rfl
  · cases h
theorem again_any (ls r : List S35) (t w : Int) (h : offOk ls t r = true) (hf : tabFit ls) : offer_Offer.f 10 13 gEx gRes 100 gZone gRR ls t oMe w = some (r, 10, 0) := by
  unfold offOk at h
  rw [Bool.and_eq_true] at h
  obtain ⟨h1, h⟩ := h
  rw [Bool.and_eq_true] at h
  obtain ⟨h2, h⟩ := h
  rw [Bool.and_eq_true, decide_eq_true_eq] at h
  obtain ⟨h3, h⟩ := h
  rw [Bool.and_eq_true, decide_eq_true_eq] at h
  obtain ⟨h4, h5⟩ := h
  obtain ⟨x, y, ex, ey, exy⟩ := same_one h5
  unfold offer_Offer.f offerV
  rw [if_pos ⟨given_fit, hf⟩, h1, if_pos rfl, pick_parts, if_pos h2, if_pos rfl, h3]
  have e : offerGo oMe t 10 ls = (r, 10, 0) := by
    rw [← h4, ey, ← exy, ← ex]
  rw [e]
theorem again_all : (List.range 8).all (fun i => offOk (oOne 1 13) (5 + (i : Int)) (oOne 1 (5 + (i : Int) + 8)) && offOk (oOne 2 500) (5 + (i : Int)) (oOne 2 500)) = true := by kernel_rfl
theorem first_is : offer_Offer.f 10 13 gEx gRes 100 gZone gRR [] 5 oMe 0 = some (oOne 1 13, 10, 0) := by kernel_rfl
/-- who asks again is offered the same; a bound one stays. -/
theorem OfferAgain : pinfoldlaw15_OfferAgain.Pure := by
  intro a0 a1 a2 _ _
  refine ⟨24, ?_⟩
  unfold pinfoldlaw15_OfferAgain.f
  rw [awake_eq 24 (by omega), Option.bind_some, if_pos rfl, given_eq, Option.bind_some]
  dsimp only
  rw [first_is, Option.bind_some]
  have h0 := Int.emod_nonneg a1 (show (8 : Int) ≠ 0 by decide)
  have h1 := Int.emod_lt_of_pos a1 (show (0 : Int) < 8 by decide)
  obtain ⟨i, hi⟩ : ∃ i : Nat, a1 % 8 = (i : Int) := ⟨(a1 % 8).toNat, by omega⟩
  have h := List.all_eq_true.1 again_all i (List.mem_range.2 (by omega))
  rw [Bool.and_eq_true] at h
  have f1 : ∀ st un, tabFit (oOne st un) := by
    intro st un
    refine ⟨by show 1 ≤ 140737488351232; decide, fun x hx => ?_⟩
    rw [List.mem_singleton] at hx
    rw [hx]
    show (⟨#[]⟩ : ByteArray).size ≤ 140737488351232
    decide
  have o1 := again_any _ _ _ a0 h.1 (f1 1 13)
  have o2 := again_any _ _ _ a0 h.2 (f1 2 500)
  have ht : wrap64 (5 + (i : Int)) = 5 + (i : Int) := by unfold wrap64; omega
  have ht8 : wrap64 (5 + (i : Int) + 8) = 5 + (i : Int) + 8 := by unfold wrap64; omega
  simp only [pinfoldlaw0_Num.f, Option.bind_some, if_true]
  rw [pinfoldlaw15_OfferAgain.j0, if_neg (by decide)]
  cases a2 with
  | false =>
    rw [if_neg (by decide), pinfoldlaw15_OfferAgain.j1, and_7, hi, ht, o1, Option.bind_some]
    simp only [pinfoldlaw0_Num.f, Option.bind_some, if_true]
    rw [pinfoldlaw15_OfferAgain.j2, if_neg (by simp [oOne]), if_neg (by decide), ht8]
    simp [rd_T35, oOne]
  | true =>
    rw [if_pos rfl, if_pos (by decide), Option.bind_some]
    have e : (((oOne 1 13).set (0 : Int).toNat (⟨(rd_T35 (oOne 1 13) 0).f0, 2, (rd_T35 (oOne 1 13) 0).f2, (rd_T35 (oOne 1 13) 0).f3, (rd_T35 (oOne 1 13) 0).f4, (rd_T35 (oOne 1 13) 0).f5⟩ : S35) : List S35)) = oOne 2 13 := rfl
    rw [e]
    have e2 : ((oOne 2 13).set (0 : Int).toNat (⟨(rd_T35 (oOne 2 13) 0).f0, (rd_T35 (oOne 2 13) 0).f1, (rd_T35 (oOne 2 13) 0).f2, 500, (rd_T35 (oOne 2 13) 0).f4, (rd_T35 (oOne 2 13) 0).f5⟩ : S35)) = oOne 2 500 := rfl
    rw [e2, pinfoldlaw15_OfferAgain.j1, and_7, hi, ht, o2, Option.bind_some]
    simp only [pinfoldlaw0_Num.f, Option.bind_some, if_true]
    rw [pinfoldlaw15_OfferAgain.j2, if_neg (by simp [oOne]), if_pos rfl]
    simp [rd_T35, oOne]

end Go.Proofs.YtdhckibkljafgaaDoor.Pure
