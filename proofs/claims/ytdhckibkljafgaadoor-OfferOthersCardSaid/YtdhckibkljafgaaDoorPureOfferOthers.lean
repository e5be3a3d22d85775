/- OfferOthers: an offer turns nothing of any other client's. No condition. -/
import Derived.Test.YtdhckibkljafgaaDoorPHx15
namespace Go.Proofs.YtdhckibkljafgaaDoor.Pure
open Go.RowKit Go.Proofs.YtdhckibkljafgaaDoor.PH Go.Proofs.YtdhckibkljafgaaDoorW.PrintWords Go.Proofs.YtdhckibkljafgaaDoorW.PrintLast
set_option linter.unusedSimpArgs false
set_option linter.unusedVariables false

theorem fit_of {l2 : List Int} {l3 : List S56} {z : ByteArray} {l6 : List S58} (h2 : l2.length * Tryd.prog.bytesOf 3 ≤ 140737488351232) (h3 : l3.length * Tryd.prog.bytesOf 56 ≤ 140737488351232) (hz : z.size ≤ 140737488351232) (h6 : l6.length * Tryd.prog.bytesOf 58 ≤ 140737488351232) (hx : ∀ x ∈ l6, x.f0.size ≤ 140737488351232 ∧ x.f4.size ≤ 140737488351232) : confFit l2 l3 z l6 := by
  rw [show Tryd.prog.bytesOf 3 = 8 by kernel_rfl] at h2
  rw [show Tryd.prog.bytesOf 56 = 24 by kernel_rfl] at h3
  rw [show Tryd.prog.bytesOf 58 = 80 by kernel_rfl] at h6
  exact ⟨by omega, by omega, hz, by omega, hx⟩
theorem awake20 : pinfoldlaw15_awake.f 20 = some true := by kernel_rfl
theorem awake_eq (k : Nat) (hk : 20 ≤ k) : pinfoldlaw15_awake.f k = some true := at_rounds (g := fun k => pinfoldlaw15_awake.f k) pinfoldlaw15_awake.mono (k := 20) hk awake20
section
variable {a0 a1 : Int} {l2 : List Int} {l3 : List S56} {a4 : Int} {z : ByteArray} {l6 : List S58} {ls : List S35} {now : Int} {c : ByteArray}
/-- an offer that is granted. -/
structure Granted (a0 a1 : Int) (l2 : List Int) (l3 : List S56) (a4 : Int) (z : ByteArray) (l6 : List S58) (ls : List S35) (now : Int) (c : ByteArray) (h : Int) (out : List S35) : Prop where
  may : pickMayB a0 a1 l2 l3 a4 z l6 ls now c = true
  early : 0 ≤ now ∧ now ≤ 1099510579200
  opn : openB a0 a1 l2 l3 a4 z l6 ls now c h = true
  tab : tableB out = true
  far : ∀ host, host ≠ h → findL out host = (findL ls host).map fun x => if dropX offeredX c now h x = true then freedX x else x
  near : (boundX c now (gotL (findL ls h)) = true ∧ findL out h = findL ls h ∧ out.length = ls.length) ∨ (boundX c now (gotL (findL ls h)) = false ∧ findL out h = some ⟨h, 1, c, now + 8, ⟨#[]⟩, false⟩)
theorem offer_cases (wanted : Int) : (∃ e, e ≠ 0 ∧ offerV a0 a1 l2 l3 a4 z l6 ls now c wanted = ([], 0, e) ∧ (e = 1500 ∨ pickMayB a0 a1 l2 l3 a4 z l6 ls now c = true ∧ (pickV a0 a1 l2 l3 a4 z l6 ls now c wanted).2 = e)) ∨ ∃ out h, offerV a0 a1 l2 l3 a4 z l6 ls now c wanted = (out, h, 0) ∧ pickV a0 a1 l2 l3 a4 z l6 ls now c wanted = (h, 0) ∧ Granted a0 a1 l2 l3 a4 z l6 ls now c h out := by
  unfold offerV
  cases hM : (pickMayB a0 a1 l2 l3 a4 z l6 ls now c && decide (0 ≤ now ∧ now ≤ 1099510579200)) with
  | false => exact .inl ⟨1500, by decide, by rw [if_neg (by decide)], .inl rfl⟩
  | true =>
    rw [if_pos rfl]
    rw [Bool.and_eq_true, decide_eq_true_eq] at hM
    obtain ⟨p, e, hpe⟩ : ∃ p e, pickV a0 a1 l2 l3 a4 z l6 ls now c wanted = (p, e) := ⟨_, _, rfl⟩
    rw [hpe]
    have ht := pick_told ls now c wanted p e hM.1 hpe
    rcases ht with ⟨rfl, ho, _⟩ | ⟨rfl, rfl, _⟩
    · rw [if_pos rfl]
      obtain ⟨out, g, e2, hge⟩ : ∃ out g e2, offerGo c now p ls = (out, g, e2) := ⟨_, _, _, rfl⟩
      by_cases q : e2 = 0
      · subst q
        have h2 := offer_told p g out hM.1 hM.2 ho hge
        obtain ⟨rfl, h3, h4, h5⟩ := h2
        exact .inr ⟨out, g, hge, rfl, ⟨hM.1, hM.2, ho, h3, h4, h5⟩⟩
      · have hr : offerGo c now p ls = ([], 0, e2) ∧ e2 = 1500 := by
          unfold offerGo at hge ⊢
          by_cases q1 : boundX c now (gotL (findL ls p)) = true
          · rw [if_pos q1] at hge
            exact absurd (Prod.mk.inj (Prod.mk.inj hge).2).2.symm q
          · rw [if_neg q1] at hge ⊢
            by_cases q2 : (putL (dropL offeredX c now p ls) ⟨p, 1, c, now + 8, ⟨#[]⟩, false⟩).length ≤ 8
            · rw [if_pos q2] at hge
              exact absurd (Prod.mk.inj (Prod.mk.inj hge).2).2.symm q
            · rw [if_neg q2] at hge ⊢
              have e9 := (Prod.mk.inj (Prod.mk.inj hge).2).2
              rw [← e9]
              exact ⟨rfl, rfl⟩
        exact .inl ⟨e2, q, hr.1, .inl hr.2⟩
    · exact .inl ⟨1401, by decide, by rw [if_neg (by decide)], .inr ⟨hM.1, rfl⟩⟩
theorem holds_parts (x : S35) : holdsX c now x = (liveX now x && (decide (x.f1 ≠ 3) && decide (x.f2.toList = c.toList))) := rfl
theorem bound_parts (x : S35) : boundX c now x = (holdsX c now x && decide (x.f1 = 2)) := rfl
theorem open_free {h : Int} (e : openB a0 a1 l2 l3 a4 z l6 ls now c h = true) : freeX c now (findL ls h) = true := by
  unfold openB at e
  rw [Bool.and_eq_true] at e
  exact e.2
end
section
variable {a0 a1 : Int} {l2 : List Int} {l3 : List S56} {a4 : Int} {z : ByteArray} {l6 : List S58} {ls : List S35} {now : Int} {c : ByteArray}
/-- what becomes of a lease. -/
theorem grant_step {h : Int} {out : List S35} (G : Granted a0 a1 l2 l3 a4 z l6 ls now c h out) {x : S35} (hx : x ∈ ls) : ∃ y, findL out x.f0 = some y ∧ (liveX now x = true → x.f2.toList ≠ c.toList → y = x) ∧ (liveX now x = true → x.f1 = 2 → y = x) := by
  have hT := (may_parts G.may).2.2.2.1
  have hs := (table_sorted hT).2.1
  have hfx := find_of hs hx
  by_cases q : x.f0 = h
  · have hf := open_free G.opn
    rw [← q, hfx] at hf
    have hf2 : (!liveX now x || holdsX c now x) = true := hf
    have hn := G.near
    rw [← q, hfx] at hn
    rcases hn with ⟨_, h2, _⟩ | ⟨h1, h2⟩
    · exact ⟨x, h2, fun _ _ => rfl, fun _ _ => rfl⟩
    · refine ⟨_, h2, fun hl hc => ?_, fun hl hst => ?_⟩
      · rw [hl, Bool.not_true, Bool.false_or, holds_parts, hl, decide_eq_false hc, Bool.and_false, Bool.and_false] at hf2
        cases hf2
      · rw [hl, Bool.not_true, Bool.false_or] at hf2
        have h3 : boundX c now x = false := h1
        rw [bound_parts, hf2, decide_eq_true hst] at h3
        cases h3
  · have hfar := G.far x.f0 q
    rw [hfx] at hfar
    refine ⟨_, hfar, fun hl hc => ?_, fun hl hst => ?_⟩
    · show (if dropX offeredX c now h x = true then freedX x else x) = x
      rw [if_neg]
      unfold dropX
      rw [holds_parts, decide_eq_false hc, Bool.and_false, Bool.and_false, Bool.false_and, Bool.and_false]
      decide
    · show (if dropX offeredX c now h x = true then freedX x else x) = x
      rw [if_neg]
      unfold dropX offeredX
      rw [decide_eq_false (show ¬ x.f1 = 1 by omega), Bool.and_false, Bool.and_false]
      decide
/-- is it a Live offer of a client's. -/
def liveOffer (c : ByteArray) (now : Int) (y : S35) : Bool := liveX now y && (decide (y.f1 = 1) && decide (y.f2.toList = c.toList))
theorem offer_host {h : Int} {out : List S35} (G : Granted a0 a1 l2 l3 a4 z l6 ls now c h out) {y : S35} (hy : y ∈ out) (hq : liveOffer c now y = true) : y.f0 = h := by
  have hs := (table_sorted G.tab).2.1
  have hfy := find_of hs hy
  by_cases q : y.f0 = h
  · exact q
  · exfalso
    have hfar := G.far y.f0 q
    rw [hfy] at hfar
    cases hf : findL ls y.f0 with
    | none => rw [hf] at hfar; cases hfar
    | some x =>
      rw [hf, Option.map_some] at hfar
      have e := Option.some.inj hfar
      have hx0 := (find_some hf).2
      unfold liveOffer at hq
      rw [Bool.and_eq_true, Bool.and_eq_true, decide_eq_true_eq, decide_eq_true_eq] at hq
      by_cases q2 : dropX offeredX c now h x = true
      · rw [if_pos q2] at e
        rw [e, (live_freed c now x).1] at hq
        cases hq.1
      · rw [if_neg q2] at e
        apply q2
        rw [← e]
        unfold dropX offeredX
        rw [holds_parts, hq.1, decide_eq_true hq.2.1, decide_eq_true hq.2.2, decide_eq_true q, decide_eq_true (show y.f1 ≠ 3 by omega)]
        rfl
theorem few_offers {h : Int} {out : List S35} (G : Granted a0 a1 l2 l3 a4 z l6 ls now c h out) : (out.filter (liveOffer c now)).length ≤ 1 := by
  have hs := ((table_sorted G.tab).2.1).filter (liveOffer c now)
  have ha : ∀ y ∈ out.filter (liveOffer c now), y.f0 = h := fun y hy => by
    obtain ⟨h1, h2⟩ := List.mem_filter.1 hy
    exact offer_host G h1 h2
  generalize out.filter (liveOffer c now) = L at hs ha
  match L, hs, ha with
  | [], _, _ => exact Nat.zero_le _
  | [x], _, _ => exact Nat.le_refl _
  | x :: y :: r, hs, ha =>
    have h1 := (List.pairwise_cons.1 hs).1 y List.mem_cons_self
    have h2 := ha x List.mem_cons_self
    have h3 := ha y (List.mem_cons_of_mem _ List.mem_cons_self)
    omega
theorem others_l0 (out : List S35) (ht : tabFitR out) (h8 : out.length ≤ 8) (h : Int) : ∀ (d k i m : Nat), i + d = out.length → m + d ≤ 1000 → pinfoldlaw15_OfferOthers.l0 (k + d + 1) ls now c out h (m : Int) (i : Int) = pinfoldlaw15_OfferOthers.l1 k ls now c out h ((m + ((out.drop i).filter (liveOffer c now)).length : Nat) : Int) 0
  | 0, k, i, m, hi, _ => by
    rw [List.drop_eq_nil_of_le (by omega), pinfoldlaw15_OfferOthers.l0, if_neg (by omega)]
    rfl
  | d + 1, k, i, m, hi, hm => by
    have hlt : i < out.length := by omega
    have hsz := ht.2 out[i] (List.getElem_mem hlt)
    have ih0 := others_l0 out ht h8 h d k (i + 1) m (by omega) (by omega)
    have ih1 := others_l0 out ht h8 h d k (i + 1) (m + 1) (by omega) (by omega)
    rw [show k + (d + 1) + 1 = (k + d + 1) + 1 by omega, pinfoldlaw15_OfferOthers.l0, if_pos (by omega), if_pos (by omega), rdLease_get out i hlt, wrap_succ i out.length hlt ht.1, show wrap64 ((m : Int) + 1) = ((m + 1 : Nat) : Int) by unfold wrap64; omega, List.drop_eq_getElem_cons hlt, List.filter_cons]
    unfold pinfoldref11_Live_c.f
    rw [if_pos hsz, Option.bind_some]
    have e : liveOffer c now out[i] = (liveB out[i].f0 out[i].f1 out[i].f2 out[i].f3 out[i].f4 out[i].f5 now && (decide (out[i].f1 = 1) && decide (out[i].f2.toList = c.toList))) := rfl
    rw [e]
    cases liveB out[i].f0 out[i].f1 out[i].f2 out[i].f3 out[i].f4 out[i].f5 now with
    | false =>
      rw [if_neg (by decide), Bool.false_and, if_neg (by decide)]
      exact ih0
    | true =>
      rw [if_pos rfl, Bool.true_and]
      by_cases q1 : out[i].f1 = 1
      · rw [if_pos q1, decide_eq_true q1, Bool.true_and]
        by_cases q2 : out[i].f2.toList = c.toList
        · rw [if_pos q2, decide_eq_true q2, if_pos rfl, ih1, List.length_cons]
          congr 1
          omega
        · rw [if_neg q2, decide_eq_false q2, if_neg (by decide)]
          exact ih0
      · rw [if_neg q1, decide_eq_false q1, Bool.false_and, if_neg (by decide)]
        exact ih0
theorem others_l1 {h : Int} {out : List S35} (G : Granted a0 a1 l2 l3 a4 z l6 ls now c h out) (m : Nat) (hm : m ≤ 1) : ∀ (d k i : Nat), i + d = ls.length → 2 * d + 1 ≤ k → pinfoldlaw15_OfferOthers.l1 k ls now c out h (m : Int) (i : Int) = some true
  | 0, k, i, hi, hk => by
    obtain ⟨k, rfl⟩ : ∃ j, k = j + 1 := ⟨k - 1, by omega⟩
    have hto := table_fitr G.tab
    rw [pinfoldlaw15_OfferOthers.l1, if_neg (by omega)]
    unfold pinfoldref11_FindLease_c.f pinfoldref11_TableMay_c.f
    rw [if_pos hto.1, Option.bind_some, if_pos (by omega), if_pos hto, G.tab]
    have main : ∃ y, findL out h = some y ∧ liveX now y = true ∧ y.f2.toList = c.toList := by
      rcases G.near with ⟨h1, h2, _⟩ | ⟨_, h2⟩
      · cases hf : findL ls h with
        | none =>
          rw [hf] at h1
          exact absurd h1 (by
            rw [bound_parts, holds_parts, show liveX now (gotL none) = false from rfl, Bool.false_and, Bool.false_and]
            decide)
        | some x =>
          rw [hf] at h1 h2
          have h3 : boundX c now x = true := h1
          rw [bound_parts, holds_parts, Bool.and_eq_true, Bool.and_eq_true, Bool.and_eq_true, decide_eq_true_eq, decide_eq_true_eq] at h3
          exact ⟨x, h2, h3.1.1, h3.1.2.2⟩
      · refine ⟨_, h2, ?_, rfl⟩
        have hin := open_in G.opn
        have hb := (may_parts G.may).1
        have hb2 := (may_parts G.may).2.1
        have hok := new_ok (c := c) (now := now) h ⟨by omega, by omega⟩ (may_parts G.may).2.2.2.2.2 G.early
        have e : liveX now (⟨h, 1, c, now + 8, ⟨#[]⟩, false⟩ : S35) = (leaseOk (⟨h, 1, c, now + 8, ⟨#[]⟩, false⟩ : S35) && decide ((1 : Int) ≠ 0) && decide (now + 8 > now)) := rfl
        rw [e, hok, decide_eq_true (show now + 8 > now by omega)]
        rfl
    obtain ⟨y, hy, hl, hc⟩ := main
    have hysz := hto.2 y (find_some hy).1
    rw [hy]
    simp only [Option.isSome_some, if_true, gotL, Option.getD_some, Option.bind_some]
    unfold pinfoldref11_Live_c.f
    rw [if_pos hysz, Option.bind_some, if_pos (show liveB y.f0 y.f1 y.f2 y.f3 y.f4 y.f5 now = true from hl)]
    exact if_pos hc
  | d + 1, k, i, hi, hk => by
    obtain ⟨k, rfl⟩ : ∃ j, k = j + 2 := ⟨k - 2, by omega⟩
    have hlt : i < ls.length := by omega
    have ih := others_l1 G m hm d k (i + 1) (by omega) (by omega)
    have hT := (may_parts G.may).2.2.2.1
    have htl := table_fitr hT
    have hto := table_fitr G.tab
    have hx := List.getElem_mem hlt
    have hsz := htl.2 _ hx
    obtain ⟨y, hy, hA, hB⟩ := grant_step G hx
    rw [pinfoldlaw15_OfferOthers.l1, if_pos (by omega), if_pos (by omega), rdLease_get ls i hlt]
    unfold pinfoldref11_FindLease_c.f pinfoldref11_Live_c.f
    rw [if_pos hto.1, Option.bind_some, hy]
    simp only [Option.isSome_some, if_true, gotL, Option.getD_some]
    rw [if_pos hsz, Option.bind_some]
    have hj2 : ∀ b, b = false → pinfoldlaw15_OfferOthers.j2 (k + 1) ls now c out h (m : Int) (i : Int) b y.f0 y.f1 y.f2 y.f3 y.f4 y.f5 = some true := by
      rintro b rfl
      rw [pinfoldlaw15_OfferOthers.j2, if_neg (by decide), if_pos (by omega), if_pos (by omega), rdLease_get ls i hlt, wrap_succ i ls.length hlt htl.1, ih]
      unfold pinfoldref11_Live_c.f
      rw [if_pos hsz, Option.bind_some]
      cases hl : liveB ls[i].f0 ls[i].f1 ls[i].f2 ls[i].f3 ls[i].f4 ls[i].f5 now with
      | false => rfl
      | true =>
        rw [if_pos rfl]
        by_cases q : ls[i].f1 = 2
        · rw [if_pos q, hB hl q, if_neg (by simp)]
        · rw [if_neg q]
    cases hl : liveB ls[i].f0 ls[i].f1 ls[i].f2 ls[i].f3 ls[i].f4 ls[i].f5 now with
    | false =>
      rw [if_neg (by decide)]
      exact hj2 _ rfl
    | true =>
      rw [if_pos rfl]
      by_cases q : ls[i].f2.toList = c.toList
      · rw [if_pos q]
        exact hj2 _ rfl
      · rw [if_neg q]
        refine hj2 _ ?_
        rw [hA hl q]
        simp
end
/-- an offer turns nothing of any other client's. -/
theorem OfferOthers : pinfoldlaw15_OfferOthers.Pure := by
  intro a0 a1 l2 l3 a4 z l6 ls now c wanted _ _ w2 w3 _ w5 w6 w7 _ _ _
  have hf : confFit l2 l3 z l6 := fit_of w2.1 w3.1 w5 w6.1 (fun x hx => ⟨(w6.2 x hx).1, (w6.2 x hx).2.2.2.2.1⟩)
  have ht : tabFit ls := by
    have h7 := w7.1
    rw [show Tryd.prog.bytesOf 35 = 64 by kernel_rfl] at h7
    exact ⟨by omega, fun x hx => (w7.2 x hx).2.2.2.2.1⟩
  have eO : offer_Offer.f a0 a1 l2 l3 a4 z l6 ls now c wanted = some (offerV a0 a1 l2 l3 a4 z l6 ls now c wanted) := by
    unfold offer_Offer.f
    rw [if_pos ⟨hf, ht⟩]
  rcases offer_cases (a0 := a0) (a1 := a1) (l2 := l2) (l3 := l3) (a4 := a4) (z := z) (l6 := l6) (ls := ls) (now := now) (c := c) wanted with ⟨e, he, hv, _⟩ | ⟨out, h, hv, _, G⟩
  · refine ⟨20, ?_⟩
    unfold pinfoldlaw15_OfferOthers.f
    rw [awake20, Option.bind_some, if_pos rfl, eO, hv, Option.bind_some]
    simp only [pinfoldlaw0_Num.f, Option.bind_some]
    rw [if_neg he]
    rfl
  · have h8 := (table_sorted G.tab).2.2
    have h8l := (table_sorted (may_parts G.may).2.2.2.1).2.2
    refine ⟨60 + out.length + 1, ?_⟩
    unfold pinfoldlaw15_OfferOthers.f
    rw [awake_eq _ (by omega), Option.bind_some, if_pos rfl, eO, hv, Option.bind_some]
    simp only [pinfoldlaw0_Num.f, Option.bind_some, if_true]
    have e0 := others_l0 (ls := ls) (now := now) (c := c) out (table_fitr G.tab) h8 h out.length 60 0 0 (by omega) (by omega)
    rw [show ((0 : Nat) : Int) = 0 from rfl, Nat.zero_add, List.drop_zero] at e0
    rw [e0]
    exact others_l1 G _ (few_offers G) ls.length 60 0 (by omega) (by omega)

end Go.Proofs.YtdhckibkljafgaaDoor.Pure
