/- OfferPicks: what is offered is what is picked; it is the client's then. No condition. -/
import Derived.Test.YtdhckibkljafgaaGreatDoorPIx17
namespace Go.Proofs.YtdhckibkljafgaaGreatDoor.Pure
open Go.RowKit Go.Proofs.YtdhckibkljafgaaGreatDoor.PI Go.Proofs.YtdhckibkljafgaaGreatDoorW.PrintWords Go.Proofs.YtdhckibkljafgaaGreatDoorW.PrintLast
set_option linter.unusedSimpArgs false
set_option linter.unusedVariables false

theorem fit_of {l2 : List Int} {l3 : List S81} {z : ByteArray} {l6 : List S83} (h2 : l2.length * Tryz.prog.bytesOf 3 ≤ 140737488351232) (h3 : l3.length * Tryz.prog.bytesOf 81 ≤ 140737488351232) (hz : z.size ≤ 140737488351232) (h6 : l6.length * Tryz.prog.bytesOf 83 ≤ 140737488351232) (hx : ∀ x ∈ l6, x.f0.size ≤ 140737488351232 ∧ x.f4.size ≤ 140737488351232) : confFit l2 l3 z l6 := by
  rw [show Tryz.prog.bytesOf 3 = 8 by kernel_rfl] at h2
  rw [show Tryz.prog.bytesOf 81 = 24 by kernel_rfl] at h3
  rw [show Tryz.prog.bytesOf 83 = 80 by kernel_rfl] at h6
  exact ⟨by omega, by omega, hz, by omega, hx⟩
theorem awake20 : pinfoldlaw15_awake.f 20 = some true := by kernel_rfl
theorem awake_eq (k : Nat) (hk : 20 ≤ k) : pinfoldlaw15_awake.f k = some true := at_rounds (g := fun k => pinfoldlaw15_awake.f k) pinfoldlaw15_awake.mono (k := 20) hk awake20
theorem hostsFrom_eq : ∀ (d : Nat) (h : Int), hostsFrom h d = (List.range d).map fun (i : Nat) => h + (i : Int)
  | 0, h => rfl
  | d + 1, h => by
    rw [List.range_succ_eq_map, List.map_cons, List.map_map]
    show h :: hostsFrom (h + 1) d = _
    rw [hostsFrom_eq d (h + 1)]
    congr 1
    · omega
    · apply List.map_congr_left
      intro i _
      show h + 1 + (i : Int) = h + ((i + 1 : Nat) : Int)
      omega
theorem go_find (ls : List S44) : ∀ (O : List Int) (best til : Int), refGo ls best til O = match O.find? (fun h => Option.isNone (findL ls h)) with
    | some h => (h, 0)
    | none => if eldGo ls best til O = 0 then (0, 1401) else (eldGo ls best til O, 0)
  | [], best, til => rfl
  | h :: r, best, til => by
    have e0 : ∀ x, findL ls h = some x → eldGo ls best til (h :: r) = if best = 0 ∨ x.f3 < til then eldGo ls h x.f3 r else eldGo ls best til r := by
      intro x e
      show (if best = 0 ∨ (gotL (findL ls h)).f3 < til then _ else _) = _
      rw [e]
      rfl
    rw [List.find?_cons]
    cases hfd : findL ls h with
    | none => simp only [refGo, hfd, Option.isNone_none]
    | some x =>
      rw [e0 x hfd]
      simp only [refGo, hfd, Option.isNone_some]
      by_cases q : best = 0 ∨ x.f3 < til
      · rw [if_pos q, if_pos q]
        exact go_find ls r h x.f3
      · rw [if_neg q, if_neg q]
        exact go_find ls r best til
theorem hosts_sorted (a b : Int) : (hostsL a b).Pairwise (· < ·) := by
  unfold hostsL
  rw [List.pairwise_map]
  refine List.Pairwise.imp (fun {x y} (h : x < y) => ?_) List.pairwise_lt_range
  omega
theorem find_of_mem {ls : List S44} (hs : ls.Pairwise (fun a b => a.f0 < b.f0)) {x : S44} (hx : x ∈ ls) : findL ls x.f0 = some x := by
  cases hfd : findL ls x.f0 with
  | none => exact absurd rfl (find_none hfd x hx)
  | some y =>
    obtain ⟨hy, he⟩ := find_some hfd
    rw [host_once hs y hy x hx he]
section
variable {a0 a1 : Int} {l2 : List Int} {l3 : List S81} {a4 : Int} {z : ByteArray} {l6 : List S83}
theorem had_eq {ls : List S44} (hs : ls.Pairwise (fun a b => a.f0 < b.f0)) (now : Int) (c : ByteArray) : ((hostsL a0 a1).filter (openB a0 a1 l2 l3 a4 z l6 ls now c)).find? (fun h => hadQ c now (findL ls h)) = (ls.find? (hadC a0 a1 l2 l3 a4 z l6 ls now c)).map (fun x => x.f0) := by
  have hmo := fun h => @mem_open a0 a1 l2 l3 a4 z l6 ls now c h
  have hso : ((hostsL a0 a1).filter (openB a0 a1 l2 l3 a4 z l6 ls now c)).Pairwise (· < ·) := (hosts_sorted a0 a1).filter _
  generalize (hostsL a0 a1).filter (openB a0 a1 l2 l3 a4 z l6 ls now c) = O at hmo hso
  have hback : ∀ h, h ∈ O → hadQ c now (findL ls h) = true → ∃ x ∈ ls, x.f0 = h ∧ hadC a0 a1 l2 l3 a4 z l6 ls now c x = true := by
    intro h ho hq
    cases hfd : findL ls h with
    | none => rw [hfd] at hq; cases hq
    | some x =>
      obtain ⟨hx, he⟩ := find_some hfd
      rw [hfd] at hq
      refine ⟨x, hx, he, ?_⟩
      have hq2 : (decide (x.f2.toList = c.toList) && !liveX now x) = true := hq
      unfold hadC
      rw [he, (hmo h).1 ho, Bool.and_true, Bool.and_comm]
      exact hq2
  have hforth : ∀ x ∈ ls, hadC a0 a1 l2 l3 a4 z l6 ls now c x = true → x.f0 ∈ O ∧ hadQ c now (findL ls x.f0) = true := by
    intro x hx hq
    unfold hadC at hq
    rw [Bool.and_eq_true] at hq
    refine ⟨(hmo x.f0).2 hq.2, ?_⟩
    rw [find_of_mem hs hx]
    show (decide (x.f2.toList = c.toList) && !liveX now x) = true
    rw [Bool.and_comm]
    exact hq.1
  cases hs2 : ls.find? (hadC a0 a1 l2 l3 a4 z l6 ls now c) with
  | none =>
    rw [Option.map_none, List.find?_eq_none]
    intro h ho hq
    obtain ⟨x, hx, _, hc⟩ := hback h ho hq
    exact (List.find?_eq_none.1 hs2 x hx) hc
  | some x =>
    obtain ⟨hcx, us, vs, hls, has⟩ := List.find?_eq_some_iff_append.1 hs2
    have hx : x ∈ ls := List.mem_of_find?_eq_some hs2
    obtain ⟨ho, hq⟩ := hforth x hx hcx
    rw [Option.map_some]
    cases ho2 : O.find? (fun h => hadQ c now (findL ls h)) with
    | none => exact absurd hq (List.find?_eq_none.1 ho2 x.f0 ho)
    | some h' =>
      obtain ⟨hq', us', vs', hO, has'⟩ := List.find?_eq_some_iff_append.1 ho2
      obtain ⟨x', hx', he', hc'⟩ := hback h' (List.mem_of_find?_eq_some ho2) hq'
      have le1 : x.f0 ≤ h' := by
        rw [hls] at hx' hs
        rcases List.mem_append.1 hx' with m | m
        · have := has x' m
          rw [hc'] at this
          cases this
        · rcases List.mem_cons.1 m with e | m
          · rw [← he', e]
            exact Int.le_refl _
          · have := (List.pairwise_cons.1 (List.pairwise_append.1 hs).2.1).1 x' m
            omega
      have le2 : h' ≤ x.f0 := by
        rw [hO] at ho hso
        rcases List.mem_append.1 ho with m | m
        · have := has' x.f0 m
          rw [hq] at this
          cases this
        · rcases List.mem_cons.1 m with e | m
          · rw [e]
            exact Int.le_refl _
          · have := (List.pairwise_cons.1 (List.pairwise_append.1 hso).2.1).1 x.f0 m
            omega
      rw [show h' = x.f0 by omega]
/-- what the document picks. -/
theorem refpickP_eq (ls : List S44) (now : Int) (c : ByteArray) (wanted : Int) (hM : pickMayB a0 a1 l2 l3 a4 z l6 ls now c = true) : refPickP a0 a1 l2 l3 a4 z l6 ls now c wanted = pickV a0 a1 l2 l3 a4 z l6 ls now c wanted := by
  obtain ⟨hb, hb2, hcf, hT, _⟩ := may_parts hM
  obtain ⟨_, hs, h8⟩ := table_sorted hT
  have h0 : openB a0 a1 l2 l3 a4 z l6 ls now c 0 = false := by
    cases e : openB a0 a1 l2 l3 a4 z l6 ls now c 0 with
    | false => rfl
    | true => have := open_in e; omega
  have hend : refEnd a0 a1 l2 l3 a4 z l6 ls now c (ls.find? (hadC a0 a1 l2 l3 a4 z l6 ls now c)) = restV a0 a1 l2 l3 a4 z l6 ls now c := by
    have hh : hostsFrom a0 (a1 + 1 - a0).toNat = hostsL a0 a1 := hostsFrom_eq _ _
    have h3 := had_eq (a0 := a0) (a1 := a1) (l2 := l2) (l3 := l3) (a4 := a4) (z := z) (l6 := l6) hs now c
    have hpos : ∀ h ∈ (hostsL a0 a1).filter (openB a0 a1 l2 l3 a4 z l6 ls now c), h > 0 := fun h hh => by have := open_in (mem_open.1 hh); omega
    have hem := eld_mem ls ((hostsL a0 a1).filter (openB a0 a1 l2 l3 a4 z l6 ls now c)) 0 0
    unfold restV firstH
    cases hfx : ls.find? (hadC a0 a1 l2 l3 a4 z l6 ls now c) with
    | some x =>
      rw [h3, hfx]
      have hxo : x.f0 ∈ (hostsL a0 a1).filter (openB a0 a1 l2 l3 a4 z l6 ls now c) := by
        rw [hfx, Option.map_some] at h3
        exact List.mem_of_find?_eq_some h3
      have := hpos _ hxo
      simp only [Option.map_some, Option.getD_some]
      rw [List.find?_cons, decide_eq_true this]
      rfl
    | none =>
      rw [h3, hfx]
      show refGo ls 0 0 ((hostsFrom a0 (a1 + 1 - a0).toNat).filter (openB a0 a1 l2 l3 a4 z l6 ls now c)) = _
      rw [hh, go_find]
      generalize (hostsL a0 a1).filter (openB a0 a1 l2 l3 a4 z l6 ls now c) = O at hpos hem
      simp only [Option.map_none, Option.getD_none]
      rw [List.find?_cons, show decide ((0 : Int) > 0) = false from rfl]
      cases hfn : O.find? (fun h => Option.isNone (findL ls h)) with
      | some h =>
        have := hpos h (List.mem_of_find?_eq_some hfn)
        simp only [Option.getD_some]
        rw [List.find?_cons, decide_eq_true this]
      | none =>
        simp only [Option.getD_none]
        rw [List.find?_cons, show decide ((0 : Int) > 0) = false from rfl, List.find?_cons]
        rcases hem with e | e
        · rw [e]
          rfl
        · have := hpos _ e
          rw [if_neg (by omega), decide_eq_true this]
  have e1 : ((ofL ls c now).isSome && openB a0 a1 l2 l3 a4 z l6 ls now c (gotL (ofL ls c now)).f0) = openB a0 a1 l2 l3 a4 z l6 ls now c (gotL (ofL ls c now)).f0 := by
    cases ofL ls c now with
    | none => rw [show (gotL none).f0 = 0 from rfl, h0]; rfl
    | some y => rfl
  have e2 : (foundIs (reservR a0 a1 l2 l3 a4 z l6 c) && openB a0 a1 l2 l3 a4 z l6 ls now c (foundH (reservR a0 a1 l2 l3 a4 z l6 c))) = openB a0 a1 l2 l3 a4 z l6 ls now c (foundH (reservR a0 a1 l2 l3 a4 z l6 c)) := by
    cases reservR a0 a1 l2 l3 a4 z l6 c with
    | none => rw [show foundH none = 0 from rfl, h0]; rfl
    | some y => rfl
  unfold refPickP
  rw [pick_parts, hend, e1, e2]
end
section
variable {a0 a1 : Int} {l2 : List Int} {l3 : List S81} {a4 : Int} {z : ByteArray} {l6 : List S83} {ls : List S44} {now : Int} {c : ByteArray}
/-- an offer that is granted. -/
structure Granted (a0 a1 : Int) (l2 : List Int) (l3 : List S81) (a4 : Int) (z : ByteArray) (l6 : List S83) (ls : List S44) (now : Int) (c : ByteArray) (h : Int) (out : List S44) : Prop where
  may : pickMayB a0 a1 l2 l3 a4 z l6 ls now c = true
  early : 0 ≤ now ∧ now ≤ 1099510579200
  opn : openB a0 a1 l2 l3 a4 z l6 ls now c h = true
  tab : tableB out = true
  far : ∀ host, host ≠ h → findL out host = (findL ls host).map fun x => if dropX offeredX c now h x = true then freedX x else x
  near : (boundX c now (gotL (findL ls h)) = true ∧ findL out h = findL ls h ∧ out.length = ls.length) ∨ (boundX c now (gotL (findL ls h)) = false ∧ findL out h = some ⟨h, 1, c, now + 8, ⟨#[]⟩, false⟩)
theorem offer_cases (wanted : Int) : (∃ e, e ≠ 0 ∧ offerV a0 a1 l2 l3 a4 z l6 ls now c wanted = ([], 0, e) ∧ (e = 1500 ∨ pickMayB a0 a1 l2 l3 a4 z l6 ls now c = true ∧ (pickV a0 a1 l2 l3 a4 z l6 ls now c wanted).2 = e)) ∨ ∃ out h, offerV a0 a1 l2 l3 a4 z l6 ls now c wanted = (out, h, 0) ∧ pickV a0 a1 l2 l3 a4 z l6 ls now c wanted = (h, 0) ∧ Granted a0 a1 l2 l3 a4 z l6 ls now c h out := by
  unfold offerV
  cases hM : (pickMayB a0 a1 l2 l3 a4 z l6 ls now c && decide (0 ≤ now ∧ now ≤ 1099510579200)) with
  | false => exact .inl ⟨1500, by decide, by rw [if_neg (by decide)], .inl rfl⟩
  | true =>
    rw [if_pos rfl]
    rw [Bool.and_eq_true, decide_eq_true_eq] at hM
    obtain ⟨p, e, hpe⟩ : ∃ p e, pickV a0 a1 l2 l3 a4 z l6 ls now c wanted = (p, e) := ⟨_, _, rfl⟩
    rw [hpe]
    have ht := pick_told ls now c wanted p e hM.1 hpe
    rcases ht with ⟨rfl, ho, _⟩ | ⟨rfl, rfl, _⟩
    · rw [if_pos rfl]
      obtain ⟨out, g, e2, hge⟩ : ∃ out g e2, offerGo c now p ls = (out, g, e2) := ⟨_, _, _, rfl⟩
      by_cases q : e2 = 0
      · subst q
        have h2 := offer_told p g out hM.1 hM.2 ho hge
        obtain ⟨rfl, h3, h4, h5⟩ := h2
        exact .inr ⟨out, g, hge, rfl, ⟨hM.1, hM.2, ho, h3, h4, h5⟩⟩
      · have hr : offerGo c now p ls = ([], 0, e2) ∧ e2 = 1500 := by
          unfold offerGo at hge ⊢
          by_cases q1 : boundX c now (gotL (findL ls p)) = true
          · rw [if_pos q1] at hge
            exact absurd (Prod.mk.inj (Prod.mk.inj hge).2).2.symm q
          · rw [if_neg q1] at hge ⊢
            by_cases q2 : (putL (dropL offeredX c now p ls) ⟨p, 1, c, now + 8, ⟨#[]⟩, false⟩).length ≤ 8
            · rw [if_pos q2] at hge
              exact absurd (Prod.mk.inj (Prod.mk.inj hge).2).2.symm q
            · rw [if_neg q2] at hge ⊢
              have e9 := (Prod.mk.inj (Prod.mk.inj hge).2).2
              rw [← e9]
              exact ⟨rfl, rfl⟩
        exact .inl ⟨e2, q, hr.1, .inl hr.2⟩
    · exact .inl ⟨1401, by decide, by rw [if_neg (by decide)], .inr ⟨hM.1, rfl⟩⟩
theorem holds_parts (x : S44) : holdsX c now x = (liveX now x && (decide (x.f1 ≠ 3) && decide (x.f2.toList = c.toList))) := rfl
theorem bound_parts (x : S44) : boundX c now x = (holdsX c now x && decide (x.f1 = 2)) := rfl
theorem open_free {h : Int} (e : openB a0 a1 l2 l3 a4 z l6 ls now c h = true) : freeX c now (findL ls h) = true := by
  unfold openB at e
  rw [Bool.and_eq_true] at e
  exact e.2
end
section
variable {a0 a1 : Int} {l2 : List Int} {l3 : List S81} {a4 : Int} {z : ByteArray} {l6 : List S83} {ls : List S44} {now : Int} {c : ByteArray}
/-- who has nothing else that is bound has just what it was offered. -/
theorem grant_pick {h : Int} {out : List S44} (G : Granted a0 a1 l2 l3 a4 z l6 ls now c h out) (hno : ∀ x ∈ ls, x.f0 ≠ h → x.f2.toList = c.toList → x.f1 = 2 → liveX now x = false) : pickMayB a0 a1 l2 l3 a4 z l6 out now c = true ∧ pickV a0 a1 l2 l3 a4 z l6 out now c 0 = (h, 0) := by
  obtain ⟨hb, hb2, hcf, hT, hn, hcl⟩ := may_parts G.may
  have hM : pickMayB a0 a1 l2 l3 a4 z l6 out now c = true := by
    unfold pickMayB
    rw [hcf, G.tab, hcl, decide_eq_true hn]
    rfl
  refine ⟨hM, ?_⟩
  have hso := (table_sorted G.tab).2.1
  have hin := open_in G.opn
  -- the lease at the host holds
  have near : ∃ y, findL out h = some y ∧ holdsX c now y = true := by
    rcases G.near with ⟨h1, h2, _⟩ | ⟨_, h2⟩
    · cases hf : findL ls h with
      | none =>
        rw [hf] at h1
        exact absurd h1 (by
          rw [bound_parts, holds_parts, show liveX now (gotL none) = false from rfl, Bool.false_and, Bool.false_and]
          decide)
      | some x =>
        rw [hf] at h1 h2
        have h3 : boundX c now x = true := h1
        rw [bound_parts, Bool.and_eq_true] at h3
        exact ⟨x, h2, h3.1⟩
    · refine ⟨_, h2, ?_⟩
      have hok := new_ok (c := c) (now := now) h ⟨by omega, by omega⟩ hcl G.early
      have e : holdsX c now (⟨h, 1, c, now + 8, ⟨#[]⟩, false⟩ : S44) = (leaseOk (⟨h, 1, c, now + 8, ⟨#[]⟩, false⟩ : S44) && decide ((1 : Int) ≠ 0) && decide (now + 8 > now) && (decide ((1 : Int) ≠ 3) && decide (c.toList = c.toList))) := rfl
      rw [e, hok, decide_eq_true (show now + 8 > now by omega), decide_eq_true rfl]
      rfl
  obtain ⟨y, hy, hhold⟩ := near
  obtain ⟨hym, hy0⟩ := find_some hy
  -- no other one holds
  have only : ∀ w ∈ out, holdsX c now w = true → w.f0 = h := by
    intro w hw hh
    by_cases q : w.f0 = h
    · exact q
    · exfalso
      have hfw := find_of hso hw
      have hfar := G.far w.f0 q
      rw [hfw] at hfar
      cases hf : findL ls w.f0 with
      | none => rw [hf] at hfar; cases hfar
      | some x =>
        rw [hf, Option.map_some] at hfar
        have e := Option.some.inj hfar
        obtain ⟨hxm, hx0⟩ := find_some hf
        by_cases q2 : dropX offeredX c now h x = true
        · rw [if_pos q2] at e
          rw [e, (live_freed c now x).2.1] at hh
          cases hh
        · rw [if_neg q2] at e
          rw [e] at hh
          have hp := hh
          rw [holds_parts, Bool.and_eq_true, Bool.and_eq_true, decide_eq_true_eq, decide_eq_true_eq] at hp
          have hne : x.f0 ≠ h := by rw [hx0]; exact q
          have hst : x.f1 = 1 ∨ x.f1 = 2 := by
            have hl : liveB x.f0 x.f1 x.f2 x.f3 x.f4 x.f5 now = true := hp.1
            unfold liveB leaseB stateB at hl
            simp only [Bool.and_eq_true, decide_eq_true_eq] at hl
            obtain ⟨⟨⟨⟨⟨⟨_, h5⟩, _⟩, _⟩, _⟩, h0⟩, _⟩ := hl
            by_cases q0 : x.f1 = 0 ∨ x.f1 = 3
            · have := hp.2.1; omega
            rw [if_neg q0] at h5
            by_cases q1 : x.f1 = 1
            · exact .inl q1
            rw [if_neg q1] at h5
            by_cases q2 : x.f1 = 2
            · exact .inr q2
            rw [if_neg q2] at h5
            cases h5
          rcases hst with e1 | e1
          · apply q2
            unfold dropX offeredX
            rw [hh, decide_eq_true hne, decide_eq_true e1]
            rfl
          · have := hno x hxm hne hp.2.2 e1
            rw [hp.1] at this
            cases this
  have hof : ∃ w, ofL out c now = some w ∧ w.f0 = h := by
    unfold ofL
    rw [G.tab, if_pos rfl]
    cases hf : out.find? (holdsX c now) with
    | none => exact absurd hhold (by simpa using List.find?_eq_none.1 hf y hym)
    | some w => exact ⟨w, rfl, only w (List.mem_of_find?_eq_some hf) (List.find?_some hf)⟩
  obtain ⟨w, hw, hw0⟩ := hof
  have hop : openB a0 a1 l2 l3 a4 z l6 out now c h = true := by
    have h1 := G.opn
    unfold openB at h1 ⊢
    rw [Bool.and_eq_true] at h1
    rw [h1.1, hy, Bool.true_and]
    have e1 : freeX c now (some y) = (!liveX now y || holdsX c now y) := rfl
    rw [e1, hhold, Bool.or_true]
  rw [pick_parts, hw]
  have e2 : (gotL (some w)).f0 = h := hw0
  rw [e2, if_pos hop]
end
/-- what is offered is what is picked; it is the client's then. -/
theorem OfferPicks : pinfoldlaw15_OfferPicks.Pure := by
  intro a0 a1 l2 l3 a4 z l6 ls now c wanted w0 w1 h2 h3 w4 hz h6 hl w8 hc w9
  have hx : ∀ x ∈ l6, x.f0.size ≤ 1048576 ∧ x.f4.size ≤ 1048576 := fun x hx => ⟨(h6.2 x hx).1, (h6.2 x hx).2.2.2.2.1⟩
  have hy : ∀ x ∈ ls, x.f4.size ≤ 1048576 := fun x hx => (hl.2 x hx).2.2.2.2.1
  replace h2 := h2.1
  replace h3 := h3.1
  replace h6 := h6.1
  replace hl := hl.1
  have hf : confFit l2 l3 z l6 := ⟨by omega, by omega, by omega, by omega, fun x h => by have := hx x h; omega⟩
  have hr : confFitR l2 l3 z l6 := ⟨by omega, by omega, by omega, by omega, fun x h => by have := hx x h; omega⟩
  have ht : tabFit ls := ⟨by omega, fun x h => by have := hy x h; omega⟩
  have htr : tabFitR ls := ⟨by omega, fun x h => by have := hy x h; omega⟩
  clear w0 w1 w4 w8 w9 h2 h3 h6 hx hy
  have eO : offer_Offer.f a0 a1 l2 l3 a4 z l6 ls now c wanted = some (offerV a0 a1 l2 l3 a4 z l6 ls now c wanted) := by
    unfold offer_Offer.f
    rw [if_pos ⟨hf, ht⟩]
  have eP : ∀ (ms : List S44) (w : Int), tabFitR ms → pickMayB a0 a1 l2 l3 a4 z l6 ms now c = true → pinfoldref11_Pick_c.f a0 a1 l2 l3 a4 z l6 ms now c w = some (pickV a0 a1 l2 l3 a4 z l6 ms now c w) := by
    intro ms w hms hM
    unfold pinfoldref11_Pick_c.f
    rw [if_pos ⟨hr, hms⟩, if_pos hM, refpickP_eq ms now c w hM]
  rcases offer_cases (a0 := a0) (a1 := a1) (l2 := l2) (l3 := l3) (a4 := a4) (z := z) (l6 := l6) (ls := ls) (now := now) (c := c) wanted with ⟨e, he, hv, hw⟩ | ⟨out, h, hv, hpk, G⟩
  · refine ⟨20, ?_⟩
    unfold pinfoldlaw15_OfferPicks.f
    obtain ⟨pp, hpp⟩ : ∃ pp, pinfoldref11_Pick_c.f a0 a1 l2 l3 a4 z l6 ls now c wanted = some pp := by
      unfold pinfoldref11_Pick_c.f
      rw [if_pos ⟨hr, htr⟩]
      exact ⟨_, rfl⟩
    rw [awake20, Option.bind_some, if_pos rfl, eO, hv, Option.bind_some, hpp, Option.bind_some]
    simp only [pinfoldlaw0_Num.f, Option.bind_some]
    rw [if_neg he]
    by_cases q : e = 1500
    · rw [if_pos q]
    · rw [if_neg q]
      rcases hw with e1 | ⟨hM, e1⟩
      · exact absurd e1 q
      · have := eP ls wanted htr hM
        rw [hpp] at this
        rw [Option.some.inj this, e1]
        simp
  · have hT := (may_parts G.may).2.2.2.1
    have h8 := (table_sorted hT).2.2
    have hto := table_fitr G.tab
    refine ⟨40, ?_⟩
    unfold pinfoldlaw15_OfferPicks.f
    rw [awake_eq 40 (by omega), Option.bind_some, if_pos rfl, eO, hv, Option.bind_some, eP ls wanted htr G.may, hpk, Option.bind_some]
    simp only [pinfoldlaw0_Num.f, Option.bind_some, if_true]
    have loop : ∀ (d k i : Nat), i + d = ls.length → d + 1 ≤ k → (∀ (j : Nat) (hj : j < ls.length), j < i → ls[j].f0 ≠ h → ls[j].f2.toList = c.toList → ls[j].f1 = 2 → liveX now ls[j] = false) → pinfoldlaw15_OfferPicks.l0 k ls now c out h h 0 (i : Int) a0 a1 l2 l3 a4 z l6 = some true := by
      intro d
      induction d with
      | zero =>
        intro k i hi hk hno
        obtain ⟨k, rfl⟩ : ∃ j, k = j + 1 := ⟨k - 1, by omega⟩
        have hno2 : ∀ x ∈ ls, x.f0 ≠ h → x.f2.toList = c.toList → x.f1 = 2 → liveX now x = false := by
          intro x hx
          obtain ⟨j, hj, rfl⟩ := List.getElem_of_mem hx
          exact hno j hj (by omega)
        obtain ⟨hM2, hp2⟩ := grant_pick G hno2
        rw [pinfoldlaw15_OfferPicks.l0, if_neg (by omega), eP out 0 hto hM2, hp2, Option.bind_some]
        simp
      | succ d ih =>
        intro k i hi hk hno
        obtain ⟨k, rfl⟩ : ∃ j, k = j + 1 := ⟨k - 1, by omega⟩
        have hlt : i < ls.length := by omega
        have hsz := htr.2 _ (List.getElem_mem hlt)
        have go : (ls[i].f0 ≠ h → ls[i].f2.toList = c.toList → ls[i].f1 = 2 → liveX now ls[i] = false) → pinfoldlaw15_OfferPicks.l0 k ls now c out h h 0 (wrap64 ((i : Int) + 1)) a0 a1 l2 l3 a4 z l6 = some true := by
          intro hi2
          rw [wrap_succ i ls.length hlt htr.1]
          refine ih k (i + 1) (by omega) (by omega) (fun j hj hji => ?_)
          by_cases e : j = i
          · subst e
            exact hi2
          · exact hno j hj (by omega)
        rw [pinfoldlaw15_OfferPicks.l0, if_pos (by omega), if_pos (by omega), rdLease_get ls i hlt]
        by_cases q0 : ls[i].f0 = h
        · rw [if_pos q0]
          exact go (fun e => absurd q0 e)
        · rw [if_neg q0]
          by_cases q2 : ls[i].f2.toList = c.toList
          · rw [if_pos q2]
            by_cases q1 : ls[i].f1 = 2
            · rw [if_pos q1]
              unfold pinfoldref11_Live_c.f
              rw [if_pos hsz, Option.bind_some]
              cases hl : liveB ls[i].f0 ls[i].f1 ls[i].f2 ls[i].f3 ls[i].f4 ls[i].f5 now with
              | true => simp
              | false =>
                rw [if_neg (by decide)]
                exact go (fun _ _ _ => hl)
            · rw [if_neg q1]
              exact go (fun _ _ e => absurd e q1)
          · rw [if_neg q2]
            exact go (fun _ e => absurd e q2)
    have := loop ls.length 40 0 (by omega) (by omega) (fun j _ hj => by omega)
    rw [show ((0 : Nat) : Int) = 0 from rfl] at this
    exact this

end Go.Proofs.YtdhckibkljafgaaGreatDoor.Pure
