/- Offers: any configuration, leases, time, client, host: what is offered is the document's. No condition. -/
import Derived.Test.YtdhckibkljafgaaGreatDoorPIx20
namespace Go.Proofs.YtdhckibkljafgaaGreatDoor.Pure
open Go.RowKit Go.Proofs.YtdhckibkljafgaaGreatDoor.PI Go.Proofs.YtdhckibkljafgaaGreatDoorW.PrintWords Go.Proofs.YtdhckibkljafgaaGreatDoorW.PrintLast
set_option linter.unusedSimpArgs false
set_option linter.unusedVariables false

theorem fit_of {l2 : List Int} {l3 : List S81} {z : ByteArray} {l6 : List S83} (h2 : l2.length * Tryz.prog.bytesOf 3 ≤ 140737488351232) (h3 : l3.length * Tryz.prog.bytesOf 81 ≤ 140737488351232) (hz : z.size ≤ 140737488351232) (h6 : l6.length * Tryz.prog.bytesOf 83 ≤ 140737488351232) (hx : ∀ x ∈ l6, x.f0.size ≤ 140737488351232 ∧ x.f4.size ≤ 140737488351232) : confFit l2 l3 z l6 := by
  rw [show Tryz.prog.bytesOf 3 = 8 by kernel_rfl] at h2
  rw [show Tryz.prog.bytesOf 81 = 24 by kernel_rfl] at h3
  rw [show Tryz.prog.bytesOf 83 = 80 by kernel_rfl] at h6
  exact ⟨by omega, by omega, hz, by omega, hx⟩
theorem awake20 : pinfoldlaw15_awake.f 20 = some true := by kernel_rfl
theorem awake_eq (k : Nat) (hk : 20 ≤ k) : pinfoldlaw15_awake.f k = some true := at_rounds (g := fun k => pinfoldlaw15_awake.f k) pinfoldlaw15_awake.mono (k := 20) hk awake20
theorem samleases_l0 (l : List S44) (hl : l.length ≤ 140737488351232) : ∀ (d k i : Nat), i + d = l.length → d + 1 ≤ k → pinfoldlaw0_SameLeases.l0 k l l (i : Int) = some true
  | 0, k, i, hi, hk => by
    obtain ⟨k, rfl⟩ : ∃ j, k = j + 1 := ⟨k - 1, by omega⟩
    rw [pinfoldlaw0_SameLeases.l0, if_neg (by omega)]
  | d + 1, k, i, hi, hk => by
    obtain ⟨k, rfl⟩ : ∃ j, k = j + 1 := ⟨k - 1, by omega⟩
    rw [pinfoldlaw0_SameLeases.l0, if_pos (by omega), if_pos (by omega), if_pos (by omega), if_neg (by simp), wrap_succ i l.length (by omega) hl]
    exact samleases_l0 l hl d k (i + 1) (by omega) (by omega)
theorem spoil_l0 (n : Nat) (hn : n ≤ 140737488351232) : ∀ (d k i : Nat) (l : List S44), l.length = n → i + d = n → d + 1 ≤ k → ∃ r, pinfoldlaw0_SpoilLeases.l0 k l (i : Int) = some r
  | 0, k, i, l, hl, hi, hk => by
    obtain ⟨k, rfl⟩ : ∃ j, k = j + 1 := ⟨k - 1, by omega⟩
    exact ⟨_, by rw [pinfoldlaw0_SpoilLeases.l0, if_neg (by omega)]⟩
  | d + 1, k, i, l, hl, hi, hk => by
    obtain ⟨k, rfl⟩ : ∃ j, k = j + 1 := ⟨k - 1, by omega⟩
    rw [pinfoldlaw0_SpoilLeases.l0, if_pos (by omega), if_pos (by omega), wrap_succ i n (by omega) hn]
    exact spoil_l0 n hn d k (i + 1) _ (by rw [List.length_set]; exact hl) (by omega) (by omega)
theorem spoil_eq (l : List S44) (hl : l.length ≤ 140737488351232) (k : Nat) (hk : l.length + 1 ≤ k) : ∃ r, pinfoldlaw0_SpoilLeases.f k l = some r := by
  unfold pinfoldlaw0_SpoilLeases.f
  exact spoil_l0 l.length hl l.length k 0 l rfl (by omega) hk
theorem copy_eq {a0 a1 : Int} {l2 : List Int} {l3 : List S81} {a4 : Int} {z : ByteArray} {l6 : List S83} (h2 : l2.length < 17592186044416) (h3 : l3.length < 5864062014805) (h6 : l6.length < 1759218604441) : pinfoldlaw0_CopyConfig.f a0 a1 l2 l3 a4 z l6 = some (a0, a1, l2, l3, a4, z, l6) := by
  unfold pinfoldlaw0_CopyConfig.f
  simp only [Option.bind_some, List.length_nil, Nat.zero_add, List.nil_append]
  rw [if_pos h2, if_pos h3, if_pos h6]
theorem sameints_l0 (l : List Int) (hl : l.length ≤ 140737488351232) : ∀ (d k i : Nat), i + d = l.length → d + 1 ≤ k → pinfoldlaw0_SameInts.l0 k l l (i : Int) = some true
  | 0, k, i, hi, hk => by
    obtain ⟨k, rfl⟩ : ∃ j, k = j + 1 := ⟨k - 1, by omega⟩
    rw [pinfoldlaw0_SameInts.l0, if_neg (by omega)]
  | d + 1, k, i, hi, hk => by
    obtain ⟨k, rfl⟩ : ∃ j, k = j + 1 := ⟨k - 1, by omega⟩
    rw [pinfoldlaw0_SameInts.l0, if_pos (by omega), if_pos (by omega), if_pos (by omega), if_pos rfl, wrap_succ i l.length (by omega) hl]
    exact sameints_l0 l hl d k (i + 1) (by omega) (by omega)
theorem samereserves_l0 (l : List S81) (hl : l.length ≤ 140737488351232) : ∀ (d k i : Nat), i + d = l.length → d + 1 ≤ k → pinfoldlaw0_SameReserves.l0 k l l (i : Int) = some true
  | 0, k, i, hi, hk => by
    obtain ⟨k, rfl⟩ : ∃ j, k = j + 1 := ⟨k - 1, by omega⟩
    rw [pinfoldlaw0_SameReserves.l0, if_neg (by omega)]
  | d + 1, k, i, hi, hk => by
    obtain ⟨k, rfl⟩ : ∃ j, k = j + 1 := ⟨k - 1, by omega⟩
    rw [pinfoldlaw0_SameReserves.l0, if_pos (by omega), if_pos (by omega), if_pos (by omega), if_neg (by simp), wrap_succ i l.length (by omega) hl]
    exact samereserves_l0 l hl d k (i + 1) (by omega) (by omega)
theorem samerrs_l0 (l : List S83) (hl : l.length ≤ 140737488351232) : ∀ (d k i : Nat), i + d = l.length → d + 1 ≤ k → pinfoldlaw0_SameRRs.l0 k l l (i : Int) = some true
  | 0, k, i, hi, hk => by
    obtain ⟨k, rfl⟩ : ∃ j, k = j + 1 := ⟨k - 1, by omega⟩
    rw [pinfoldlaw0_SameRRs.l0, if_neg (by omega)]
  | d + 1, k, i, hi, hk => by
    obtain ⟨k, rfl⟩ : ∃ j, k = j + 1 := ⟨k - 1, by omega⟩
    rw [pinfoldlaw0_SameRRs.l0, if_pos (by omega), if_pos (by omega), if_pos (by omega), if_neg (by simp), wrap_succ i l.length (by omega) hl]
    exact samerrs_l0 l hl d k (i + 1) (by omega) (by omega)
theorem sameconfig_eq {a0 a1 : Int} {l2 : List Int} {l3 : List S81} {a4 : Int} {z : ByteArray} {l6 : List S83} (h2 : l2.length ≤ 140737488351232) (h3 : l3.length ≤ 140737488351232) (h6 : l6.length ≤ 140737488351232) (k : Nat) (k2 : l2.length + 1 ≤ k) (k3 : l3.length + 1 ≤ k) (k6 : l6.length + 1 ≤ k) : pinfoldlaw0_SameConfig.f k a0 a1 l2 l3 a4 z l6 a0 a1 l2 l3 a4 z l6 = some true := by
  have e2 := sameints_l0 l2 h2 l2.length k 0 (by omega) k2
  have e3 := samereserves_l0 l3 h3 l3.length k 0 (by omega) k3
  have e6 := samerrs_l0 l6 h6 l6.length k 0 (by omega) k6
  rw [show ((0 : Nat) : Int) = 0 from rfl] at e2 e3 e6
  unfold pinfoldlaw0_SameConfig.f pinfoldlaw0_SameInts.f pinfoldlaw0_SameReserves.f pinfoldlaw0_SameRRs.f
  simp only [if_true, e2, e3, e6, Option.bind_some]
theorem hostsFrom_eq : ∀ (d : Nat) (h : Int), hostsFrom h d = (List.range d).map fun (i : Nat) => h + (i : Int)
  | 0, h => rfl
  | d + 1, h => by
    rw [List.range_succ_eq_map, List.map_cons, List.map_map]
    show h :: hostsFrom (h + 1) d = _
    rw [hostsFrom_eq d (h + 1)]
    congr 1
    · omega
    · apply List.map_congr_left
      intro i _
      show h + 1 + (i : Int) = h + ((i + 1 : Nat) : Int)
      omega
theorem go_find (ls : List S44) : ∀ (O : List Int) (best til : Int), refGo ls best til O = match O.find? (fun h => Option.isNone (findL ls h)) with
    | some h => (h, 0)
    | none => if eldGo ls best til O = 0 then (0, 1401) else (eldGo ls best til O, 0)
  | [], best, til => rfl
  | h :: r, best, til => by
    have e0 : ∀ x, findL ls h = some x → eldGo ls best til (h :: r) = if best = 0 ∨ x.f3 < til then eldGo ls h x.f3 r else eldGo ls best til r := by
      intro x e
      show (if best = 0 ∨ (gotL (findL ls h)).f3 < til then _ else _) = _
      rw [e]
      rfl
    rw [List.find?_cons]
    cases hfd : findL ls h with
    | none => simp only [refGo, hfd, Option.isNone_none]
    | some x =>
      rw [e0 x hfd]
      simp only [refGo, hfd, Option.isNone_some]
      by_cases q : best = 0 ∨ x.f3 < til
      · rw [if_pos q, if_pos q]
        exact go_find ls r h x.f3
      · rw [if_neg q, if_neg q]
        exact go_find ls r best til
theorem hosts_sorted (a b : Int) : (hostsL a b).Pairwise (· < ·) := by
  unfold hostsL
  rw [List.pairwise_map]
  refine List.Pairwise.imp (fun {x y} (h : x < y) => ?_) List.pairwise_lt_range
  omega
theorem find_of_mem {ls : List S44} (hs : ls.Pairwise (fun a b => a.f0 < b.f0)) {x : S44} (hx : x ∈ ls) : findL ls x.f0 = some x := by
  cases hfd : findL ls x.f0 with
  | none => exact absurd rfl (find_none hfd x hx)
  | some y =>
    obtain ⟨hy, he⟩ := find_some hfd
    rw [host_once hs y hy x hx he]
section
variable {a0 a1 : Int} {l2 : List Int} {l3 : List S81} {a4 : Int} {z : ByteArray} {l6 : List S83}
theorem had_eq {ls : List S44} (hs : ls.Pairwise (fun a b => a.f0 < b.f0)) (now : Int) (c : ByteArray) : ((hostsL a0 a1).filter (openB a0 a1 l2 l3 a4 z l6 ls now c)).find? (fun h => hadQ c now (findL ls h)) = (ls.find? (hadC a0 a1 l2 l3 a4 z l6 ls now c)).map (fun x => x.f0) := by
  have hmo := fun h => @mem_open a0 a1 l2 l3 a4 z l6 ls now c h
  have hso : ((hostsL a0 a1).filter (openB a0 a1 l2 l3 a4 z l6 ls now c)).Pairwise (· < ·) := (hosts_sorted a0 a1).filter _
  generalize (hostsL a0 a1).filter (openB a0 a1 l2 l3 a4 z l6 ls now c) = O at hmo hso
  have hback : ∀ h, h ∈ O → hadQ c now (findL ls h) = true → ∃ x ∈ ls, x.f0 = h ∧ hadC a0 a1 l2 l3 a4 z l6 ls now c x = true := by
    intro h ho hq
    cases hfd : findL ls h with
    | none => rw [hfd] at hq; cases hq
    | some x =>
      obtain ⟨hx, he⟩ := find_some hfd
      rw [hfd] at hq
      refine ⟨x, hx, he, ?_⟩
      have hq2 : (decide (x.f2.toList = c.toList) && !liveX now x) = true := hq
      unfold hadC
      rw [he, (hmo h).1 ho, Bool.and_true, Bool.and_comm]
      exact hq2
  have hforth : ∀ x ∈ ls, hadC a0 a1 l2 l3 a4 z l6 ls now c x = true → x.f0 ∈ O ∧ hadQ c now (findL ls x.f0) = true := by
    intro x hx hq
    unfold hadC at hq
    rw [Bool.and_eq_true] at hq
    refine ⟨(hmo x.f0).2 hq.2, ?_⟩
    rw [find_of_mem hs hx]
    show (decide (x.f2.toList = c.toList) && !liveX now x) = true
    rw [Bool.and_comm]
    exact hq.1
  cases hs2 : ls.find? (hadC a0 a1 l2 l3 a4 z l6 ls now c) with
  | none =>
    rw [Option.map_none, List.find?_eq_none]
    intro h ho hq
    obtain ⟨x, hx, _, hc⟩ := hback h ho hq
    exact (List.find?_eq_none.1 hs2 x hx) hc
  | some x =>
    obtain ⟨hcx, us, vs, hls, has⟩ := List.find?_eq_some_iff_append.1 hs2
    have hx : x ∈ ls := List.mem_of_find?_eq_some hs2
    obtain ⟨ho, hq⟩ := hforth x hx hcx
    rw [Option.map_some]
    cases ho2 : O.find? (fun h => hadQ c now (findL ls h)) with
    | none => exact absurd hq (List.find?_eq_none.1 ho2 x.f0 ho)
    | some h' =>
      obtain ⟨hq', us', vs', hO, has'⟩ := List.find?_eq_some_iff_append.1 ho2
      obtain ⟨x', hx', he', hc'⟩ := hback h' (List.mem_of_find?_eq_some ho2) hq'
      have le1 : x.f0 ≤ h' := by
        rw [hls] at hx' hs
        rcases List.mem_append.1 hx' with m | m
        · have := has x' m
          rw [hc'] at this
          cases this
        · rcases List.mem_cons.1 m with e | m
          · rw [← he', e]
            exact Int.le_refl _
          · have := (List.pairwise_cons.1 (List.pairwise_append.1 hs).2.1).1 x' m
            omega
      have le2 : h' ≤ x.f0 := by
        rw [hO] at ho hso
        rcases List.mem_append.1 ho with m | m
        · have := has' x.f0 m
          rw [hq] at this
          cases this
        · rcases List.mem_cons.1 m with e | m
          · rw [e]
            exact Int.le_refl _
          · have := (List.pairwise_cons.1 (List.pairwise_append.1 hso).2.1).1 x.f0 m
            omega
      rw [show h' = x.f0 by omega]
/-- what the document picks. -/
theorem refpickP_eq (ls : List S44) (now : Int) (c : ByteArray) (wanted : Int) (hM : pickMayB a0 a1 l2 l3 a4 z l6 ls now c = true) : refPickP a0 a1 l2 l3 a4 z l6 ls now c wanted = pickV a0 a1 l2 l3 a4 z l6 ls now c wanted := by
  obtain ⟨hb, hb2, hcf, hT, _⟩ := may_parts hM
  obtain ⟨_, hs, h8⟩ := table_sorted hT
  have h0 : openB a0 a1 l2 l3 a4 z l6 ls now c 0 = false := by
    cases e : openB a0 a1 l2 l3 a4 z l6 ls now c 0 with
    | false => rfl
    | true => have := open_in e; omega
  have hend : refEnd a0 a1 l2 l3 a4 z l6 ls now c (ls.find? (hadC a0 a1 l2 l3 a4 z l6 ls now c)) = restV a0 a1 l2 l3 a4 z l6 ls now c := by
    have hh : hostsFrom a0 (a1 + 1 - a0).toNat = hostsL a0 a1 := hostsFrom_eq _ _
    have h3 := had_eq (a0 := a0) (a1 := a1) (l2 := l2) (l3 := l3) (a4 := a4) (z := z) (l6 := l6) hs now c
    have hpos : ∀ h ∈ (hostsL a0 a1).filter (openB a0 a1 l2 l3 a4 z l6 ls now c), h > 0 := fun h hh => by have := open_in (mem_open.1 hh); omega
    have hem := eld_mem ls ((hostsL a0 a1).filter (openB a0 a1 l2 l3 a4 z l6 ls now c)) 0 0
    unfold restV firstH
    cases hfx : ls.find? (hadC a0 a1 l2 l3 a4 z l6 ls now c) with
    | some x =>
      rw [h3, hfx]
      have hxo : x.f0 ∈ (hostsL a0 a1).filter (openB a0 a1 l2 l3 a4 z l6 ls now c) := by
        rw [hfx, Option.map_some] at h3
        exact List.mem_of_find?_eq_some h3
      have := hpos _ hxo
      simp only [Option.map_some, Option.getD_some]
      rw [List.find?_cons, decide_eq_true this]
      rfl
    | none =>
      rw [h3, hfx]
      show refGo ls 0 0 ((hostsFrom a0 (a1 + 1 - a0).toNat).filter (openB a0 a1 l2 l3 a4 z l6 ls now c)) = _
      rw [hh, go_find]
      generalize (hostsL a0 a1).filter (openB a0 a1 l2 l3 a4 z l6 ls now c) = O at hpos hem
      simp only [Option.map_none, Option.getD_none]
      rw [List.find?_cons, show decide ((0 : Int) > 0) = false from rfl]
      cases hfn : O.find? (fun h => Option.isNone (findL ls h)) with
      | some h =>
        have := hpos h (List.mem_of_find?_eq_some hfn)
        simp only [Option.getD_some]
        rw [List.find?_cons, decide_eq_true this]
      | none =>
        simp only [Option.getD_none]
        rw [List.find?_cons, show decide ((0 : Int) > 0) = false from rfl, List.find?_cons]
        rcases hem with e | e
        · rw [e]
          rfl
        · have := hpos _ e
          rw [if_neg (by omega), decide_eq_true this]
  have e1 : ((ofL ls c now).isSome && openB a0 a1 l2 l3 a4 z l6 ls now c (gotL (ofL ls c now)).f0) = openB a0 a1 l2 l3 a4 z l6 ls now c (gotL (ofL ls c now)).f0 := by
    cases ofL ls c now with
    | none => rw [show (gotL none).f0 = 0 from rfl, h0]; rfl
    | some y => rfl
  have e2 : (foundIs (reservR a0 a1 l2 l3 a4 z l6 c) && openB a0 a1 l2 l3 a4 z l6 ls now c (foundH (reservR a0 a1 l2 l3 a4 z l6 c))) = openB a0 a1 l2 l3 a4 z l6 ls now c (foundH (reservR a0 a1 l2 l3 a4 z l6 c)) := by
    cases reservR a0 a1 l2 l3 a4 z l6 c with
    | none => rw [show foundH none = 0 from rfl, h0]; rfl
    | some y => rfl
  unfold refPickP
  rw [pick_parts, hend, e1, e2]
end
section
variable {a0 a1 : Int} {l2 : List Int} {l3 : List S81} {a4 : Int} {z : ByteArray} {l6 : List S83}
theorem reflets_l0 (ls : List S44) (ht : tabFitR ls) (h8 : ls.length ≤ 1000000) (c : ByteArray) (now but : Int) : ∀ (d k i : Nat) (acc : List S44), i + d = ls.length → d + 1 ≤ k → acc.length ≤ i → pinfoldref11_lets.l0 k ls c now but false acc (i : Int) = some (acc ++ dropL offeredX c now but (ls.drop i))
  | 0, k, i, acc, hi, hk, ha => by
    obtain ⟨k, rfl⟩ : ∃ j, k = j + 1 := ⟨k - 1, by omega⟩
    rw [List.drop_eq_nil_of_le (by omega), pinfoldref11_lets.l0, if_neg (by omega)]
    show some acc = some (acc ++ [])
    rw [List.append_nil]
  | d + 1, k, i, acc, hi, hk, ha => by
    obtain ⟨k, rfl⟩ : ∃ j, k = j + 1 := ⟨k - 1, by omega⟩
    have hlt : i < ls.length := by omega
    have hl := ht.1
    have hsz := ht.2 ls[i] (List.getElem_mem hlt)
    have ih := fun (y : S44) => reflets_l0 ls ht h8 c now but d k (i + 1) (acc ++ [y]) (by omega) (by omega) (by rw [List.length_append, List.length_singleton]; omega)
    have hst : ∀ y, (if dropX offeredX c now but ls[i] = true then freedX ls[i] else ls[i]) = y → acc ++ dropL offeredX c now but (ls.drop i) = (acc ++ [y]) ++ dropL offeredX c now but (ls.drop (i + 1)) := by
      intro y hy
      rw [List.drop_eq_getElem_cons hlt, List.append_assoc, ← hy]
      rfl
    have hac : acc.length < 2199023255552 := by omega
    rw [pinfoldref11_lets.l0, if_pos (by omega), if_pos (by omega), wrap_succ i ls.length hlt hl, rdLease_get ls i hlt]
    unfold pinfoldref11_his_c.f pinfoldref11_let.f
    rw [if_pos hsz, Option.bind_some, if_pos hac, ih]
    have hdx : dropX offeredX c now but ls[i] = (decide (ls[i].f0 ≠ but) && (holdsB ls[i].f0 ls[i].f1 ls[i].f2 ls[i].f3 ls[i].f4 ls[i].f5 c now && decide (ls[i].f1 = 1))) := rfl
    by_cases q0 : ls[i].f0 = but
    · rw [if_pos q0]
      exact congrArg some (hst ls[i] (by rw [hdx, decide_eq_false (fun e => e q0), Bool.false_and]; rfl)).symm
    · rw [if_neg q0]
      rw [decide_eq_true q0, Bool.true_and] at hdx
      cases hh : holdsB ls[i].f0 ls[i].f1 ls[i].f2 ls[i].f3 ls[i].f4 ls[i].f5 c now with
      | false =>
        rw [hh, Bool.false_and] at hdx
        rw [if_neg (by decide)]
        exact congrArg some (hst ls[i] (by rw [hdx]; rfl)).symm
      | true =>
        rw [hh, Bool.true_and] at hdx
        rw [if_pos rfl, if_neg (by decide)]
        by_cases q1 : ls[i].f1 = 1
        · rw [if_pos q1, Option.bind_some, if_pos hac, ih]
          exact congrArg some (hst (freedX ls[i]) (by rw [hdx, decide_eq_true q1]; rfl)).symm
        · rw [if_neg q1]
          exact congrArg some (hst ls[i] (by rw [hdx, decide_eq_false q1]; rfl)).symm
/-- what the document offers. -/
theorem refoffer_eq (hf : confFitR l2 l3 z l6) (ls : List S44) (ht : tabFitR ls) (now : Int) (c : ByteArray) (wanted : Int) (k : Nat) (hk : ls.length + 5 ≤ k) : pinfoldref11_Offer.f k a0 a1 l2 l3 a4 z l6 ls now c wanted = some (offerV a0 a1 l2 l3 a4 z l6 ls now c wanted) := by
  obtain ⟨k, rfl⟩ : ∃ j, k = j + 2 := ⟨k - 2, by omega⟩
  unfold pinfoldref11_Offer.f pinfoldref11_Pick_c.f offerV
  rw [if_pos ⟨hf, ht⟩, Option.bind_some]
  cases hM : pickMayB a0 a1 l2 l3 a4 z l6 ls now c with
  | false =>
    simp only [Bool.false_eq_true, if_false, Bool.false_and, if_true]
    rw [pinfoldref11_Offer.j0, if_pos rfl]
  | true =>
    obtain ⟨hb, hb2, hcf, hT, hn, hcl⟩ := may_parts hM
    have h8 := (table_sorted hT).2.2
    obtain ⟨p, e, hpe⟩ : ∃ p e, pickV a0 a1 l2 l3 a4 z l6 ls now c wanted = (p, e) := ⟨_, _, rfl⟩
    have htold := pick_told ls now c wanted p e hM hpe
    rw [if_pos rfl, refpickP_eq ls now c wanted hM, hpe, Bool.true_and]
    dsimp only
    rw [if_neg (show ¬ e = 1400 by rcases htold with ⟨h, _⟩ | ⟨h, _⟩ <;> omega), pinfoldref11_Offer.j0]
    by_cases q : now ≤ 1099510579200
    · rw [decide_eq_false (show ¬ now > 1099510579200 by omega), if_neg (by decide), decide_eq_true (show 0 ≤ now ∧ now ≤ 1099510579200 from ⟨hn.1, q⟩), if_pos rfl]
      rcases htold with ⟨rfl, hop, _⟩ | ⟨rfl, rfl, _⟩
      · rw [if_pos rfl, if_pos rfl]
        unfold pinfoldref11_lets.f pinfoldref11_FindLease_c.f
        have hlt := reflets_l0 ls ht (by omega) c now p ls.length (k + 1) 0 [] (by omega) (by omega) (by simp)
        rw [List.drop_zero, List.nil_append, show ((0 : Nat) : Int) = 0 from rfl] at hlt
        rw [hlt, Option.bind_some, if_pos ht.1, Option.bind_some]
        have hw : wrap64 (now + 8) = now + 8 := by unfold wrap64; omega
        have hDl : (dropL offeredX c now p ls).length = ls.length := by unfold dropL; rw [List.length_map]
        have hj : ∀ b, pinfoldref11_Offer.j1 (k + 1) now c p (dropL offeredX c now p ls) b = some (if b = true then (if (putL (dropL offeredX c now p ls) ⟨p, 1, c, now + 8, ⟨#[]⟩, false⟩).length ≤ 8 then (putL (dropL offeredX c now p ls) ⟨p, 1, c, now + 8, ⟨#[]⟩, false⟩, p, 0) else ([], 0, 1500)) else (dropL offeredX c now p ls, p, 0)) := by
          intro b
          rw [pinfoldref11_Offer.j1, hw]
          cases b with
          | true =>
            rw [if_pos rfl, if_pos rfl]
            unfold pinfoldref11_put_c.f
            rw [if_pos (by omega), Option.bind_some]
            by_cases q2 : (putL (dropL offeredX c now p ls) ⟨p, 1, c, now + 8, ⟨#[]⟩, false⟩).length ≤ 8
            · rw [if_pos q2, if_neg (by omega)]
            · rw [if_neg q2, if_pos (by omega)]
          | false =>
            rw [if_neg (by decide), if_neg (by omega)]
            rfl
        unfold offerGo
        simp only [hj]
        cases hfd : findL ls p with
        | none =>
          rw [show boundX c now (gotL none) = false from rfl]
          rfl
        | some x =>
          have hsz := ht.2 x (find_some hfd).1
          simp only [Option.isSome_some, if_true, gotL, Option.getD_some]
          unfold pinfoldref11_his_c.f
          rw [if_pos hsz, Option.bind_some]
          have e1 : boundX c now (gotL (some x)) = (holdsB x.f0 x.f1 x.f2 x.f3 x.f4 x.f5 c now && decide (x.f1 = 2)) := rfl
          simp only [gotL, Option.getD_some] at e1
          simp only [e1]
          cases holdsB x.f0 x.f1 x.f2 x.f3 x.f4 x.f5 c now with
          | false => simp
          | true =>
            by_cases q3 : x.f1 = 2
            · simp [q3]
            · simp [q3]
      · rw [if_neg (by decide), if_neg (by decide)]
    · rw [decide_eq_true (show now > 1099510579200 by omega), if_pos rfl, decide_eq_false (fun h => q h.2), if_neg (by decide)]
end
/-- any configuration, leases, time, client, host: what is offered is the document's. -/
theorem Offers : pinfoldlaw15_Offers.Pure := by
  intro a0 a1 l2 l3 a4 z l6 ls now c host w0 w1 h2 h3 w4 hz h6 hl w8 hc w9
  have hx : ∀ x ∈ l6, x.f0.size ≤ 1048576 ∧ x.f4.size ≤ 1048576 := fun x hx => ⟨(h6.2 x hx).1, (h6.2 x hx).2.2.2.2.1⟩
  have hy : ∀ x ∈ ls, x.f4.size ≤ 1048576 := fun x hx => (hl.2 x hx).2.2.2.2.1
  replace h2 := h2.1
  replace h3 := h3.1
  replace h6 := h6.1
  replace hl := hl.1
  have hf : confFit l2 l3 z l6 := ⟨by omega, by omega, by omega, by omega, fun x h => by have := hx x h; omega⟩
  have hr : confFitR l2 l3 z l6 := ⟨by omega, by omega, by omega, by omega, fun x h => by have := hx x h; omega⟩
  have ht : tabFit ls := ⟨by omega, fun x h => by have := hy x h; omega⟩
  have htr : tabFitR ls := ⟨by omega, fun x h => by have := hy x h; omega⟩
  have hp : pickFit l2 l3 z l6 ls := ⟨hf, ht⟩
  clear w0 w1 w4 w8 w9
  have hlen : (offerV a0 a1 l2 l3 a4 z l6 ls now c host).1.length ≤ 2 * ls.length + 1 := by
    have hd : ∀ p h, (dropL p c now h ls).length = ls.length := fun p h => by unfold dropL; rw [List.length_map]
    unfold offerV
    split
    · split
      · unfold offerGo
        split
        · show (dropL _ _ _ _ _).length ≤ _
          rw [hd]
          omega
        · split
          · refine Nat.le_trans (Nat.le_trans (putgo_mem _ _ false).1 (by rw [hd]; exact Nat.le_refl _)) ?_
            simp only [Bool.false_eq_true, if_false]
            omega
          · exact Nat.zero_le _
      · exact Nat.zero_le _
    · exact Nat.zero_le _
  refine ⟨(l2.length + l3.length + l6.length + 2 * ls.length + 30) + 1, ?_⟩
  generalize hK : l2.length + l3.length + l6.length + 2 * ls.length + 30 = K
  have ea : ∀ k, 20 ≤ k → pinfoldlaw15_awake.f k = some true := awake_eq
  have e3 := sameconfig_eq (a0 := a0) (a1 := a1) (a4 := a4) (z := z) (l2 := l2) (l3 := l3) (l6 := l6) (by omega) (by omega) (by omega) K (by omega) (by omega) (by omega)
  have sl : ∀ (l : List S44) (k : Nat), l.length ≤ 4194304 → l.length + 1 ≤ k → pinfoldlaw0_SameLeases.f k l l = some true := fun l k h1 h2 => by
    have := samleases_l0 l (by omega) l.length k 0 (by omega) h2
    rw [show ((0 : Nat) : Int) = 0 from rfl] at this
    unfold pinfoldlaw0_SameLeases.f
    rw [if_pos rfl]
    exact this
  obtain ⟨s1, hs1⟩ := spoil_eq _ (show (offerV a0 a1 l2 l3 a4 z l6 ls now c host).1.length ≤ 140737488351232 by omega) K (by omega)
  have e4 : pinfoldlaw0_KeptLeases.f K ls ls = some true := by
    unfold pinfoldlaw0_KeptLeases.f
    rw [if_pos (by omega)]
    exact sl ls K (by omega) (by omega)
  unfold pinfoldlaw15_Offers.f
  rw [copy_eq (by omega) (by omega) (by omega), Option.bind_some]
  unfold pinfoldlaw0_LendLeases.f
  rw [if_pos (by omega), Option.bind_some]
  dsimp only
  unfold offer_Offer.f
  rw [if_pos hp, refoffer_eq hr ls htr now c host (K + 1) (by omega)]
  simp only [Option.bind_some]
  rw [sl _ (K + 1) (by omega) (by omega)]
  simp only [Option.bind_some, if_true, pinfoldlaw0_Num.f, bne_self_eq_false]
  rw [pinfoldlaw15_Offers.j0, if_neg (by decide), hs1, Option.bind_some, e3, Option.bind_some, if_pos rfl, e4, Option.bind_some, if_pos rfl, ea K (by omega)]
  rfl

end Go.Proofs.YtdhckibkljafgaaGreatDoor.Pure
