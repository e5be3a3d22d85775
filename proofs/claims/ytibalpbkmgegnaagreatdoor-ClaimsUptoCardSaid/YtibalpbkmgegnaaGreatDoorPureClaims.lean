/- Claims: any configuration, leases, time, client, request: what is told is the document's. No condition. -/
import Derived.Test.YtibalpbkmgegnaaGreatDoorPLx20
namespace Go.Proofs.YtibalpbkmgegnaaGreatDoor.Pure
open Go.RowKit Go.Proofs.YtibalpbkmgegnaaGreatDoor.PL Go.Proofs.YtibalpbkmgegnaaGreatDoorW.PrintWords Go.Proofs.YtibalpbkmgegnaaGreatDoorW.PrintLast
set_option linter.unusedSimpArgs false
set_option linter.unusedVariables false

theorem fit_of {l2 : List Int} {l3 : List S95} {z : ByteArray} {l6 : List S93} (h2 : l2.length * Tryz.prog.bytesOf 3 ≤ 140737488351232) (h3 : l3.length * Tryz.prog.bytesOf 95 ≤ 140737488351232) (hz : z.size ≤ 140737488351232) (h6 : l6.length * Tryz.prog.bytesOf 93 ≤ 140737488351232) (hx : ∀ x ∈ l6, x.f0.size ≤ 140737488351232 ∧ x.f4.size ≤ 140737488351232) : confFit l2 l3 z l6 := by
  rw [show Tryz.prog.bytesOf 3 = 8 by kernel_rfl] at h2
  rw [show Tryz.prog.bytesOf 95 = 24 by kernel_rfl] at h3
  rw [show Tryz.prog.bytesOf 93 = 80 by kernel_rfl] at h6
  exact ⟨by omega, by omega, hz, by omega, hx⟩
theorem awake20 : pinfoldlaw17_awake.f = some true := rfl
theorem awake_eq (k : Nat) (_ : 20 ≤ k) : pinfoldlaw17_awake.f = some true := rfl
theorem samleases_l0 (l : List S44) (hl : l.length ≤ 140737488351232) : ∀ (d k i : Nat), i + d = l.length → d + 1 ≤ k → pinfoldlaw0_SameLeases.l0 k l l (i : Int) = some true
  | 0, k, i, hi, hk => by
    obtain ⟨k, rfl⟩ : ∃ j, k = j + 1 := ⟨k - 1, by omega⟩
    rw [pinfoldlaw0_SameLeases.l0, if_neg (by omega)]
  | d + 1, k, i, hi, hk => by
    obtain ⟨k, rfl⟩ : ∃ j, k = j + 1 := ⟨k - 1, by omega⟩
    rw [pinfoldlaw0_SameLeases.l0, if_pos (by omega), if_pos (by omega), if_pos (by omega), if_neg (by simp), wrap_succ i l.length (by omega) hl]
    exact samleases_l0 l hl d k (i + 1) (by omega) (by omega)
theorem spoil_l0 (n : Nat) (hn : n ≤ 140737488351232) : ∀ (d k i : Nat) (l : List S44), l.length = n → i + d = n → d + 1 ≤ k → ∃ r, pinfoldlaw0_SpoilLeases.l0 k l (i : Int) = some r
  | 0, k, i, l, hl, hi, hk => by
    obtain ⟨k, rfl⟩ : ∃ j, k = j + 1 := ⟨k - 1, by omega⟩
    exact ⟨_, by rw [pinfoldlaw0_SpoilLeases.l0, if_neg (by omega)]⟩
  | d + 1, k, i, l, hl, hi, hk => by
    obtain ⟨k, rfl⟩ : ∃ j, k = j + 1 := ⟨k - 1, by omega⟩
    rw [pinfoldlaw0_SpoilLeases.l0, if_pos (by omega), if_pos (by omega), wrap_succ i n (by omega) hn]
    exact spoil_l0 n hn d k (i + 1) _ (by rw [List.length_set]; exact hl) (by omega) (by omega)
theorem spoil_eq (l : List S44) (hl : l.length ≤ 140737488351232) (k : Nat) (hk : l.length + 1 ≤ k) : ∃ r, pinfoldlaw0_SpoilLeases.f k l = some r := by
  unfold pinfoldlaw0_SpoilLeases.f
  exact spoil_l0 l.length hl l.length k 0 l rfl (by omega) hk
theorem copy_eq {a0 a1 : Int} {l2 : List Int} {l3 : List S95} {a4 : Int} {z : ByteArray} {l6 : List S93} (h2 : l2.length < 17592186044416) (h3 : l3.length < 5864062014805) (h6 : l6.length < 1759218604441) : pinfoldlaw0_CopyConfig.f a0 a1 l2 l3 a4 z l6 = some (a0, a1, l2, l3, a4, z, l6) := by
  unfold pinfoldlaw0_CopyConfig.f
  simp only [Option.bind_some, List.length_nil, Nat.zero_add, List.nil_append]
  rw [if_pos h2, if_pos h3, if_pos h6]
theorem sameints_l0 (l : List Int) (hl : l.length ≤ 140737488351232) : ∀ (d k i : Nat), i + d = l.length → d + 1 ≤ k → pinfoldlaw0_SameInts.l0 k l l (i : Int) = some true
  | 0, k, i, hi, hk => by
    obtain ⟨k, rfl⟩ : ∃ j, k = j + 1 := ⟨k - 1, by omega⟩
    rw [pinfoldlaw0_SameInts.l0, if_neg (by omega)]
  | d + 1, k, i, hi, hk => by
    obtain ⟨k, rfl⟩ : ∃ j, k = j + 1 := ⟨k - 1, by omega⟩
    rw [pinfoldlaw0_SameInts.l0, if_pos (by omega), if_pos (by omega), if_pos (by omega), if_pos rfl, wrap_succ i l.length (by omega) hl]
    exact sameints_l0 l hl d k (i + 1) (by omega) (by omega)
theorem samereserves_l0 (l : List S95) (hl : l.length ≤ 140737488351232) : ∀ (d k i : Nat), i + d = l.length → d + 1 ≤ k → pinfoldlaw0_SameReserves.l0 k l l (i : Int) = some true
  | 0, k, i, hi, hk => by
    obtain ⟨k, rfl⟩ : ∃ j, k = j + 1 := ⟨k - 1, by omega⟩
    rw [pinfoldlaw0_SameReserves.l0, if_neg (by omega)]
  | d + 1, k, i, hi, hk => by
    obtain ⟨k, rfl⟩ : ∃ j, k = j + 1 := ⟨k - 1, by omega⟩
    rw [pinfoldlaw0_SameReserves.l0, if_pos (by omega), if_pos (by omega), if_pos (by omega), if_neg (by simp), wrap_succ i l.length (by omega) hl]
    exact samereserves_l0 l hl d k (i + 1) (by omega) (by omega)
theorem samerrs_l0 (l : List S93) (hl : l.length ≤ 140737488351232) : ∀ (d k i : Nat), i + d = l.length → d + 1 ≤ k → pinfoldlaw0_SameRRs.l0 k l l (i : Int) = some true
  | 0, k, i, hi, hk => by
    obtain ⟨k, rfl⟩ : ∃ j, k = j + 1 := ⟨k - 1, by omega⟩
    rw [pinfoldlaw0_SameRRs.l0, if_neg (by omega)]
  | d + 1, k, i, hi, hk => by
    obtain ⟨k, rfl⟩ : ∃ j, k = j + 1 := ⟨k - 1, by omega⟩
    rw [pinfoldlaw0_SameRRs.l0, if_pos (by omega), if_pos (by omega), if_pos (by omega), if_neg (by simp), wrap_succ i l.length (by omega) hl]
    exact samerrs_l0 l hl d k (i + 1) (by omega) (by omega)
theorem sameconfig_eq {a0 a1 : Int} {l2 : List Int} {l3 : List S95} {a4 : Int} {z : ByteArray} {l6 : List S93} (h2 : l2.length ≤ 140737488351232) (h3 : l3.length ≤ 140737488351232) (h6 : l6.length ≤ 140737488351232) (k : Nat) (k2 : l2.length + 1 ≤ k) (k3 : l3.length + 1 ≤ k) (k6 : l6.length + 1 ≤ k) : pinfoldlaw0_SameConfig.f k a0 a1 l2 l3 a4 z l6 a0 a1 l2 l3 a4 z l6 = some true := by
  have e2 := sameints_l0 l2 h2 l2.length k 0 (by omega) k2
  have e3 := samereserves_l0 l3 h3 l3.length k 0 (by omega) k3
  have e6 := samerrs_l0 l6 h6 l6.length k 0 (by omega) k6
  rw [show ((0 : Nat) : Int) = 0 from rfl] at e2 e3 e6
  unfold pinfoldlaw0_SameConfig.f
  rw [if_pos ⟨rfl, rfl, rfl, rfl⟩]
  unfold pinfoldlaw0_SameInts.f pinfoldlaw0_SameReserves.f pinfoldlaw0_SameRRs.f
  simp only [if_true, e2, e3, e6, Option.bind_some]
theorem held_other {c : ByteArray} {now : Int} {y : S44} (h : y.f2.toList = c.toList) : heldBy c now y = false := by
  unfold heldBy
  rw [decide_eq_false (fun e => e h), Bool.false_and, Bool.and_false]
/-- behind a claim that is granted the same names are free. -/
theorem claim_free {fr : ByteArray → Bool} {a0 a1 : Int} {l2 : List Int} {l3 : List S95} {a4 : Int} {z : ByteArray} {l6 : List S93} {ls : List S44} {now : Int} {c : ByteArray} {q0 : Bool} {q1 q2 q3 : Int} {q4 : ByteArray} {a : List S44} {h : Int}
    (hv : claimV fr a0 a1 l2 l3 a4 z l6 ls now c q0 q1 q2 q3 q4 = (a, 1, h, 0)) (nm : ByteArray) : freeB a0 a1 l2 l3 a4 z l6 a now c nm = freeB a0 a1 l2 l3 a4 z l6 ls now c nm := by
  rcases claim_told hv with ⟨e, _⟩ | ⟨_, hm, hn, hr, ⟨_, x, e1, hx, hk, ea, hb, ht⟩ | ⟨e, _⟩⟩
  · exact absurd e (by decide)
  · have hT := (may_parts hm).2.2.2.1
    generalize hB : boundL fr h (now + a4) c (keptN q4 x c) = b at ea hb
    have hbh : b.f0 = h := by rw [← hB]; rfl
    have hbc : b.f2.toList = c.toList := by rw [← hB]; rfl
    rw [← hbh] at hx ea hk
    have hTA := claim_table (p := fun _ => true) (c := c) (now := now) hT hx hb
    have hre := claim_rest (p := fun _ => true) (q := heldBy c now) (now := now) hT hx (kind_own hk).1 hbc (fun y hy => held_other hy)
    rw [← ea] at hTA hre
    unfold freeB mayFree takenL
    rw [hTA, hT, hre]
  · exact absurd rfl e
theorem mem_find {ls : List S44} (hs : ls.Pairwise (fun a b => a.f0 < b.f0)) {x : S44} (hx : x ∈ ls) : findL ls x.f0 = some x := by
  cases hfd : findL ls x.f0 with
  | none => exact absurd rfl (find_none hfd x hx)
  | some y =>
    obtain ⟨h1, h2⟩ := find_some hfd
    rw [host_once hs y h1 x hx h2]
theorem one_count {p : S44 → Bool} {b : S44} (hp : p b = true) : ∀ (l : List S44), l.Pairwise (fun a b => a.f0 < b.f0) → (∀ y ∈ l, p y = true → y = b) → b ∈ l → (l.filter p).length = 1
  | [], _, _, hb => by cases hb
  | y :: r, hs, hy, hb => by
    obtain ⟨h1, h2⟩ := List.pairwise_cons.1 hs
    by_cases q : p y = true
    · have e := hy y List.mem_cons_self q
      subst e
      have hr : r.filter p = [] := by
        rw [List.filter_eq_nil_iff]
        intro v hv hpv
        have e2 := hy v (List.mem_cons_of_mem _ hv) hpv
        have := h1 v hv
        rw [e2] at this
        omega
      rw [List.filter_cons, if_pos q, hr]
      rfl
    · rcases List.mem_cons.1 hb with e | e
      · exact absurd (e ▸ hp) q
      · rw [List.filter_cons, if_neg q]
        exact one_count hp r h2 (fun v hv => hy v (List.mem_cons_of_mem _ hv)) e
/-- a lease that holds and won its name is bound. -/
theorem won_bound {y : S44} (h : leaseOk y = true) (hw : y.f5 = true) : y.f1 = 2 := by
  have h1 : leaseB y.f0 y.f1 y.f2 y.f3 y.f4 y.f5 = true := h
  unfold leaseB at h1
  simp only [Bool.and_eq_true] at h1
  have h2 := h1.1.1.1.2
  unfold stateB at h2
  rw [hw] at h2
  by_cases q0 : y.f1 = 0 ∨ y.f1 = 3
  · rw [if_pos q0] at h2
    simp at h2
  · rw [if_neg q0] at h2
    by_cases q1 : y.f1 = 1
    · rw [if_pos q1] at h2
      simp at h2
    · rw [if_neg q1] at h2
      by_cases q2 : y.f1 = 2
      · exact q2
      · rw [if_neg q2] at h2
        cases h2
theorem held_own {c : ByteArray} {now : Int} {y : S44} (hl : liveX now y = true) (h2 : y.f1 = 2) (hw : y.f5 = true) (hc : y.f2.toList ≠ c.toList) : heldBy c now y = true := by
  unfold heldBy boundB holdsB
  have e : liveB y.f0 y.f1 y.f2 y.f3 y.f4 y.f5 now = true := hl
  rw [e, hw, decide_eq_true hc, decide_eq_true h2, decide_eq_true (show y.f1 ≠ 3 by omega), decide_eq_true rfl]
  rfl
theorem holds_own {c : ByteArray} {now : Int} {y : S44} (hl : liveX now y = true) (h2 : y.f1 ≠ 3) (hc : y.f2.toList = c.toList) : holdsX c now y = true := by
  unfold holdsX holdsB
  have e : liveB y.f0 y.f1 y.f2 y.f3 y.f4 y.f5 now = true := hl
  rw [e, decide_eq_true hc, decide_eq_true h2]
  rfl
/-- behind a claim no host is another one's that was not; who claimed has just one lease; of others' names none is won twice. -/
theorem claim_one {a0 a1 : Int} {l2 : List Int} {l3 : List S95} {a4 : Int} {z : ByteArray} {l6 : List S93} {ls : List S44} {now : Int} {c : ByteArray} {q0 : Bool} {q1 q2 q3 : Int} {q4 : ByteArray} {a : List S44} {h : Int}
    (hv : claimV (freeB a0 a1 l2 l3 a4 z l6 ls now c) a0 a1 l2 l3 a4 z l6 ls now c q0 q1 q2 q3 q4 = (a, 1, h, 0)) :
    (∀ y ∈ ls, ∃ v, findL a y.f0 = some v ∧ (liveX now y = true → y.f2.toList ≠ c.toList → v = y)) ∧
    ∃ b : S44, findL a h = some b ∧ b.f1 = 2 ∧ b.f2 = c ∧ b.f3 = now + a4 ∧ usableB a0 a1 l2 l3 a4 z l6 h = true ∧ (a.filter (holdsX c now)).length = 1 ∧
      (b.f5 = true → ∀ y ∈ a, y.f0 ≠ h → y.f5 = true → liveX now y = true → (fullB a0 a1 l2 l3 a4 z l6 y.f4).toList ≠ (fullB a0 a1 l2 l3 a4 z l6 b.f4).toList) ∧ tableB a = true ∧ a.length ≤ ls.length := by
  rcases claim_told hv with ⟨e, _⟩ | ⟨_, hm, hn, hr, ⟨_, x, e1, hx, hk, ea, hb, ht⟩ | ⟨e, _⟩⟩
  · exact absurd e (by decide)
  · have hT := (may_parts hm).2.2.2.1
    obtain ⟨hok, hs, _⟩ := table_sorted hT
    obtain ⟨hko, hkl⟩ := kind_own hk
    generalize hB : boundL (freeB a0 a1 l2 l3 a4 z l6 ls now c) h (now + a4) c (keptN q4 x c) = b at ea hb
    have hbh : b.f0 = h := by rw [← hB]; rfl
    obtain ⟨hl1, hl2, hl3⟩ : liveX now b = true ∧ holdsX c now b = true ∧ boundX c now b = true := by
      rw [← hB] at hb ⊢
      exact bound_holds_ hb ht
    have hu : usableB a0 a1 l2 l3 a4 z l6 h = true := by
      unfold lentB at hkl
      rw [Bool.and_eq_true] at hkl
      exact hkl.1
    rw [← hbh] at hx ea hu ⊢
    have hTA := claim_table (p := fun _ => true) (c := c) (now := now) hT hx hb
    have hfi := fun host => claim_find (p := fun _ => true) (c := c) (now := now) hT hb host
    have hma := claim_map (p := fun _ => true) (c := c) (now := now) hT hx
    have hon := fun y => claim_only (y := y) (c := c) (now := now) hT hx
    have hlen := (claim_row (p := fun _ => true) (c := c) (now := now) hT hx).2
    rw [← ea] at hTA hfi hma hon hlen
    obtain ⟨hxm, hxh⟩ := find_some hx
    have hfb : findL a b.f0 = some b := by rw [hfi, if_pos rfl]
    refine ⟨fun y hy => ?_, b, hfb, by rw [← hB]; rfl, by rw [← hB]; rfl, by rw [← hB]; rfl, hu, one_count hl2 a (table_sorted hTA).2.1 (fun y hy hp => hon y hy hp) (find_some hfb).1, fun hw y hy hyh hyw hyl => ?_, hTA, by omega⟩
    · rw [hfi]
      by_cases q : y.f0 = b.f0
      · rw [if_pos q]
        refine ⟨b, rfl, fun _ hc => absurd ?_ hc⟩
        rw [host_once hs y hy x hxm (by rw [q, hxh])]
        exact hko
      · rw [if_neg q, mem_find hs hy, Option.map_some]
        refine ⟨_, rfl, fun _ hc => ?_⟩
        rw [if_neg]
        intro hd
        unfold dropX at hd
        simp only [Bool.and_eq_true] at hd
        exact hc (holds_client hd.2.1)
    · rw [hma] at hy
      obtain ⟨v, hvm, ev⟩ := List.mem_map.1 hy
      unfold claimF at ev
      by_cases q : v.f0 = b.f0
      · rw [if_pos q] at ev
        exact absurd (by rw [← ev]) hyh
      · rw [if_neg q] at ev
        by_cases qd : dropX (fun _ => true) c now b.f0 v = true
        · rw [if_pos qd] at ev
          rw [← ev] at hyw
          cases hyw
        · rw [if_neg qd] at ev
          subst ev
          have h2 := won_bound (hok v hvm) hyw
          have hc : v.f2.toList ≠ c.toList := by
            intro hc
            apply qd
            unfold dropX
            rw [decide_eq_true q, holds_own hyl (by omega) hc]
            rfl
          have hin : (fullB a0 a1 l2 l3 a4 z l6 v.f4).data.toList ∈ takenL (fullB a0 a1 l2 l3 a4 z l6) c now ls := List.mem_map.2 ⟨v, List.mem_filter.2 ⟨hvm, held_own hyl h2 hyw hc⟩, rfl⟩
          have hbw : b.f5 = (freeB a0 a1 l2 l3 a4 z l6 ls now c b.f4 && decide (b.f4.toList ≠ [])) := by rw [← hB]; rfl
          rw [hw] at hbw
          have hfr := (Bool.and_eq_true _ _ |>.mp hbw.symm).1
          unfold freeB at hfr
          rw [Bool.and_eq_true, decide_eq_true_eq] at hfr
          intro e
          apply hfr.2
          rw [ByteArray.toList_eq, ByteArray.toList_eq] at e
          rw [← e]
          exact List.mem_append_right _ hin
  · exact absurd rfl e
/-- behind a claim that is not granted nobody has another lease. -/
theorem claim_none {fr : ByteArray → Bool} {a0 a1 : Int} {l2 : List Int} {l3 : List S95} {a4 : Int} {z : ByteArray} {l6 : List S93} {ls : List S44} {now : Int} {c : ByteArray} {q0 : Bool} {q1 q2 q3 : Int} {q4 : ByteArray} {a : List S44} {k h : Int}
    (hv : claimV fr a0 a1 l2 l3 a4 z l6 ls now c q0 q1 q2 q3 q4 = (a, k, h, 0)) (hk : k ≠ 1) :
    h = 0 ∧ a.length = ls.length ∧ ∀ y ∈ ls, ∃ v, findL a y.f0 = some v ∧ (liveX now y = true → y.f2.toList ≠ c.toList → v = y) := by
  rcases claim_told hv with ⟨e, _⟩ | ⟨_, hm, hn, hr, ⟨e, _⟩ | ⟨_, eh, ha⟩⟩
  · exact absurd e (by decide)
  · exact absurd e hk
  · have hT := (may_parts hm).2.2.2.1
    obtain ⟨hok, hs, _⟩ := table_sorted hT
    rcases ha with rfl | ⟨_, _, rfl⟩
    · exact ⟨eh, rfl, fun y hy => ⟨y, mem_find hs hy, fun _ _ => rfl⟩⟩
    · refine ⟨eh, by unfold dropL; rw [List.length_map], fun y hy => ?_⟩
      rw [find_drop, mem_find hs hy, Option.map_some]
      refine ⟨_, rfl, fun _ hc => ?_⟩
      rw [if_neg]
      intro hd
      unfold dropX at hd
      simp only [Bool.and_eq_true] at hd
      exact hc (holds_client hd.2.1)
/-- any configuration, leases, time, client, request: what is told is the document's. -/
theorem Claims : pinfoldlaw17_Claims.Pure := by
  intro a0 a1 l2 l3 a4 z l6 ls now c q0 q1 q2 q3 q4 w0 w1 h2 h3 w4 hz h6 hl w8 hc v1 v2 v3 hq
  have hx : ∀ x ∈ l6, x.f0.size ≤ 1048576 ∧ x.f4.size ≤ 1048576 := fun x hx => ⟨(h6.2 x hx).1, (h6.2 x hx).2.2.2.2.1⟩
  have hy : ∀ x ∈ ls, x.f4.size ≤ 1048576 := fun x hx => (hl.2 x hx).2.2.2.2.1
  replace h2 := h2.1
  replace h3 := h3.1
  replace h6 := h6.1
  replace hl := hl.1
  have hf : confFit l2 l3 z l6 := ⟨by omega, by omega, by omega, by omega, fun x h => by have := hx x h; omega⟩
  have hr : confFitR l2 l3 z l6 := ⟨by omega, by omega, by omega, by omega, fun x h => by have := hx x h; omega⟩
  have ht : tabFit ls := ⟨by omega, fun x h => by have := hy x h; omega⟩
  have htr : tabFitR ls := ⟨by omega, fun x h => by have := hy x h; omega⟩
  clear w0 w1 w4 w8 v1 v2 v3
  obtain ⟨a, m, h, e, hv⟩ : ∃ a m h e, claimV (freeB a0 a1 l2 l3 a4 z l6 ls now c) a0 a1 l2 l3 a4 z l6 ls now c q0 q1 q2 q3 q4 = (a, m, h, e) := ⟨_, _, _, _, rfl⟩
  have hlen : a.length ≤ ls.length := by
    rcases claim_told hv with ⟨_, rfl, _⟩ | ⟨rfl, _⟩
    · exact Nat.zero_le _
    · by_cases q : m = 1
      · subst q
        obtain ⟨_, b, _, _, _, _, _, _, _, _, hl2⟩ := claim_one hv
        exact hl2
      · exact Nat.le_of_eq (claim_none hv q).2.1
  refine ⟨(l2.length + l3.length + l6.length + 2 * ls.length + 30) + 1, ?_⟩
  generalize hK : l2.length + l3.length + l6.length + 2 * ls.length + 30 = K
  have ea : pinfoldlaw17_awake.f = some true := awake20
  have e3 := sameconfig_eq (a0 := a0) (a1 := a1) (a4 := a4) (z := z) (l2 := l2) (l3 := l3) (l6 := l6) (by omega) (by omega) (by omega) K (by omega) (by omega) (by omega)
  have sl : ∀ (l : List S44) (k : Nat), l.length ≤ 4194304 → l.length + 1 ≤ k → pinfoldlaw0_SameLeases.f k l l = some true := fun l k h1 h2 => by
    have := samleases_l0 l (by omega) l.length k 0 (by omega) h2
    rw [show ((0 : Nat) : Int) = 0 from rfl] at this
    unfold pinfoldlaw0_SameLeases.f
    rw [if_pos rfl]
    exact this
  obtain ⟨s1, hs1⟩ := spoil_eq a (by omega) K (by omega)
  have e4 : pinfoldlaw0_KeptLeases.f K ls ls = some true := by
    unfold pinfoldlaw0_KeptLeases.f
    rw [if_pos (by omega)]
    exact sl ls K (by omega) (by omega)
  unfold pinfoldlaw17_Claims.f
  rw [copy_eq (by omega) (by omega) (by omega), Option.bind_some]
  unfold pinfoldlaw0_LendLeases.f
  rw [if_pos (by omega), Option.bind_some]
  dsimp only
  unfold claim_Claim.f pinfoldref11_Claim.f
  rw [if_pos ⟨⟨hf, ht⟩, by omega⟩, if_pos (show pinfoldref11_Claim.fits l2 l3 z l6 ls q4 from ⟨hr, htr, by omega, by omega, hy, by omega⟩), hv]
  simp only [Option.bind_some]
  rw [sl _ (K + 1) (by omega) (by omega)]
  simp only [Option.bind_some, if_true, pinfoldlaw0_Num.f, bne_self_eq_false]
  rw [pinfoldlaw17_Claims.j0, if_neg (by decide), hs1, Option.bind_some, e3, Option.bind_some, if_pos rfl, e4, Option.bind_some, if_pos rfl, ea]
  rfl

end Go.Proofs.YtibalpbkmgegnaaGreatDoor.Pure
