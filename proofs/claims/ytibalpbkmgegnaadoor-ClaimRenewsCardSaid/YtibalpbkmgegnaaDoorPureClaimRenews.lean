/- ClaimRenews: a lease that is renewed again and again lasts its time from each time on; it keeps its name, or takes the new one. No condition. -/
import Derived.Test.YtibalpbkmgegnaaDoorPJx14
namespace Go.Proofs.YtibalpbkmgegnaaDoor.Pure
open Go.RowKit Go.Proofs.YtibalpbkmgegnaaDoor.PJ Go.Proofs.YtibalpbkmgegnaaDoorW.PrintWords Go.Proofs.YtibalpbkmgegnaaDoorW.PrintLast
set_option linter.unusedSimpArgs false
set_option linter.unusedVariables false

theorem fit_of {l2 : List Int} {l3 : List S72} {z : ByteArray} {l6 : List S74} (h2 : l2.length * Tryd.prog.bytesOf 3 ≤ 140737488351232) (h3 : l3.length * Tryd.prog.bytesOf 72 ≤ 140737488351232) (hz : z.size ≤ 140737488351232) (h6 : l6.length * Tryd.prog.bytesOf 74 ≤ 140737488351232) (hx : ∀ x ∈ l6, x.f0.size ≤ 140737488351232 ∧ x.f4.size ≤ 140737488351232) : confFit l2 l3 z l6 := by
  rw [show Tryd.prog.bytesOf 3 = 8 by kernel_rfl] at h2
  rw [show Tryd.prog.bytesOf 72 = 24 by kernel_rfl] at h3
  rw [show Tryd.prog.bytesOf 74 = 80 by kernel_rfl] at h6
  exact ⟨by omega, by omega, hz, by omega, hx⟩
theorem awake20 : pinfoldlaw17_awake.f = some true := rfl
theorem awake_eq (k : Nat) (_ : 20 ≤ k) : pinfoldlaw17_awake.f = some true := rfl
abbrev gEx : List Int := [12]
abbrev gRes : List S72 := [⟨(⟨#[118, 105, 112]⟩ : ByteArray), 13⟩]
abbrev gZone : ByteArray := ⟨#[108, 97, 110]⟩
abbrev gRR : List S74 := [⟨(⟨#[119, 119, 119, 46, 108, 97, 110]⟩ : ByteArray), 1, 5, 7, (⟨#[]⟩ : ByteArray), (⟨#[]⟩ : ByteArray), 0⟩]
theorem given_eq : pinfoldlaw17_given.f = some (10, 13, gEx, gRes, 100, gZone, gRR) := rfl
theorem given_fit : confFit gEx gRes gZone gRR := by unfold confFit; decide
theorem samleases_l0 (l : List S36) (hl : l.length ≤ 140737488351232) : ∀ (d k i : Nat), i + d = l.length → d + 1 ≤ k → pinfoldlaw0_SameLeases.l0 k l l (i : Int) = some true
  | 0, k, i, hi, hk => by
    obtain ⟨k, rfl⟩ : ∃ j, k = j + 1 := ⟨k - 1, by omega⟩
    rw [pinfoldlaw0_SameLeases.l0, if_neg (by omega)]
  | d + 1, k, i, hi, hk => by
    obtain ⟨k, rfl⟩ : ∃ j, k = j + 1 := ⟨k - 1, by omega⟩
    rw [pinfoldlaw0_SameLeases.l0, if_pos (by omega), if_pos (by omega), if_pos (by omega), if_neg (by simp), wrap_succ i l.length (by omega) hl]
    exact samleases_l0 l hl d k (i + 1) (by omega) (by omega)
theorem and_63 (a : Int) : Go.bits .and .i64 a 63 = a % 64 := and_mask a 6 (by decide)
abbrev rMe : ByteArray := ⟨#[109, 101]⟩
abbrev rAll : List ByteArray := [(⟨#[]⟩ : ByteArray), (⟨#[112, 99]⟩ : ByteArray), (⟨#[119, 119, 119]⟩ : ByteArray), (⟨#[116, 118, 46, 108, 97, 110]⟩ : ByteArray), (⟨#[97, 46, 110, 101, 116]⟩ : ByteArray)]
/-- which of the names is won. -/
def rWon (nm : ByteArray) : Bool := decide (nm.toList = [112, 99]) || (nm.toList == [116, 118, 46, 108, 97, 110])
abbrev rRow (til : Int) (nm : ByteArray) : List S36 := [(⟨10, 2, rMe, til, nm, rWon nm⟩ : S36)]
/-- what is said of each name. -/
def rName (nm : ByteArray) : Bool :=
  nameB (bytesOf nm) && (decide (nm.size ≤ 6) && (stateB 2 rMe nm (rWon nm) && ((decide ((fullB 10 13 gEx gRes 100 gZone gRR nm).data.toList ∉ [] :: takenS gRR ++ []) && decide (nm.toList ≠ [])) == rWon nm)))
theorem names_all : rAll.all rName = true := by kernel_rfl
theorem conf_all : (confB 10 13 gEx gRes 100 gZone gRR && (clientB rMe && lentB 10 13 gEx gRes 100 gZone gRR 10 rMe)) = true := by kernel_rfl
theorem row_fit {til : Int} {nm : ByteArray} (h : nm.size ≤ 6) : tabFit (rRow til nm) := by
  refine ⟨by show 1 ≤ 140737488351232; decide, fun x hx => ?_⟩
  rw [List.mem_singleton] at hx
  subst hx
  show nm.size ≤ _
  omega
/-- a lease that is renewed: from its time on. -/
theorem renew (nm qn : ByteArray) (til now : Int) (h1 : nm ∈ rAll) (h2 : qn ∈ rAll) (ht : now < til) (h0 : 0 ≤ now) (hn : now ≤ 1000000) (hm : til ≤ 1000100) :
    claim_Claim.f 10 13 gEx gRes 100 gZone gRR (rRow til nm) now rMe false 0 0 10 qn = some (rRow (now + 100) (if qn.toList = [] then nm else qn), 1, 10, 0) := by
  have n1 := List.all_eq_true.1 names_all nm h1
  have n2 := List.all_eq_true.1 names_all qn h2
  have hk : (if qn.toList = [] then nm else qn) ∈ rAll := by split <;> assumption
  have n3 := List.all_eq_true.1 names_all _ hk
  have hkept : keptN qn ⟨10, 2, rMe, til, nm, rWon nm⟩ rMe = if qn.toList = [] then nm else qn := by
    unfold keptN
    by_cases q : qn.toList = []
    · rw [if_pos q, if_pos ⟨q, rfl, rfl⟩]
    · rw [if_neg q, if_neg (fun h => q h.1)]
  generalize hK : (if qn.toList = [] then nm else qn) = K at hkept n3
  have hc := conf_all
  unfold rName at n1 n2 n3
  simp only [Bool.and_eq_true, decide_eq_true_eq, beq_iff_eq] at n1 n2 n3 hc
  obtain ⟨hc1, hc2, hc3⟩ := hc
  have hb : leaseB 10 2 rMe til nm (rWon nm) = true := by
    unfold leaseB
    rw [n1.2.2.1, decide_eq_true (show (2 : Int) ≤ 10 ∧ (10 : Int) ≤ 254 by decide), decide_eq_true (show rMe.size ≤ 16 by decide), decide_eq_true (show 0 ≤ til ∧ til ≤ 1099511627776 by omega), n1.1]
    rfl
  have hT : tableB (rRow til nm) = true := by
    unfold tableB
    have e : goTab none (rRow til nm) = true := by
      show (leaseOk ⟨10, 2, rMe, til, nm, rWon nm⟩ && _) = true
      rw [show leaseOk (⟨10, 2, rMe, til, nm, rWon nm⟩ : S36) = true from hb]
      rfl
    rw [e]
    rfl
  have hM : pickMayB 10 13 gEx gRes 100 gZone gRR (rRow til nm) now rMe = true := by
    unfold pickMayB
    rw [hc1, hT, decide_eq_true (show 0 ≤ now ∧ now ≤ 1099511627776 by omega), hc2]
    rfl
  have hR : reqB false 0 0 10 qn = true := by
    unfold reqB
    rw [n2.1]
    rfl
  have hlive : liveX now (⟨10, 2, rMe, til, nm, rWon nm⟩ : S36) = true := by
    show (leaseB 10 2 rMe til nm (rWon nm) && decide ((2 : Int) ≠ 0) && decide (til > now)) = true
    rw [hb, decide_eq_true (show til > now from ht)]
    rfl
  have hbd : boundX rMe now (⟨10, 2, rMe, til, nm, rWon nm⟩ : S36) = true := by
    show (liveX now (⟨10, 2, rMe, til, nm, rWon nm⟩ : S36) && (decide ((2 : Int) ≠ 3) && decide (rMe.toList = rMe.toList)) && decide ((2 : Int) = 2)) = true
    rw [hlive, decide_eq_true (show rMe.toList = rMe.toList from rfl)]
    rfl
  have hfr : freeB 10 13 gEx gRes 100 gZone gRR (rRow til nm) now rMe K = decide ((fullB 10 13 gEx gRes 100 gZone gRR K).data.toList ∉ [] :: takenS gRR ++ []) := by
    have e1 : takenL (fullB 10 13 gEx gRes 100 gZone gRR) rMe now (rRow til nm) = [] := by
      unfold takenL
      rw [List.filter_eq_nil_iff.2]
      · rfl
      · intro y hy
        rw [List.mem_singleton] at hy
        subst hy
        unfold heldBy
        rw [decide_eq_false (fun h => h rfl), Bool.false_and, Bool.and_false]
        decide
    have e2 : mayFree 10 13 gEx gRes 100 gZone gRR (rRow til nm) K = true := by
      unfold mayFree
      rw [hc1, hT, n3.1]
      rfl
    unfold freeB
    rw [e1, e2, Bool.true_and]
  unfold claim_Claim.f claimV
  rw [if_pos ⟨⟨given_fit, row_fit n1.2.1⟩, by omega⟩, if_pos (by rw [hM, hR, decide_eq_true (show 0 ≤ now ∧ now ≤ 1099510579200 by omega)]; rfl)]
  have eh : claimHost false 0 10 = 10 := by decide
  have ef : gotL (findL (rRow til nm) 10) = ⟨10, 2, rMe, til, nm, rWon nm⟩ := rfl
  rw [eh, ef, hc3, kind_had (by decide) hlive hbd]
  unfold claimGo
  rw [if_pos rfl, ef, hkept]
  have eb : boundL (freeB 10 13 gEx gRes 100 gZone gRR (rRow til nm) now rMe) 10 (now + 100) rMe K = ⟨10, 2, rMe, now + 100, K, rWon K⟩ := by
    unfold boundL
    rw [hfr, n3.2.2.2]
  rw [eb]
  rfl
theorem first_claim : claim_Claim.f 10 13 gEx gRes 100 gZone gRR [(⟨10, 1, rMe, 5, (⟨#[]⟩ : ByteArray), false⟩ : S36)] 0 rMe true 167772161 10 0 (⟨#[]⟩ : ByteArray) = some (rRow 100 (⟨#[]⟩ : ByteArray), 1, 10, 0) := by kernel_rfl
theorem same_row (k : Nat) (hk : 2 ≤ k) (til : Int) (nm : ByteArray) : pinfoldlaw0_SameLeases.f k (rRow til nm) (rRow til nm) = some true := by
  have h := samleases_l0 (rRow til nm) (by show 1 ≤ 140737488351232; decide) 1 k 0 (by rfl) hk
  unfold pinfoldlaw0_SameLeases.f
  rw [if_pos rfl]
  exact h
theorem renew_j4 (k : Nat) (hk : 3 ≤ k) (l0 l1 : List Int) (nm qn nm2 : ByteArray) (til now i : Int) (h1 : nm ∈ rAll) (h2 : qn ∈ rAll) (e2 : nm2 = if qn.toList = [] then nm else qn) (ht : now < til) (h0 : 0 ≤ now) (hn : now ≤ 1000000) (hm : til ≤ 1000100) (hi : 0 ≤ i ∧ i ≤ 100) :
    pinfoldlaw17_ClaimRenews.j4 (k + 2) l0 l1 (rRow til nm) rAll now nm2 i 10 13 gEx gRes 100 gZone gRR false 0 0 10 qn = pinfoldlaw17_ClaimRenews.l0 k l0 l1 (rRow (now + 100) nm2) rAll now nm2 (i + 1) 10 13 gEx gRes 100 gZone gRR := by
  rw [pinfoldlaw17_ClaimRenews.j4, renew nm qn til now h1 h2 ht h0 hn hm, ← e2, Option.bind_some]
  have hw : wrap64 (now + 100) = now + 100 := w64 (by omega)
  have hw2 : wrap64 (i + 1) = i + 1 := w64 (by omega)
  have hj : ∀ b, b = rWon nm2 → pinfoldlaw17_ClaimRenews.j5 (k + 1) l0 l1 rAll now nm2 i (rRow (now + 100) nm2) 1 10 0 b 10 13 gEx gRes 100 gZone gRR = pinfoldlaw17_ClaimRenews.l0 k l0 l1 (rRow (now + 100) nm2) rAll now nm2 (i + 1) 10 13 gEx gRes 100 gZone gRR := by
    intro b hb
    subst hb
    rw [pinfoldlaw17_ClaimRenews.j5, if_pos rfl, if_pos rfl]
    unfold pinfoldlaw0_Num.f
    rw [Option.bind_some, if_pos rfl, hw, same_row k (by omega), Option.bind_some, if_pos rfl, hw2]
  by_cases q : nm2.toList = [112, 99]
  · rw [if_pos q]
    exact hj true (by unfold rWon; rw [decide_eq_true q]; rfl)
  · rw [if_neg q]
    exact hj _ (by unfold rWon; rw [decide_eq_false q]; rfl)
theorem renew_all (l0 l1 : List Int) (hl : l0.length ≤ 1000000000000000) : ∀ (d k i : Nat) (nm : ByteArray) (now : Int), i + d = 15 → 5 * d + 5 ≤ k → nm ∈ rAll → 0 ≤ now → now ≤ 63 * (i : Int) →
    pinfoldlaw17_ClaimRenews.l0 k l0 l1 (rRow (now + 100) nm) rAll now nm (i : Int) 10 13 gEx gRes 100 gZone gRR = some true := by
  intro d
  induction d with
  | zero =>
    intro k i nm now hi hk h1 h0 hn
    obtain ⟨k, rfl⟩ : ∃ j, k = j + 2 := ⟨k - 2, by omega⟩
    rw [pinfoldlaw17_ClaimRenews.l0]
    have e : decide ((i : Int) < 15) = false := decide_eq_false (by omega)
    rw [e, ite_self, pinfoldlaw17_ClaimRenews.j2, if_neg (by decide)]
  | succ d ih =>
    intro k i nm now hi hk h1 h0 hn
    obtain ⟨k, rfl⟩ : ∃ j, k = j + 5 := ⟨k - 5, by omega⟩
    rw [pinfoldlaw17_ClaimRenews.l0]
    by_cases q : (i : Int) < (l0.length : Int)
    rotate_left
    · rw [if_neg q, pinfoldlaw17_ClaimRenews.j2, if_neg (by decide)]
    rw [if_pos q, decide_eq_true (show (i : Int) < 15 by omega), pinfoldlaw17_ClaimRenews.j2, if_pos rfl, if_pos (by omega), if_pos q, and_63]
    generalize rd l0 (i : Int) = t
    have t0 := Int.emod_nonneg t (show (64 : Int) ≠ 0 by decide)
    have t1 := Int.emod_lt_of_pos t (show (0 : Int) < 64 by decide)
    rw [w64 (a := now + t % 64) (by omega)]
    have step : ∀ qn ∈ rAll, pinfoldlaw17_ClaimRenews.j3 (k + 3) l0 l1 (rRow (now + 100) nm) rAll (now + t % 64) nm (i : Int) 10 13 gEx gRes 100 gZone gRR false 0 0 10 qn = some true := by
      intro qn hq
      rw [pinfoldlaw17_ClaimRenews.j3]
      have hi1 : ((i : Int) + 1) = ((i + 1 : Nat) : Int) := by omega
      by_cases e : qn.toList = []
      · rw [if_pos e, renew_j4 k (by omega) l0 l1 nm qn nm (now + 100) (now + t % 64) (i : Int) h1 hq (by rw [if_pos e]) (by omega) (by omega) (by omega) (by omega) (by omega), hi1]
        exact ih k (i + 1) nm (now + t % 64) (by omega) (by omega) h1 (by omega) (by omega)
      · rw [if_neg e, renew_j4 k (by omega) l0 l1 nm qn qn (now + 100) (now + t % 64) (i : Int) h1 hq (by rw [if_neg e]) (by omega) (by omega) (by omega) (by omega) (by omega), hi1]
        exact ih k (i + 1) qn (now + t % 64) (by omega) (by omega) hq (by omega) (by omega)
    by_cases q2 : (i : Int) < (l1.length : Int)
    · rw [if_pos q2, u64_eq]
      generalize rd l1 (i : Int) = u
      have u0 := Int.emod_nonneg u (show (18446744073709551616 : Int) ≠ 0 by decide)
      rw [Int.tmod_eq_emod_of_nonneg u0]
      have u1 := Int.emod_nonneg (u % 18446744073709551616) (show (5 : Int) ≠ 0 by decide)
      have u2 := Int.emod_lt_of_pos (u % 18446744073709551616) (show (0 : Int) < 5 by decide)
      rw [w64 (by omega), if_pos u1, if_pos (by show _ < ((5 : Nat) : Int); omega)]
      refine step _ ?_
      obtain ⟨j, hj⟩ : ∃ j : Nat, u % 18446744073709551616 % 5 = (j : Int) := ⟨(u % 18446744073709551616 % 5).toNat, by omega⟩
      rw [hj]
      have hj5 : j < 5 := by omega
      unfold rdOf
      rw [Int.toNat_natCast]
      have hjl : j < rAll.length := hj5
      rw [List.getD_eq_getElem?_getD, List.getElem?_eq_getElem hjl, Option.getD_some]
      exact List.getElem_mem hjl
    · rw [if_neg q2]
      exact step (⟨#[]⟩ : ByteArray) (by unfold rAll; exact List.mem_cons_self)
/-- a lease that is renewed again and again lasts its time from each time on; it keeps its name, or takes the new one. -/
theorem ClaimRenews : pinfoldlaw17_ClaimRenews.Pure := by
  intro l0 l1 h0 h1
  refine ⟨120, ?_⟩
  have hl : l0.length ≤ 1000000000000000 := by
    have := h0.1
    rw [show Tryd.prog.bytesOf 3 = 8 by kernel_rfl] at this
    omega
  unfold pinfoldlaw17_ClaimRenews.f
  rw [awake_eq 120 (by omega), Option.bind_some, if_pos rfl, given_eq, Option.bind_some]
  dsimp only
  rw [first_claim, Option.bind_some, if_pos rfl]
  unfold pinfoldlaw0_Num.f
  rw [Option.bind_some, pinfoldlaw17_ClaimRenews.j0, if_neg (by decide)]
  exact renew_all l0 l1 hl 15 119 0 (⟨#[]⟩ : ByteArray) 0 (by omega) (by omega) (by unfold rAll; exact List.mem_cons_self) (by omega) (by omega)

end Go.Proofs.YtibalpbkmgegnaaDoor.Pure
