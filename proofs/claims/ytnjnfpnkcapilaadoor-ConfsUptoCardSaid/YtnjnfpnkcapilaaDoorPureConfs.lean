/- Confs: any configuration, host, client, address: as the document says. No condition. -/
import Derived.Test.YtnjnfpnkcapilaaDoorPConfsx11
namespace Go.Proofs.YtnjnfpnkcapilaaDoor.Pure
open Go.RowKit Go.Proofs.YtnjnfpnkcapilaaDoor.PConfs Go.Proofs.YtnjnfpnkcapilaaDoorW.PrintWords Go.Proofs.YtnjnfpnkcapilaaDoorW.PrintLast
set_option linter.unusedSimpArgs false
set_option linter.unusedVariables false

theorem awake_eq : pinfoldlaw11_awake.f = some true := by kernel_rfl
theorem fit_of {l2 : List Int} {l3 : List S47} {z : ByteArray} {l6 : List S49} (h2 : l2.length * Tryd.prog.bytesOf 3 ≤ 140737488351232) (h3 : l3.length * Tryd.prog.bytesOf 47 ≤ 140737488351232) (hz : z.size ≤ 140737488351232) (h6 : l6.length * Tryd.prog.bytesOf 49 ≤ 140737488351232) (hx : ∀ x ∈ l6, x.f0.size ≤ 140737488351232 ∧ x.f4.size ≤ 140737488351232) : confFit l2 l3 z l6 := by
  rw [show Tryd.prog.bytesOf 3 = 8 by kernel_rfl] at h2
  rw [show Tryd.prog.bytesOf 47 = 24 by kernel_rfl] at h3
  rw [show Tryd.prog.bytesOf 49 = 80 by kernel_rfl] at h6
  exact ⟨by omega, by omega, hz, by omega, hx⟩
theorem nodup_inj {α β : Type} (f : α → β) : ∀ l : List α, (l.map f).Nodup → ∀ x ∈ l, ∀ y ∈ l, f x = f y → x = y
  | [], _, x, hx, _, _, _ => by cases hx
  | a :: l, h, x, hx, y, hy, e => by
    rw [List.map_cons, List.nodup_cons] at h
    rcases List.mem_cons.1 hx with hx1 | hx1
    · rcases List.mem_cons.1 hy with hy1 | hy1
      · rw [hx1, hy1]
      · rw [hx1] at e
        exact absurd (List.mem_map.2 ⟨y, hy1, e.symm⟩) h.1
    · rcases List.mem_cons.1 hy with hy1 | hy1
      · rw [hy1] at e
        exact absurd (List.mem_map.2 ⟨x, hx1, e⟩) h.1
      · exact nodup_inj f l h.2 x hx1 y hy1 e
theorem reserved_parts {a b : Int} {l : List S47} (h : reservedB a b l = true) : (l.map fun x => x.f0.data.toList).Nodup ∧ (l.map fun x => x.f1).Nodup := by
  unfold reservedB hostsB at h
  simp only [Bool.and_eq_true, decide_eq_true_eq] at h
  exact ⟨h.2.1, h.2.2.2.1⟩
theorem conf_parts {a0 a1 : Int} {l2 : List Int} {l3 : List S47} {a4 : Int} {z : ByteArray} {l6 : List S49} (h : confB a0 a1 l2 l3 a4 z l6 = true) : (2 ≤ a0 ∧ a0 ≤ a1 ∧ a1 ≤ 254) ∧ reservedB a0 a1 l3 = true := by
  unfold confB at h
  simp only [Bool.and_eq_true, decide_eq_true_eq] at h
  exact ⟨⟨h.1.1.1, h.1.1.2.1, h.1.1.2.2.1⟩, h.2.2.2.1⟩
theorem rdRes_get (l : List S47) (i : Nat) (h : i < l.length) : rd_T47 l (i : Int) = l[i] := by
  unfold rd_T47
  rw [Int.toNat_natCast, List.getD_eq_getElem?_getD, List.getElem?_eq_getElem h]
  rfl
theorem rdInt_get (l : List Int) (i : Nat) (h : i < l.length) : rd l (i : Int) = l[i] := by
  unfold rd
  rw [Int.toNat_natCast, List.getD_eq_getElem?_getD, List.getElem?_eq_getElem h]
  rfl
theorem wrap_succ (i n : Nat) (h : i < n) (hn : n ≤ 140737488351232) : wrap64 ((i : Int) + 1) = ((i + 1 : Nat) : Int) := by
  rw [w64 (by omega)]
  omega
section
variable {a0 a1 : Int} {l2 : List Int} {l3 : List S47} {a4 : Int} {z : ByteArray} {l6 : List S49}
theorem refowner_l0 (hf : confFitR l2 l3 z l6) (h : Int) : ∀ (d k i : Nat), i + d = l3.length → 2 * d + 2 ≤ k →
    pinfoldref11_Owner.l0 k h (i : Int) a0 a1 l2 l3 a4 z l6 = some (foundN (findS (fun x => x.f1 == h) (confB a0 a1 l2 l3 a4 z l6) (l3.drop i)), foundIs (findS (fun x => x.f1 == h) (confB a0 a1 l2 l3 a4 z l6) (l3.drop i)))
  | 0, k, i, hi, hk => by
    obtain ⟨k, rfl⟩ : ∃ j, k = j + 2 := ⟨k - 2, by omega⟩
    rw [List.drop_eq_nil_of_le (by omega), pinfoldref11_Owner.l0, if_neg (by omega), pinfoldref11_Owner.j1]
    unfold findS
    cases confB a0 a1 l2 l3 a4 z l6 <;> rfl
  | d + 1, k, i, hi, hk => by
    obtain ⟨k, rfl⟩ : ∃ j, k = j + 2 := ⟨k - 2, by omega⟩
    have hlt : i < l3.length := by omega
    have h3 := hf.2.1
    rw [pinfoldref11_Owner.l0, if_pos (by omega)]
    unfold pinfoldref11_ConfMay.f
    rw [if_pos hf, Option.bind_some, pinfoldref11_Owner.j1]
    have ih := refowner_l0 hf h d k (i + 1) (by omega) (by omega)
    rw [rdRes_get l3 i hlt, wrap_succ i l3.length hlt (by omega), ih, List.drop_eq_getElem_cons hlt]
    unfold findS
    cases confB a0 a1 l2 l3 a4 z l6 with
    | false => rfl
    | true =>
      simp only [if_true]
      rw [if_pos (by omega), if_pos (by omega), List.find?_cons]
      by_cases q : l3[i].f1 = h
      · rw [if_pos q, show (l3[i].f1 == h) = true by simpa using q]
        rfl
      · rw [if_neg q, show (l3[i].f1 == h) = false by simpa using q]
theorem refreserved_l0 (hf : confFitR l2 l3 z l6) (c : ByteArray) : ∀ (d k i : Nat), i + d = l3.length → 2 * d + 2 ≤ k →
    pinfoldref11_Reserved.l0 k c (i : Int) a0 a1 l2 l3 a4 z l6 = some (foundH (findS (fun x => x.f0.toList == c.toList) (confB a0 a1 l2 l3 a4 z l6) (l3.drop i)), foundIs (findS (fun x => x.f0.toList == c.toList) (confB a0 a1 l2 l3 a4 z l6) (l3.drop i)))
  | 0, k, i, hi, hk => by
    obtain ⟨k, rfl⟩ : ∃ j, k = j + 2 := ⟨k - 2, by omega⟩
    rw [List.drop_eq_nil_of_le (by omega), pinfoldref11_Reserved.l0, if_neg (by omega), pinfoldref11_Reserved.j1]
    unfold findS
    cases confB a0 a1 l2 l3 a4 z l6 <;> rfl
  | d + 1, k, i, hi, hk => by
    obtain ⟨k, rfl⟩ : ∃ j, k = j + 2 := ⟨k - 2, by omega⟩
    have hlt : i < l3.length := by omega
    have h3 := hf.2.1
    rw [pinfoldref11_Reserved.l0, if_pos (by omega)]
    unfold pinfoldref11_ConfMay.f
    rw [if_pos hf, Option.bind_some, pinfoldref11_Reserved.j1]
    have ih := refreserved_l0 hf c d k (i + 1) (by omega) (by omega)
    rw [rdRes_get l3 i hlt, wrap_succ i l3.length hlt (by omega), ih, List.drop_eq_getElem_cons hlt]
    unfold findS
    cases confB a0 a1 l2 l3 a4 z l6 with
    | false => rfl
    | true =>
      simp only [if_true]
      rw [if_pos (by omega), if_pos (by omega), List.find?_cons]
      by_cases q : l3[i].f0.toList = c.toList
      · rw [if_pos q, show (l3[i].f0.toList == c.toList) = true by simpa using q]
        rfl
      · rw [if_neg q, show (l3[i].f0.toList == c.toList) = false by simpa using q]
theorem refusable_l0 (hl : l2.length ≤ 140737488351232) (h : Int) : ∀ (d k i : Nat), i + d = l2.length → d + 1 ≤ k →
    pinfoldref11_Usable.l0 k h (i : Int) a0 a1 l2 l3 a4 z l6 = some (decide (h ∉ l2.drop i))
  | 0, k, i, hi, hk => by
    obtain ⟨k, rfl⟩ : ∃ j, k = j + 1 := ⟨k - 1, by omega⟩
    rw [List.drop_eq_nil_of_le (by omega), pinfoldref11_Usable.l0, if_neg (by omega)]
    rfl
  | d + 1, k, i, hi, hk => by
    obtain ⟨k, rfl⟩ : ∃ j, k = j + 1 := ⟨k - 1, by omega⟩
    have hlt : i < l2.length := by omega
    have ih := refusable_l0 hl h d k (i + 1) (by omega) (by omega)
    rw [pinfoldref11_Usable.l0, if_pos (by omega), if_pos (by omega), rdInt_get l2 i hlt, wrap_succ i l2.length hlt hl, ih, List.drop_eq_getElem_cons hlt]
    by_cases q : l2[i] = h
    · rw [if_pos q, Option.some.injEq, eq_comm, decide_eq_false_iff_not]
      exact fun e => e (by rw [q]; exact List.mem_cons_self)
    · rw [if_neg q, Option.some.injEq, decide_eq_decide, List.mem_cons, not_or]
      exact ⟨fun e => ⟨fun e2 => q e2.symm, e⟩, fun e => e.2⟩
theorem refusable_eq (hf : confFitR l2 l3 z l6) (h : Int) (k : Nat) (hk : l2.length + 2 ≤ k) : pinfoldref11_Usable.f k a0 a1 l2 l3 a4 z l6 h = some (usableB a0 a1 l2 l3 a4 z l6 h) := by
  obtain ⟨k, rfl⟩ : ∃ j, k = j + 1 := ⟨k - 1, by omega⟩
  have h0 := refusable_l0 (a0 := a0) (a1 := a1) (l3 := l3) (a4 := a4) (z := z) (l6 := l6) hf.1 h l2.length k 0 (by omega) (by omega)
  rw [List.drop_zero] at h0
  unfold pinfoldref11_Usable.f pinfoldref11_ConfMay.f usableB
  rw [if_pos hf, Option.bind_some]
  simp only [pinfoldref11_Usable.j0]
  rw [show ((0 : Nat) : Int) = 0 from rfl] at h0
  rw [h0]
  cases confB a0 a1 l2 l3 a4 z l6 with
  | false => simp
  | true =>
    by_cases q1 : h < a0
    · rw [decide_eq_false (show ¬ (a0 ≤ h ∧ h ≤ a1) by omega)]
      simp [q1]
    · by_cases q2 : h > a1
      · rw [decide_eq_false (show ¬ (a0 ≤ h ∧ h ≤ a1) by omega)]
        simp [q1, q2]
      · rw [decide_eq_true (show a0 ≤ h ∧ h ≤ a1 by omega)]
        simp [q1, q2]
end
theorem copy_eq {a0 a1 : Int} {l2 : List Int} {l3 : List S47} {a4 : Int} {z : ByteArray} {l6 : List S49} (h2 : l2.length < 17592186044416) (h3 : l3.length < 5864062014805) (h6 : l6.length < 1759218604441) : pinfoldlaw0_CopyConfig.f a0 a1 l2 l3 a4 z l6 = some (a0, a1, l2, l3, a4, z, l6) := by
  unfold pinfoldlaw0_CopyConfig.f
  simp only [Option.bind_some, List.length_nil, Nat.zero_add, List.nil_append]
  rw [if_pos h2, if_pos h3, if_pos h6]
theorem sameints_l0 (l : List Int) (hl : l.length ≤ 140737488351232) : ∀ (d k i : Nat), i + d = l.length → d + 1 ≤ k → pinfoldlaw0_SameInts.l0 k l l (i : Int) = some true
  | 0, k, i, hi, hk => by
    obtain ⟨k, rfl⟩ : ∃ j, k = j + 1 := ⟨k - 1, by omega⟩
    rw [pinfoldlaw0_SameInts.l0, if_neg (by omega)]
  | d + 1, k, i, hi, hk => by
    obtain ⟨k, rfl⟩ : ∃ j, k = j + 1 := ⟨k - 1, by omega⟩
    rw [pinfoldlaw0_SameInts.l0, if_pos (by omega), if_pos (by omega), if_pos (by omega), if_pos rfl, wrap_succ i l.length (by omega) hl]
    exact sameints_l0 l hl d k (i + 1) (by omega) (by omega)
theorem samereserves_l0 (l : List S47) (hl : l.length ≤ 140737488351232) : ∀ (d k i : Nat), i + d = l.length → d + 1 ≤ k → pinfoldlaw0_SameReserves.l0 k l l (i : Int) = some true
  | 0, k, i, hi, hk => by
    obtain ⟨k, rfl⟩ : ∃ j, k = j + 1 := ⟨k - 1, by omega⟩
    rw [pinfoldlaw0_SameReserves.l0, if_neg (by omega)]
  | d + 1, k, i, hi, hk => by
    obtain ⟨k, rfl⟩ : ∃ j, k = j + 1 := ⟨k - 1, by omega⟩
    rw [pinfoldlaw0_SameReserves.l0, if_pos (by omega), if_pos (by omega), if_pos (by omega), if_neg (by simp), wrap_succ i l.length (by omega) hl]
    exact samereserves_l0 l hl d k (i + 1) (by omega) (by omega)
theorem samerrs_l0 (l : List S49) (hl : l.length ≤ 140737488351232) : ∀ (d k i : Nat), i + d = l.length → d + 1 ≤ k → pinfoldlaw0_SameRRs.l0 k l l (i : Int) = some true
  | 0, k, i, hi, hk => by
    obtain ⟨k, rfl⟩ : ∃ j, k = j + 1 := ⟨k - 1, by omega⟩
    rw [pinfoldlaw0_SameRRs.l0, if_neg (by omega)]
  | d + 1, k, i, hi, hk => by
    obtain ⟨k, rfl⟩ : ∃ j, k = j + 1 := ⟨k - 1, by omega⟩
    rw [pinfoldlaw0_SameRRs.l0, if_pos (by omega), if_pos (by omega), if_pos (by omega), if_neg (by simp), wrap_succ i l.length (by omega) hl]
    exact samerrs_l0 l hl d k (i + 1) (by omega) (by omega)
theorem sameconfig_eq {a0 a1 : Int} {l2 : List Int} {l3 : List S47} {a4 : Int} {z : ByteArray} {l6 : List S49} (h2 : l2.length ≤ 140737488351232) (h3 : l3.length ≤ 140737488351232) (h6 : l6.length ≤ 140737488351232) (k : Nat) (k2 : l2.length + 1 ≤ k) (k3 : l3.length + 1 ≤ k) (k6 : l6.length + 1 ≤ k) : pinfoldlaw0_SameConfig.f k a0 a1 l2 l3 a4 z l6 a0 a1 l2 l3 a4 z l6 = some true := by
  have e2 := sameints_l0 l2 h2 l2.length k 0 (by omega) k2
  have e3 := samereserves_l0 l3 h3 l3.length k 0 (by omega) k3
  have e6 := samerrs_l0 l6 h6 l6.length k 0 (by omega) k6
  rw [show ((0 : Nat) : Int) = 0 from rfl] at e2 e3 e6
  unfold pinfoldlaw0_SameConfig.f pinfoldlaw0_SameInts.f pinfoldlaw0_SameReserves.f pinfoldlaw0_SameRRs.f
  simp only [if_true, e2, e3, e6, Option.bind_some]
theorem hosts_same (a : Int) (h : -9223372036854775808 ≤ a ∧ a ≤ 9223372036854775807) : conf_Host.f a = pinfoldref11_HostOf.f a := by
  unfold conf_Host.f pinfoldref11_HostOf.f wrap64
  repeat' split
  all_goals first
    | rfl
    | (congr 1; omega)
    | (exfalso; omega)
/-- any configuration, host, client, address: as the document says. -/
theorem Confs : pinfoldlaw11_Confs.Pure := by
  intro a0 a1 l2 l3 a4 z l6 host client addr w0 w1 h2 h3 w4 hz h6 w7 hc w9
  have b0 := int_bd w9
  have hx : ∀ x ∈ l6, x.f0.size ≤ 1048576 ∧ x.f4.size ≤ 1048576 := fun x hx => ⟨(h6.2 x hx).1, (h6.2 x hx).2.2.2.2.1⟩
  replace h2 := h2.1
  replace h3 := h3.1
  replace h6 := h6.1
  have hf : confFit l2 l3 z l6 := ⟨by omega, by omega, by omega, by omega, fun x h => by have := hx x h; omega⟩
  have hr : confFitR l2 l3 z l6 := ⟨by omega, by omega, by omega, by omega, fun x h => by have := hx x h; omega⟩
  clear w0 w1 w4 w7 w9 hc
  refine ⟨2 * l2.length + 2 * l3.length + l6.length + 3, ?_⟩
  have e1 := refowner_l0 (a0 := a0) (a1 := a1) (a4 := a4) hr host l3.length (2 * l2.length + 2 * l3.length + l6.length + 3) 0 (by omega) (by omega)
  have e2 := refreserved_l0 (a0 := a0) (a1 := a1) (a4 := a4) hr client l3.length (2 * l2.length + 2 * l3.length + l6.length + 3) 0 (by omega) (by omega)
  have e3 := refusable_eq (a0 := a0) (a1 := a1) (a4 := a4) hr host (2 * l2.length + 2 * l3.length + l6.length + 3) (by omega)
  have e4 := sameconfig_eq (a0 := a0) (a1 := a1) (a4 := a4) (z := z) (l2 := l2) (l3 := l3) (l6 := l6) (by omega) (by omega) (by omega) (2 * l2.length + 2 * l3.length + l6.length + 3) (by omega) (by omega) (by omega)
  rw [List.drop_zero, show ((0 : Nat) : Int) = 0 from rfl] at e1 e2
  replace e1 : pinfoldref11_Owner.l0 (2 * l2.length + 2 * l3.length + l6.length + 3) host 0 a0 a1 l2 l3 a4 z l6 = some (foundN (ownerR a0 a1 l2 l3 a4 z l6 host), foundIs (ownerR a0 a1 l2 l3 a4 z l6 host)) := e1
  replace e2 : pinfoldref11_Reserved.l0 (2 * l2.length + 2 * l3.length + l6.length + 3) client 0 a0 a1 l2 l3 a4 z l6 = some (foundH (reservR a0 a1 l2 l3 a4 z l6 client), foundIs (reservR a0 a1 l2 l3 a4 z l6 client)) := e2
  have e5 : pinfoldref11_HostOf.f addr = some (if 167772160 < addr ∧ addr < 167772415 then addr - 167772160 else 0) := by
    unfold pinfoldref11_HostOf.f wrap64
    repeat' split
    all_goals first
      | rfl
      | (congr 1; omega)
      | (exfalso; omega)
  have e6 : pinfoldref11_Address.f host = conf_Address.f host := rfl
  have e7 : ∃ s e, conf_Address.f host = some (s, e) := by
    unfold conf_Address.f
    repeat' split
    all_goals exact ⟨_, _, rfl⟩
  obtain ⟨s, e, e7⟩ := e7
  unfold pinfoldlaw11_Confs.f
  rw [copy_eq (by omega) (by omega) (by omega), Option.bind_some]
  dsimp only
  unfold conf_Owner.f conf_Reserved.f conf_May.f conf_Usable.f pinfoldref11_ConfMay.f pinfoldref11_Owner.f pinfoldref11_Reserved.f
  rw [e1, e2, e3, e4, e6, e7, hosts_same addr b0, e5, awake_eq]
  simp only [if_pos hf, if_pos hr, Option.bind_some, beq_self_eq_true, if_true, pinfoldlaw0_Num.f]

end Go.Proofs.YtnjnfpnkcapilaaDoor.Pure
