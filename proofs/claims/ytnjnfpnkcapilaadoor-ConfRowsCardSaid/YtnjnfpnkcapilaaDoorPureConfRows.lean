/- ConfRows: the row of what is excluded, or reserved, turns nothing. No condition. -/
import Derived.Test.YtnjnfpnkcapilaaDoorPConfRowsx5
namespace Go.Proofs.YtnjnfpnkcapilaaDoor.Pure
open Go.RowKit Go.Proofs.YtnjnfpnkcapilaaDoor.PConfRows Go.Proofs.YtnjnfpnkcapilaaDoorW.PrintWords Go.Proofs.YtnjnfpnkcapilaaDoorW.PrintLast
set_option linter.unusedSimpArgs false
set_option linter.unusedVariables false

theorem awake_eq : pinfoldlaw11_awake.f = some true := by kernel_rfl
theorem fit_of {l2 : List Int} {l3 : List S47} {z : ByteArray} {l6 : List S49} (h2 : l2.length * Tryd.prog.bytesOf 3 ≤ 140737488351232) (h3 : l3.length * Tryd.prog.bytesOf 47 ≤ 140737488351232) (hz : z.size ≤ 140737488351232) (h6 : l6.length * Tryd.prog.bytesOf 49 ≤ 140737488351232) (hx : ∀ x ∈ l6, x.f0.size ≤ 140737488351232 ∧ x.f4.size ≤ 140737488351232) : confFit l2 l3 z l6 := by
  rw [show Tryd.prog.bytesOf 3 = 8 by kernel_rfl] at h2
  rw [show Tryd.prog.bytesOf 47 = 24 by kernel_rfl] at h3
  rw [show Tryd.prog.bytesOf 49 = 80 by kernel_rfl] at h6
  exact ⟨by omega, by omega, hz, by omega, hx⟩
theorem nodup_inj {α β : Type} (f : α → β) : ∀ l : List α, (l.map f).Nodup → ∀ x ∈ l, ∀ y ∈ l, f x = f y → x = y
  | [], _, x, hx, _, _, _ => by cases hx
  | a :: l, h, x, hx, y, hy, e => by
    rw [List.map_cons, List.nodup_cons] at h
    rcases List.mem_cons.1 hx with hx1 | hx1
    · rcases List.mem_cons.1 hy with hy1 | hy1
      · rw [hx1, hy1]
      · rw [hx1] at e
        exact absurd (List.mem_map.2 ⟨y, hy1, e.symm⟩) h.1
    · rcases List.mem_cons.1 hy with hy1 | hy1
      · rw [hy1] at e
        exact absurd (List.mem_map.2 ⟨x, hx1, e⟩) h.1
      · exact nodup_inj f l h.2 x hx1 y hy1 e
theorem reserved_parts {a b : Int} {l : List S47} (h : reservedB a b l = true) : (l.map fun x => x.f0.data.toList).Nodup ∧ (l.map fun x => x.f1).Nodup := by
  unfold reservedB hostsB at h
  simp only [Bool.and_eq_true, decide_eq_true_eq] at h
  exact ⟨h.2.1, h.2.2.2.1⟩
theorem conf_parts {a0 a1 : Int} {l2 : List Int} {l3 : List S47} {a4 : Int} {z : ByteArray} {l6 : List S49} (h : confB a0 a1 l2 l3 a4 z l6 = true) : (2 ≤ a0 ∧ a0 ≤ a1 ∧ a1 ≤ 254) ∧ reservedB a0 a1 l3 = true := by
  unfold confB at h
  simp only [Bool.and_eq_true, decide_eq_true_eq] at h
  exact ⟨⟨h.1.1.1, h.1.1.2.1, h.1.1.2.2.1⟩, h.2.2.2.1⟩
theorem copy_eq {a0 a1 : Int} {l2 : List Int} {l3 : List S47} {a4 : Int} {z : ByteArray} {l6 : List S49} (h2 : l2.length < 17592186044416) (h3 : l3.length < 5864062014805) (h6 : l6.length < 1759218604441) : pinfoldlaw0_CopyConfig.f a0 a1 l2 l3 a4 z l6 = some (a0, a1, l2, l3, a4, z, l6) := by
  unfold pinfoldlaw0_CopyConfig.f
  simp only [Option.bind_some, List.length_nil, Nat.zero_add, List.nil_append]
  rw [if_pos h2, if_pos h3, if_pos h6]
theorem set_rev {α : Type} (R l : List α) (i : Nat) (h : i < R.length) (hl : R.length = l.length) : (R.take i ++ l.drop i).set i R[i] = R.take (i + 1) ++ l.drop (i + 1) := by
  have h2 : i < l.length := by omega
  rw [List.set_append_right _ _ (by rw [List.length_take]; omega), List.length_take, Nat.min_eq_left (by omega), Nat.sub_self, List.drop_eq_getElem_cons h2, List.set_cons_zero, List.take_succ_eq_append_getElem h, List.append_assoc]
  rfl
theorem hosts_rev (a b : Int) (l : List Int) (n : Int) : hostsB a b l.reverse n = hostsB a b l n := by
  unfold hostsB
  rw [Bool.eq_iff_iff]
  simp only [Bool.and_eq_true, List.all_eq_true, List.mem_reverse, decide_eq_true_eq, List.length_reverse]
  unfold List.Nodup
  rw [List.pairwise_reverse]
  have e : (fun a b : Int => b ≠ a) = (fun a b : Int => a ≠ b) := by funext a b; exact propext ne_comm
  rw [e]
theorem reserved_rev (a b : Int) (l : List S47) : reservedB a b l.reverse = reservedB a b l := by
  unfold reservedB
  rw [List.map_reverse, List.map_reverse, hosts_rev, Bool.eq_iff_iff]
  simp only [Bool.and_eq_true, List.all_eq_true, List.mem_reverse, decide_eq_true_eq]
  unfold List.Nodup
  rw [List.pairwise_reverse]
  have e : (fun a b : List UInt8 => b ≠ a) = (fun a b : List UInt8 => a ≠ b) := by funext a b; exact propext ne_comm
  rw [e]
theorem find_rev {α : Type} (p : α → Bool) (l : List α) (h : ∀ x ∈ l, ∀ y ∈ l, p x = true → p y = true → x = y) : l.reverse.find? p = l.find? p := by
  cases hx : l.find? p with
  | none =>
    rw [List.find?_eq_none] at hx ⊢
    intro y hy
    exact hx y (List.mem_reverse.1 hy)
  | some x =>
    have hpx := List.find?_some hx
    have hmx := List.mem_of_find?_eq_some hx
    cases hy : l.reverse.find? p with
    | none =>
      rw [List.find?_eq_none] at hy
      exact absurd hpx (hy x (List.mem_reverse.2 hmx))
    | some y => rw [h y (List.mem_reverse.1 (List.mem_of_find?_eq_some hy)) x hmx (List.find?_some hy) hpx]
section
variable {a0 a1 : Int} {l2 : List Int} {l3 : List S47} {a4 : Int} {z : ByteArray} {l6 : List S49}
theorem conf_rev : confB a0 a1 l2.reverse l3.reverse a4 z l6 = confB a0 a1 l2 l3 a4 z l6 := by
  unfold confB
  rw [hosts_rev, reserved_rev]
theorem owner_rev (h : Int) : ownerR a0 a1 l2.reverse l3.reverse a4 z l6 h = ownerR a0 a1 l2 l3 a4 z l6 h := by
  unfold ownerR findS
  rw [conf_rev]
  cases hc : confB a0 a1 l2 l3 a4 z l6 with
  | false => rfl
  | true =>
    rw [if_pos rfl, if_pos rfl]
    refine find_rev _ _ fun x hx y hy e1 e2 => nodup_inj (fun x : S47 => x.f1) l3 (reserved_parts (conf_parts hc).2).2 x hx y hy ?_
    simp only [beq_iff_eq] at e1 e2
    show x.f1 = y.f1
    rw [e1, e2]
theorem reserv_rev (c : ByteArray) : reservR a0 a1 l2.reverse l3.reverse a4 z l6 c = reservR a0 a1 l2 l3 a4 z l6 c := by
  unfold reservR findS
  rw [conf_rev]
  cases hc : confB a0 a1 l2 l3 a4 z l6 with
  | false => rfl
  | true =>
    rw [if_pos rfl, if_pos rfl]
    refine find_rev _ _ fun x hx y hy e1 e2 => nodup_inj (fun x : S47 => x.f0.data.toList) l3 (reserved_parts (conf_parts hc).2).1 x hx y hy ?_
    simp only [beq_iff_eq] at e1 e2
    show x.f0.data.toList = y.f0.data.toList
    rw [← ByteArray.toList_eq, ← ByteArray.toList_eq, e1, e2]
theorem usable_rev (h : Int) : usableB a0 a1 l2.reverse l3.reverse a4 z l6 h = usableB a0 a1 l2 l3 a4 z l6 h := by
  unfold usableB
  rw [conf_rev, Bool.eq_iff_iff]
  simp only [Bool.and_eq_true, decide_eq_true_eq, List.mem_reverse]
theorem rows_end (hf : confFit l2 l3 z l6) (x1 : Int) (x2 : ByteArray) (k : Nat) (i : Int) (hi : (l3.length : Int) ≤ i) :
    pinfoldlaw11_ConfRows.l1 (k + 1) x1 x2 i a0 a1 l2 l3 a4 z l6 a0 a1 l2.reverse l3.reverse a4 z l6 = some true := by
  have hg : confFit l2.reverse l3.reverse z l6 := by
    unfold confFit at hf ⊢
    rw [List.length_reverse, List.length_reverse]
    exact hf
  rw [pinfoldlaw11_ConfRows.l1, if_neg (by omega)]
  unfold conf_Owner.f conf_Reserved.f conf_May.f conf_Usable.f
  simp only [if_pos hf, if_pos hg, Option.bind_some, conf_rev, owner_rev, reserv_rev, usable_rev, beq_self_eq_true, if_true, pinfoldlaw0_Num.f]
theorem rows_l1 (hf : confFit l2 l3 z l6) (x1 : Int) (x2 : ByteArray) (d : Nat) : ∀ (k i : Nat), i + d = l3.length → d + 1 ≤ k →
    pinfoldlaw11_ConfRows.l1 k x1 x2 (i : Int) a0 a1 l2 l3 a4 z l6 a0 a1 l2.reverse (l3.reverse.take i ++ l3.drop i) a4 z l6 = some true := by
  have hl := hf.2.1
  induction d with
  | zero =>
    intro k i hi hk
    obtain ⟨k, rfl⟩ : ∃ j, k = j + 1 := ⟨k - 1, by omega⟩
    rw [List.take_of_length_le (by rw [List.length_reverse]; omega), List.drop_eq_nil_of_le (by omega), List.append_nil]
    exact rows_end hf x1 x2 k i (by omega)
  | succ d ih =>
    intro k i hi hk
    obtain ⟨k, rfl⟩ : ∃ j, k = j + 1 := ⟨k - 1, by omega⟩
    have hlen : (l3.reverse.take i ++ l3.drop i).length = l3.length := by
      rw [List.length_append, List.length_take, List.length_reverse, List.length_drop]
      omega
    have h1 : i < l3.reverse.length := by rw [List.length_reverse]; omega
    have ew : wrap64 (wrap64 ((l3.length : Int) - 1) - (i : Int)) = ((l3.length - 1 - i : Nat) : Int) := by
      rw [w64 (a := (l3.length : Int) - 1) (by omega), w64 (by omega)]
      omega
    have ev : rd_T47 l3 ((l3.length - 1 - i : Nat) : Int) = l3.reverse[i] := by
      rw [List.getElem_reverse]
      unfold rd_T47
      rw [Int.toNat_natCast, List.getD_eq_getElem?_getD, List.getElem?_eq_getElem (by omega)]
      rfl
    rw [pinfoldlaw11_ConfRows.l1, if_pos (by omega), ew, if_pos (by omega), if_pos (by omega), if_pos (by omega), if_pos (by rw [hlen]; omega), w64 (by omega), ev, Int.toNat_natCast, set_rev l3.reverse l3 i h1 (List.length_reverse ..), show ((i : Int) + 1) = ((i + 1 : Nat) : Int) by omega]
    exact ih k (i + 1) (by omega) (by omega)
theorem rows_l0 (hf : confFit l2 l3 z l6) (x1 : Int) (x2 : ByteArray) (d : Nat) : ∀ (k i : Nat), i + d = l2.length → d + l3.length + 2 ≤ k →
    pinfoldlaw11_ConfRows.l0 k x1 x2 (i : Int) a0 a1 l2 l3 a4 z l6 a0 a1 (l2.reverse.take i ++ l2.drop i) l3 a4 z l6 = some true := by
  have hl := hf.1
  induction d with
  | zero =>
    intro k i hi hk
    obtain ⟨k, rfl⟩ : ∃ j, k = j + 1 := ⟨k - 1, by omega⟩
    rw [pinfoldlaw11_ConfRows.l0, if_neg (by omega), List.take_of_length_le (by rw [List.length_reverse]; omega), List.drop_eq_nil_of_le (by omega), List.append_nil]
    have := rows_l1 (a0 := a0) (a1 := a1) (a4 := a4) hf x1 x2 l3.length k 0 (by omega) (by omega)
    rw [List.take_zero, List.drop_zero, List.nil_append] at this
    exact this
  | succ d ih =>
    intro k i hi hk
    obtain ⟨k, rfl⟩ : ∃ j, k = j + 1 := ⟨k - 1, by omega⟩
    have hlen : (l2.reverse.take i ++ l2.drop i).length = l2.length := by
      rw [List.length_append, List.length_take, List.length_reverse, List.length_drop]
      omega
    have h1 : i < l2.reverse.length := by rw [List.length_reverse]; omega
    have ew : wrap64 (wrap64 ((l2.length : Int) - 1) - (i : Int)) = ((l2.length - 1 - i : Nat) : Int) := by
      rw [w64 (a := (l2.length : Int) - 1) (by omega), w64 (by omega)]
      omega
    have ev : rd l2 ((l2.length - 1 - i : Nat) : Int) = l2.reverse[i] := by
      rw [List.getElem_reverse]
      unfold rd
      rw [Int.toNat_natCast, List.getD_eq_getElem?_getD, List.getElem?_eq_getElem (by omega)]
      rfl
    rw [pinfoldlaw11_ConfRows.l0, if_pos (by omega), ew, if_pos (by omega), if_pos (by omega), if_pos (by omega), if_pos (by rw [hlen]; omega), w64 (by omega), ev, Int.toNat_natCast, set_rev l2.reverse l2 i h1 (List.length_reverse ..), show ((i : Int) + 1) = ((i + 1 : Nat) : Int) by omega]
    exact ih k (i + 1) (by omega) (by omega)
end
/-- the row of what is excluded, or reserved, turns nothing. -/
theorem ConfRows : pinfoldlaw11_ConfRows.Pure := by
  intro a0 a1 l2 l3 a4 z l6 h c _ _ b2 b3 _ bz b6 _ _
  have hf := fit_of b2.1 b3.1 bz b6.1 (fun x hx => ⟨(b6.2 x hx).1, (b6.2 x hx).2.2.2.2.1⟩)
  refine ⟨l2.length + l3.length + 2, ?_⟩
  have e2 := b2.1
  have e3 := b3.1
  have e6 := b6.1
  rw [show Tryd.prog.bytesOf 3 = 8 by kernel_rfl] at e2
  rw [show Tryd.prog.bytesOf 47 = 24 by kernel_rfl] at e3
  rw [show Tryd.prog.bytesOf 49 = 80 by kernel_rfl] at e6
  unfold pinfoldlaw11_ConfRows.f
  rw [awake_eq, Option.bind_some, if_pos rfl, copy_eq (by omega) (by omega) (by omega), Option.bind_some]
  have := rows_l0 (a0 := a0) (a1 := a1) (a4 := a4) hf h c l2.length (l2.length + l3.length + 2) 0 (by omega) (by omega)
  rw [List.take_zero, List.drop_zero, List.nil_append] at this
  exact this

end Go.Proofs.YtnjnfpnkcapilaaDoor.Pure
