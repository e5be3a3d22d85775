/- ConfBack: who has a host reserved has that one; hosts and addresses come back. No condition. -/
import Derived.Test.YtnjnfpnkcapilaaDoorPConfBackx4
namespace Go.Proofs.YtnjnfpnkcapilaaDoor.Pure
open Go.RowKit Go.Proofs.YtnjnfpnkcapilaaDoor.PConfBack Go.Proofs.YtnjnfpnkcapilaaDoorW.PrintWords Go.Proofs.YtnjnfpnkcapilaaDoorW.PrintLast
set_option linter.unusedSimpArgs false
set_option linter.unusedVariables false

theorem awake_eq : pinfoldlaw11_awake.f = some true := by kernel_rfl
theorem fit_of {l2 : List Int} {l3 : List S47} {z : ByteArray} {l6 : List S49} (h2 : l2.length * Tryd.prog.bytesOf 3 ≤ 140737488351232) (h3 : l3.length * Tryd.prog.bytesOf 47 ≤ 140737488351232) (hz : z.size ≤ 140737488351232) (h6 : l6.length * Tryd.prog.bytesOf 49 ≤ 140737488351232) (hx : ∀ x ∈ l6, x.f0.size ≤ 140737488351232 ∧ x.f4.size ≤ 140737488351232) : confFit l2 l3 z l6 := by
  rw [show Tryd.prog.bytesOf 3 = 8 by kernel_rfl] at h2
  rw [show Tryd.prog.bytesOf 47 = 24 by kernel_rfl] at h3
  rw [show Tryd.prog.bytesOf 49 = 80 by kernel_rfl] at h6
  exact ⟨by omega, by omega, hz, by omega, hx⟩
theorem nodup_inj {α β : Type} (f : α → β) : ∀ l : List α, (l.map f).Nodup → ∀ x ∈ l, ∀ y ∈ l, f x = f y → x = y
  | [], _, x, hx, _, _, _ => by cases hx
  | a :: l, h, x, hx, y, hy, e => by
    rw [List.map_cons, List.nodup_cons] at h
    rcases List.mem_cons.1 hx with hx1 | hx1
    · rcases List.mem_cons.1 hy with hy1 | hy1
      · rw [hx1, hy1]
      · rw [hx1] at e
        exact absurd (List.mem_map.2 ⟨y, hy1, e.symm⟩) h.1
    · rcases List.mem_cons.1 hy with hy1 | hy1
      · rw [hy1] at e
        exact absurd (List.mem_map.2 ⟨x, hx1, e⟩) h.1
      · exact nodup_inj f l h.2 x hx1 y hy1 e
theorem reserved_parts {a b : Int} {l : List S47} (h : reservedB a b l = true) : (l.map fun x => x.f0.data.toList).Nodup ∧ (l.map fun x => x.f1).Nodup := by
  unfold reservedB hostsB at h
  simp only [Bool.and_eq_true, decide_eq_true_eq] at h
  exact ⟨h.2.1, h.2.2.2.1⟩
theorem conf_parts {a0 a1 : Int} {l2 : List Int} {l3 : List S47} {a4 : Int} {z : ByteArray} {l6 : List S49} (h : confB a0 a1 l2 l3 a4 z l6 = true) : (2 ≤ a0 ∧ a0 ≤ a1 ∧ a1 ≤ 254) ∧ reservedB a0 a1 l3 = true := by
  unfold confB at h
  simp only [Bool.and_eq_true, decide_eq_true_eq] at h
  exact ⟨⟨h.1.1.1, h.1.1.2.1, h.1.1.2.2.1⟩, h.2.2.2.1⟩
section
variable {a0 a1 : Int} {l2 : List Int} {l3 : List S47} {a4 : Int} {z : ByteArray} {l6 : List S49}
theorem back_loop (hf : confFit l2 l3 z l6) (hc : confB a0 a1 l2 l3 a4 z l6 = true) (d : Nat) : ∀ (k : Nat) (h : Int), 1 ≤ h → (255 - h).toNat = d → 3 * d + 1 ≤ k → pinfoldlaw11_ConfBack.l0 k h a0 a1 l2 l3 a4 z l6 = some true := by
  induction d with
  | zero =>
    intro k h h1 hd hk
    obtain ⟨k, rfl⟩ : ∃ j, k = j + 1 := ⟨k - 1, by omega⟩
    rw [pinfoldlaw11_ConfBack.l0, if_neg (by omega)]
  | succ d ih =>
    intro k h h1 hd hk
    obtain ⟨k, rfl⟩ : ∃ j, k = j + 3 := ⟨k - 3, by omega⟩
    have hrec : ∀ j, 3 * d + 1 ≤ j → pinfoldlaw11_ConfBack.l0 j (wrap64 (h + 1)) a0 a1 l2 l3 a4 z l6 = some true := fun j hj => by
      rw [w64 (by omega)]
      exact ih j (h + 1) (by omega) (by omega) hj
    have ea : conf_Address.f h = some (167772160 + h, 0) := by
      unfold conf_Address.f
      rw [if_neg (by omega), if_neg (by omega), w64 (by omega)]
    have eh : conf_Host.f (167772160 + h) = some h := by
      unfold conf_Host.f
      rw [w64 (show -9223372036854775808 ≤ 167772160 + h - 167772160 ∧ 167772160 + h - 167772160 ≤ 9223372036854775807 by omega), if_pos (by omega), if_pos (by omega)]
      congr 1
      omega
    have eu : conf_Usable.f a0 a1 l2 l3 a4 z l6 h = some (usableB a0 a1 l2 l3 a4 z l6 h) := by
      unfold conf_Usable.f
      rw [if_pos hf]
    have eo : conf_Owner.f a0 a1 l2 l3 a4 z l6 h = some (foundN (ownerR a0 a1 l2 l3 a4 z l6 h), foundIs (ownerR a0 a1 l2 l3 a4 z l6 h)) := by
      unfold conf_Owner.f
      rw [if_pos hf]
    have hu : usableB a0 a1 l2 l3 a4 z l6 h = true → a0 ≤ h ∧ h ≤ a1 := fun e => by
      unfold usableB at e
      simp only [Bool.and_eq_true, decide_eq_true_eq] at e
      exact e.2.2
    have j2 : ∀ j, 3 * d + 1 ≤ j → pinfoldlaw11_ConfBack.j2 (j + 1) h false a0 a1 l2 l3 a4 z l6 = some true := fun j hj => by
      rw [pinfoldlaw11_ConfBack.j2, if_neg (by decide), eu, Option.bind_some]
      by_cases q : usableB a0 a1 l2 l3 a4 z l6 h = true
      · have := hu q
        rw [if_pos q, if_neg (by omega), if_neg (by omega)]
        exact hrec j hj
      · rw [if_neg q]
        exact hrec j hj
    rw [pinfoldlaw11_ConfBack.l0, if_pos (by omega), ea, Option.bind_some]
    simp only [pinfoldlaw0_Num.f, Option.bind_some, if_true, eh, bne_self_eq_false]
    rw [pinfoldlaw11_ConfBack.j1, if_neg (by decide), eo, Option.bind_some]
    cases hR : ownerR a0 a1 l2 l3 a4 z l6 h with
    | none =>
      simp only [foundIs, foundN, Bool.false_eq_true, if_false]
      rw [eu, Option.bind_some]
      by_cases q : usableB a0 a1 l2 l3 a4 z l6 h = true
      · have := hu q
        rw [if_pos q, if_neg (by omega), if_neg (by omega)]
        exact hrec _ (by omega)
      · rw [if_neg q]
        exact hrec _ (by omega)
    | some x =>
      unfold ownerR findS at hR
      rw [hc, if_pos rfl] at hR
      have hx1 : x.f1 = h := by simpa using List.find?_some hR
      have hxm : x ∈ l3 := List.mem_of_find?_eq_some hR
      simp only [foundIs, foundN, if_true]
      have er : conf_Reserved.f a0 a1 l2 l3 a4 z l6 x.f0 = some (h, true) := by
        unfold conf_Reserved.f
        rw [if_pos hf]
        unfold reservR findS
        rw [hc, if_pos rfl]
        cases hY : l3.find? (fun y => y.f0.toList == x.f0.toList) with
        | none =>
          have := List.find?_eq_none.1 hY x hxm
          simp at this
        | some y =>
          have hy0 : y.f0.toList = x.f0.toList := by simpa using List.find?_some hY
          rw [ByteArray.toList_eq, ByteArray.toList_eq] at hy0
          have := nodup_inj (fun x : S47 => x.f0.data.toList) l3 (reserved_parts (conf_parts hc).2).1 y (List.mem_of_find?_eq_some hY) x hxm hy0
          rw [this]
          simp only [foundH, foundIs, hx1]
      rw [er]
      simp only [Option.bind_some, if_true, bne_self_eq_false]
      exact j2 k (by omega)
end
/-- who has a host reserved has that one; hosts and addresses come back. -/
theorem ConfBack : pinfoldlaw11_ConfBack.Pure := by
  intro a0 a1 l2 l3 a4 z l6 h _ _ b2 b3 _ bz b6 _
  have hf := fit_of b2.1 b3.1 bz b6.1 (fun x hx => ⟨(b6.2 x hx).1, (b6.2 x hx).2.2.2.2.1⟩)
  refine ⟨763, ?_⟩
  unfold pinfoldlaw11_ConfBack.f
  have em : conf_May.f a0 a1 l2 l3 a4 z l6 = some (confB a0 a1 l2 l3 a4 z l6) := by
    unfold conf_May.f
    rw [if_pos hf]
  rw [awake_eq, Option.bind_some, if_pos rfl, em, Option.bind_some]
  cases hc : confB a0 a1 l2 l3 a4 z l6 with
  | true =>
    rw [if_pos rfl]
    exact back_loop hf hc 254 763 1 (by omega) (by decide) (by omega)
  | false =>
    rw [if_neg (by decide)]
    have eo : conf_Owner.f a0 a1 l2 l3 a4 z l6 h = some (⟨#[]⟩, false) := by
      unfold conf_Owner.f ownerR findS
      rw [if_pos hf, hc]
      rfl
    have eu : conf_Usable.f a0 a1 l2 l3 a4 z l6 h = some false := by
      unfold conf_Usable.f usableB
      rw [if_pos hf, hc]
      simp
    rw [eo, eu]
    rfl

end Go.Proofs.YtnjnfpnkcapilaaDoor.Pure
