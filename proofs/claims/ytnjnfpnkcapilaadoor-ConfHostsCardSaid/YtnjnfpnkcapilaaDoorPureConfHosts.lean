/- ConfHosts: addresses of other nets are no hosts; hosts that are none have no address. No condition. -/
import Derived.Test.YtnjnfpnkcapilaaDoorPConfHostsx4
namespace Go.Proofs.YtnjnfpnkcapilaaDoor.Pure
open Go.RowKit Go.Proofs.YtnjnfpnkcapilaaDoor.PConfHosts Go.Proofs.YtnjnfpnkcapilaaDoorW.PrintWords Go.Proofs.YtnjnfpnkcapilaaDoorW.PrintLast
set_option linter.unusedSimpArgs false
set_option linter.unusedVariables false

theorem awake_eq : pinfoldlaw11_awake.f = some true := by kernel_rfl
theorem fit_of {l2 : List Int} {l3 : List S47} {z : ByteArray} {l6 : List S49} (h2 : l2.length * Tryd.prog.bytesOf 3 ≤ 140737488351232) (h3 : l3.length * Tryd.prog.bytesOf 47 ≤ 140737488351232) (hz : z.size ≤ 140737488351232) (h6 : l6.length * Tryd.prog.bytesOf 49 ≤ 140737488351232) (hx : ∀ x ∈ l6, x.f0.size ≤ 140737488351232 ∧ x.f4.size ≤ 140737488351232) : confFit l2 l3 z l6 := by
  rw [show Tryd.prog.bytesOf 3 = 8 by kernel_rfl] at h2
  rw [show Tryd.prog.bytesOf 47 = 24 by kernel_rfl] at h3
  rw [show Tryd.prog.bytesOf 49 = 80 by kernel_rfl] at h6
  exact ⟨by omega, by omega, hz, by omega, hx⟩
theorem nodup_inj {α β : Type} (f : α → β) : ∀ l : List α, (l.map f).Nodup → ∀ x ∈ l, ∀ y ∈ l, f x = f y → x = y
  | [], _, x, hx, _, _, _ => by cases hx
  | a :: l, h, x, hx, y, hy, e => by
    rw [List.map_cons, List.nodup_cons] at h
    rcases List.mem_cons.1 hx with hx1 | hx1
    · rcases List.mem_cons.1 hy with hy1 | hy1
      · rw [hx1, hy1]
      · rw [hx1] at e
        exact absurd (List.mem_map.2 ⟨y, hy1, e.symm⟩) h.1
    · rcases List.mem_cons.1 hy with hy1 | hy1
      · rw [hy1] at e
        exact absurd (List.mem_map.2 ⟨x, hx1, e⟩) h.1
      · exact nodup_inj f l h.2 x hx1 y hy1 e
theorem reserved_parts {a b : Int} {l : List S47} (h : reservedB a b l = true) : (l.map fun x => x.f0.data.toList).Nodup ∧ (l.map fun x => x.f1).Nodup := by
  unfold reservedB hostsB at h
  simp only [Bool.and_eq_true, decide_eq_true_eq] at h
  exact ⟨h.2.1, h.2.2.2.1⟩
theorem conf_parts {a0 a1 : Int} {l2 : List Int} {l3 : List S47} {a4 : Int} {z : ByteArray} {l6 : List S49} (h : confB a0 a1 l2 l3 a4 z l6 = true) : (2 ≤ a0 ∧ a0 ≤ a1 ∧ a1 ≤ 254) ∧ reservedB a0 a1 l3 = true := by
  unfold confB at h
  simp only [Bool.and_eq_true, decide_eq_true_eq] at h
  exact ⟨⟨h.1.1.1, h.1.1.2.1, h.1.1.2.2.1⟩, h.2.2.2.1⟩
theorem host_eq (a : Int) (h : -9223372036854775808 ≤ a ∧ a ≤ 9223372036854775807) : conf_Host.f a = some (if 167772160 < a ∧ a < 167772415 then a - 167772160 else 0) := by
  unfold conf_Host.f wrap64
  repeat' split
  all_goals first
    | rfl
    | (congr 1; omega)
    | (exfalso; omega)
/-- addresses of other nets are no hosts; hosts that are none have no address. -/
theorem ConfHosts : pinfoldlaw11_ConfHosts.Pure := by
  intro a0 a1 h0 h1
  have b0 := int_bd h0
  refine ⟨1, ?_⟩
  unfold pinfoldlaw11_ConfHosts.f
  rw [awake_eq, Option.bind_some, if_pos rfl, and_1023]
  have hm : 0 ≤ a1 % 1024 ∧ a1 % 1024 < 1024 := by omega
  generalize a1 % 1024 = d at hm
  have e1 : conf_Address.f (wrap64 (1 - wrap64 (1 + d))) = some (0, 1100) := by
    rw [w64 (a := 1 + d) (by omega), w64 (by omega)]
    unfold conf_Address.f
    rw [if_pos (by omega)]
  have e2 : conf_Address.f (wrap64 (254 + wrap64 (1 + d))) = some (0, 1100) := by
    rw [w64 (a := 1 + d) (by omega), w64 (by omega)]
    unfold conf_Address.f
    rw [if_neg (by omega), if_pos (by omega)]
  rw [e1, e2, host_eq a0 b0]
  simp only [Option.bind_some]
  have h3 : conf_Host.f 167772160 = some 0 := by kernel_rfl
  have h4 : conf_Host.f 167772415 = some 0 := by kernel_rfl
  by_cases q : 167772160 < a0 ∧ a0 < 167772415
  · rw [if_pos q, if_pos (by omega), decide_eq_true q.2, pinfoldlaw11_ConfHosts.j0]
    have hne : (a0 - 167772160 != 0) = true := by simp; omega
    simp only [pinfoldlaw0_Num.f, Option.bind_some, if_true, h3, h4, hne, beq_self_eq_true]
    rw [if_pos (w64 (by omega)).symm]
  · rw [if_neg q]
    have hj : pinfoldlaw11_ConfHosts.j0 1 a0 1100 1100 0 false = some true := by
      rw [pinfoldlaw11_ConfHosts.j0]
      simp only [pinfoldlaw0_Num.f, Option.bind_some, if_true, h3, h4]
      rfl
    by_cases q2 : a0 > 167772160
    · rw [if_pos q2, decide_eq_false (by omega)]
      exact hj
    · rw [if_neg q2]
      exact hj

end Go.Proofs.YtnjnfpnkcapilaaDoor.Pure
