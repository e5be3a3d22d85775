-- Made by wip/pr.py out of the translation (a turned copy of the kit's print; contracts by hand where said).
import Derived.Test.YtnjnfpnkcapilaaDoorPConfsx0
import Derived.Test.YtnjnfpnkcapilaaDoorPConfsx3
import Derived.Test.YtnjnfpnkcapilaaDoorPConfsx4
import Derived.Test.YtnjnfpnkcapilaaDoorPConfsx5
import Derived.Test.YtnjnfpnkcapilaaDoorPConfsx6
import Derived.Test.YtnjnfpnkcapilaaDoorPConfsx7
namespace Go.Proofs.YtnjnfpnkcapilaaDoor.PConfs
open Go.RowKit Go.Proofs.YtnjnfpnkcapilaaDoorW.PrintWords Go.Proofs.YtnjnfpnkcapilaaDoorW.PrintLast Go.Proofs.YtnjnfpnkcapilaaDoorW.PrintMore
attribute [local go_sem] max2_int min2_int max_two min_two max_three min_three max_four min_four   -- for this text's walks alone
set_option linter.unusedVariables false
set_option linter.unusedSimpArgs false

/-! ### pinfoldref11_ConfMay: function 21 -/
-- BY HAND
-- 46 47 48 49
/-- how long the parts of a configuration may be, that the document's own answer reaches. -/
def confFitR (l2 : List Int) (l3 : List S47) (z : ByteArray) (l6 : List S49) : Prop := l2.length ≤ 140737488351232 ∧ l3.length ≤ 5864062014805 ∧ z.size ≤ 8796093022000 ∧ l6.length ≤ 140737488351232 ∧ ∀ x ∈ l6, x.f0.size ≤ 8796093022000 ∧ x.f4.size ≤ 8796093022000
instance (l2 : List Int) (l3 : List S47) (z : ByteArray) (l6 : List S49) : Decidable (confFitR l2 l3 z l6) := by unfold confFitR; infer_instance
theorem rd_take_succ (l : List Int) (i : Nat) (h : i < l.length) : l.take (i + 1) = l.take i ++ [rd l (i : Int)] := by
  rw [List.take_succ_eq_append_getElem h]
  unfold rd
  rw [Int.toNat_natCast, List.getD_eq_getElem?_getD, List.getElem?_eq_getElem h]
  rfl
theorem mem_take_rd (l : List Int) (i : Nat) (x : Int) (hx : x ∈ l.take i) : ∃ j : Nat, j < i ∧ j < l.length ∧ rd l (j : Int) = x := by
  obtain ⟨j, hj, e⟩ := List.getElem_of_mem hx
  rw [List.length_take] at hj
  rw [List.getElem_take] at e
  refine ⟨j, by omega, by omega, ?_⟩
  unfold rd
  rw [Int.toNat_natCast, List.getD_eq_getElem?_getD, List.getElem?_eq_getElem (by omega)]
  exact e
theorem nodup_snoc {α : Type} (l : List α) (x : α) (h : l.Nodup) (hx : x ∉ l) : (l ++ [x]).Nodup := by
  unfold List.Nodup at h ⊢
  rw [List.pairwise_append]
  refine ⟨h, List.pairwise_singleton _ _, fun a ha b hb => ?_⟩
  rw [List.mem_singleton] at hb
  subst hb
  exact fun e => hx (e ▸ ha)
theorem not_nodup {α : Type} (l : List α) (i j : Nat) (h : j < i) (hi : i < l.length) (e : l[j] = l[i]) : ¬ l.Nodup := fun hn => by
  unfold List.Nodup at hn
  rw [List.pairwise_iff_getElem] at hn
  exact hn j i (by omega) hi h e
section
variable {r : Bool} {a0 a1 : Int} {l2 : List Int} {l3 : List S47} {a4 : Int} {z : ByteArray} {l6 : List S49} {n5 : Bool} {L : List ByteArray}
theorem conf_no (h5 : nameB (bytesOf z) = n5) (hL : labelsS z = L) (HR : confB a0 a1 l2 l3 a4 z l6 = r) (e : ¬ (2 ≤ a0 ∧ a0 ≤ a1 ∧ a1 ≤ 254 ∧ a1 - a0 < 8 ∧ l2.length ≤ 8 ∧ l3.length ≤ 4 ∧ 1 ≤ a4 ∧ a4 ≤ 1048576 ∧ z.toList ≠ [] ∧ n5 = true ∧ L.length ≤ 4 ∧ l6.length ≤ 8)) : false = r := by
  rw [← HR]
  symm
  rw [Bool.eq_false_iff]
  intro e2
  unfold confB hostsB reservedB staticsB hostsB at e2
  rw [h5, hL] at e2
  simp only [Bool.and_eq_true, decide_eq_true_eq, List.length_map] at e2
  exact e ⟨e2.1.1.1, e2.1.1.2.1, e2.1.1.2.2.1, e2.1.1.2.2.2, by omega, by omega, e2.2.1.1, e2.2.1.2, e2.1.2.1, e2.1.2.2.1, e2.1.2.2.2, by omega⟩
/-- what the loops ask. -/
def hostsIn (a b : Int) (l : List Int) : Prop := (∀ x ∈ l, a ≤ x ∧ x ≤ b) ∧ l.Nodup
def resIn (a b : Int) (l : List S47) : Prop := (∀ x ∈ l, a ≤ x.f1 ∧ x.f1 ≤ b ∧ clientB x.f0 = true) ∧ (l.map fun x => x.f1).Nodup ∧ (l.map fun x => x.f0.data.toList).Nodup
theorem conf_yes (h5 : nameB (bytesOf z) = n5) (hL : labelsS z = L) (HR : confB a0 a1 l2 l3 a4 z l6 = r) (e : 2 ≤ a0 ∧ a0 ≤ a1 ∧ a1 ≤ 254 ∧ a1 - a0 < 8 ∧ l2.length ≤ 8 ∧ l3.length ≤ 4 ∧ 1 ≤ a4 ∧ a4 ≤ 1048576 ∧ z.toList ≠ [] ∧ n5 = true ∧ L.length ≤ 4 ∧ l6.length ≤ 8) : r = true ↔ hostsIn a0 a1 l2 ∧ resIn a0 a1 l3 ∧ l6.all (staticB z) = true := by
  rw [← HR]
  unfold confB hostsB reservedB staticsB hostsB hostsIn resIn
  rw [h5, hL]
  simp only [Bool.and_eq_true, decide_eq_true_eq, List.length_map, List.all_eq_true, List.mem_map]
  constructor
  · rintro ⟨_, _, ⟨h1, h2, _⟩, ⟨h3, h4, h6, h7, _⟩, h8, _⟩
    exact ⟨⟨h1, h2⟩, ⟨fun x hx => ⟨(h6 _ ⟨x, hx, rfl⟩).1, (h6 _ ⟨x, hx, rfl⟩).2, h3 x hx⟩, h7, h4⟩, h8⟩
  · rintro ⟨⟨h1, h2⟩, ⟨h3, h4, h6⟩, h7⟩
    refine ⟨⟨⟨e.1, e.2.1, e.2.2.1, e.2.2.2.1⟩, e.2.2.2.2.2.2.2.2.1, e.2.2.2.2.2.2.2.2.2.1, e.2.2.2.2.2.2.2.2.2.2.1⟩, ⟨e.2.2.2.2.2.2.1, e.2.2.2.2.2.2.2.1⟩, ⟨h1, h2, by omega⟩, ⟨fun x hx => (h3 x hx).2.2, h6, ?_, h4, by omega⟩, h7, by omega⟩
    rintro _ ⟨x, hx, rfl⟩
    exact ⟨(h3 x hx).1, (h3 x hx).2.1⟩
end
theorem no_of {r : Bool} {p : Prop} (h : r = true ↔ p) (hn : ¬ p) : false = r := by
  cases r with
  | false => rfl
  | true => exact absurd (h.1 rfl) hn
theorem hosts_take {a b : Int} (l : List Int) (i : Int) (h0 : 0 ≤ i) (h1 : i < l.length) : (hostsIn a b l → (a ≤ rd l i ∧ rd l i ≤ b) ∧ rd l i ∉ l.take i.toNat) ∧ (hostsIn a b (l.take i.toNat) → a ≤ rd l i ∧ rd l i ≤ b → rd l i ∉ l.take i.toNat → hostsIn a b (l.take (i.toNat + 1))) := by
  have h : i.toNat < l.length := by omega
  have e : rd l i = l[i.toNat] := by
    unfold rd
    rw [List.getD_eq_getElem?_getD, List.getElem?_eq_getElem h]
    rfl
  have et : l.take (i.toNat + 1) = l.take i.toNat ++ [rd l i] := by rw [e, List.take_succ_eq_append_getElem h]
  refine ⟨fun hh => ⟨hh.1 _ (by rw [e]; exact List.getElem_mem h), fun hm => ?_⟩, fun hh hr hn => ?_⟩
  · have h3 : (l.take (i.toNat + 1)).Nodup := hh.2.sublist (List.take_sublist _ _)
    rw [et] at h3
    unfold List.Nodup at h3
    rw [List.pairwise_append] at h3
    exact h3.2.2 _ hm _ (List.mem_singleton.2 rfl) rfl
  · rw [et]
    refine ⟨fun y hy => ?_, nodup_snoc _ _ hh.2 hn⟩
    rw [List.mem_append, List.mem_singleton] at hy
    rcases hy with hy | rfl
    · exact hh.1 y hy
    · exact hr
theorem take_rd (l : List Int) (j : Int) (h0 : 0 ≤ j) (h1 : j < l.length) : l.take (j.toNat + 1) = l.take j.toNat ++ [rd l j] := by
  have h : j.toNat < l.length := by omega
  have e := rd_take_succ l j.toNat h
  rw [Int.toNat_of_nonneg h0] at e
  exact e
theorem take_mem (l : List Int) (i j : Int) (h0 : 0 ≤ j) (h : j < i) (h1 : i ≤ l.length) : rd l j ∈ l.take i.toNat := by
  have hj : j.toNat < l.length := by omega
  have e : rd l j = l[j.toNat] := by
    unfold rd
    rw [List.getD_eq_getElem?_getD, List.getElem?_eq_getElem hj]
    rfl
  rw [e, List.mem_take_iff_getElem]
  exact ⟨j.toNat, by omega, rfl⟩
theorem rdR_eq (l : List S47) (j : Int) (h0 : 0 ≤ j) (h1 : j < l.length) : rd_T47 l j = l[j.toNat]'(by omega) := by
  unfold rd_T47
  rw [List.getD_eq_getElem?_getD, List.getElem?_eq_getElem (by omega)]
  rfl
theorem takeR_rd (l : List S47) (j : Int) (h0 : 0 ≤ j) (h1 : j < l.length) : l.take (j.toNat + 1) = l.take j.toNat ++ [rd_T47 l j] := by
  rw [rdR_eq l j h0 h1, List.take_succ_eq_append_getElem (by omega)]
theorem takeR_mem (l : List S47) (i j : Int) (h0 : 0 ≤ j) (h : j < i) (h1 : i ≤ l.length) : rd_T47 l j ∈ l.take i.toNat := by
  rw [rdR_eq l j h0 (by omega), List.mem_take_iff_getElem]
  exact ⟨j.toNat, by omega, rfl⟩
theorem res_take {a b : Int} (l : List S47) (i : Int) (h0 : 0 ≤ i) (h1 : i < l.length) : (resIn a b l → (a ≤ (rd_T47 l i).f1 ∧ (rd_T47 l i).f1 ≤ b ∧ clientB (rd_T47 l i).f0 = true) ∧ ∀ y ∈ l.take i.toNat, y.f1 ≠ (rd_T47 l i).f1 ∧ y.f0.data.toList ≠ (rd_T47 l i).f0.data.toList) ∧ (resIn a b (l.take i.toNat) → (a ≤ (rd_T47 l i).f1 ∧ (rd_T47 l i).f1 ≤ b ∧ clientB (rd_T47 l i).f0 = true) → (∀ y ∈ l.take i.toNat, y.f1 ≠ (rd_T47 l i).f1 ∧ y.f0.data.toList ≠ (rd_T47 l i).f0.data.toList) → resIn a b (l.take (i.toNat + 1))) := by
  have et := takeR_rd l i h0 h1
  have hm : rd_T47 l i ∈ l := by rw [rdR_eq l i h0 h1]; exact List.getElem_mem _
  generalize rd_T47 l i = x at et hm
  refine ⟨fun hh => ⟨hh.1 _ hm, fun y hy => ⟨fun e => ?_, fun e => ?_⟩⟩, fun hh hr hn => ?_⟩
  · have h3 : ((l.take (i.toNat + 1)).map fun x => x.f1).Nodup := hh.2.1.sublist ((List.take_sublist _ _).map _)
    rw [et, List.map_append] at h3
    unfold List.Nodup at h3
    rw [List.pairwise_append] at h3
    exact h3.2.2 _ (List.mem_map.2 ⟨y, hy, rfl⟩) _ (List.mem_map.2 ⟨x, List.mem_singleton.2 rfl, rfl⟩) e
  · have h3 : ((l.take (i.toNat + 1)).map fun x => x.f0.data.toList).Nodup := hh.2.2.sublist ((List.take_sublist _ _).map _)
    rw [et, List.map_append] at h3
    unfold List.Nodup at h3
    rw [List.pairwise_append] at h3
    exact h3.2.2 _ (List.mem_map.2 ⟨y, hy, rfl⟩) _ (List.mem_map.2 ⟨x, List.mem_singleton.2 rfl, rfl⟩) e
  · rw [et]
    refine ⟨fun y hy => ?_, ?_, ?_⟩
    · rw [List.mem_append, List.mem_singleton] at hy
      rcases hy with hy | rfl
      · exact hh.1 y hy
      · exact hr
    · rw [List.map_append]
      exact nodup_snoc _ _ hh.2.1 (fun hx => by obtain ⟨y, hy, e⟩ := List.mem_map.1 hx; exact (hn y hy).1 e)
    · rw [List.map_append]
      exact nodup_snoc _ _ hh.2.2 (fun hx => by obtain ⟨y, hy, e⟩ := List.mem_map.1 hx; exact (hn y hy).2 e)
theorem clientMay_eq (s : ByteArray) : pinfoldref11_clientMay.f s = some (clientB s) := by
  unfold pinfoldref11_clientMay.f clientB
  by_cases h1 : (s.size : Int) ≥ 1
  · rw [if_pos h1, Option.some.injEq, decide_eq_decide]
    omega
  · rw [if_neg h1, Option.some.injEq, eq_comm, decide_eq_false_iff_not]
    omega
/-- where a record, a zone's name and the records lie. -/
def confMayS (p q0 q1 q2 q3 q4 q5 q6 : Addr) (f0 : ByteArray) (f1 f2 f3 : Int) (f4 f5 : ByteArray) (f6 : Int) (g : Nat) (z : ByteArray) (v6 : Value) (w' : World) : Prop := w'.cell? q0 = some (.string f0) ∧ w'.cell? q1 = some (.int .i64 f1) ∧ w'.cell? q2 = some (.int .i64 f2) ∧ w'.cell? q3 = some (.int .i64 f3) ∧ w'.cell? q4 = some (.string f4) ∧ w'.cell? q5 = some (.string f5) ∧ w'.cell? q6 = some (.int .i64 f6) ∧ w'.cell? ⟨g, 5, none⟩ = some (.string z) ∧ w'.cell? ⟨g, 6, none⟩ = some v6
theorem confMayS_below {p q0 q1 q2 q3 q4 q5 q6 : Addr} {f0 : ByteArray} {f1 f2 f3 : Int} {f4 f5 : ByteArray} {f6 : Int} {g : Nat} {z : ByteArray} {v6 : Value} {w w2 : World} (h : confMayS p q0 q1 q2 q3 q4 q5 q6 f0 f1 f2 f3 f4 f5 f6 g z v6 w) (hb : Below w.heap.size w w2) : confMayS p q0 q1 q2 q3 q4 q5 q6 f0 f1 f2 f3 f4 f5 f6 g z v6 w2 := by
  obtain ⟨s0, s1, s2, s3, s4, s5, s6, s7, s8⟩ := h
  exact ⟨(hb.cell (World.block_lt_of_cell? _ _ s0)).trans s0, (hb.cell (World.block_lt_of_cell? _ _ s1)).trans s1, (hb.cell (World.block_lt_of_cell? _ _ s2)).trans s2, (hb.cell (World.block_lt_of_cell? _ _ s3)).trans s3, (hb.cell (World.block_lt_of_cell? _ _ s4)).trans s4, (hb.cell (World.block_lt_of_cell? _ _ s5)).trans s5, (hb.cell (World.block_lt_of_cell? _ _ s6)).trans s6, (hb.cell (World.block_lt_of_cell? _ _ s7)).trans s7, (hb.cell (World.block_lt_of_cell? _ _ s8)).trans s8⟩
theorem rdS_eq (l : List S49) (j : Int) (h0 : 0 ≤ j) (h1 : j < l.length) : l.take (j.toNat + 1) = l.take j.toNat ++ [rd_T49 l j] ∧ rd_T49 l j ∈ l := by
  have e : rd_T49 l j = l[j.toNat]'(by omega) := by
    unfold rd_T49
    rw [List.getD_eq_getElem?_getD, List.getElem?_eq_getElem (by omega)]
    rfl
  rw [e, List.take_succ_eq_append_getElem (by omega)]
  exact ⟨rfl, List.getElem_mem _⟩
def pinfoldref11_ConfMay.f (a0_0 : Int) (a0_1 : Int) (l0_2 : List Int) (l0_3 : List S47) (a0_4 : Int) (a0_5 : ByteArray) (l0_6 : List S49) : Option Bool := if confFitR l0_2 l0_3 a0_5 l0_6 then some (confB a0_0 a0_1 l0_2 l0_3 a0_4 a0_5 l0_6) else none
set_option maxHeartbeats 8000000 in
set_option maxRecDepth 100000 in
/-- what may not be, ahead of the loops. -/
theorem pinfoldref11_ConfMay.no (a0_0 : Int) (a0_1 : Int) (A0_2 : Option Addr) (c0_2 : Nat) (l0_2 : List Int) (A0_3 : Option Addr) (c0_3 : Nat) (l0_3 : List S47) (a0_4 : Int) (a0_5 : ByteArray) (A0_6 : Option Addr) (c0_6 : Nat) (l0_6 : List S49) (w : World) (n5 : Bool) (L : List ByteArray) (fz : a0_5.size ≤ 8796093022000) (h5 : nameB (bytesOf a0_5) = n5) (hL : labelsS a0_5 = L) (hq : ¬ (2 ≤ a0_0 ∧ a0_0 ≤ a0_1 ∧ a0_1 ≤ 254 ∧ a0_1 - a0_0 < 8 ∧ l0_2.length ≤ 8 ∧ l0_3.length ≤ 4 ∧ 1 ≤ a0_4 ∧ a0_4 ≤ 1048576 ∧ a0_5.toList ≠ [] ∧ n5 = true ∧ L.length ≤ 4 ∧ l0_6.length ≤ 8)) :
    Calls Tryd.prog 21 #[.agg #[.int .i64 a0_0, .int .i64 a0_1, .slice A0_2 l0_2.length c0_2, .slice A0_3 l0_3.length c0_3, .int .i64 a0_4, .string a0_5, .slice A0_6 l0_6.length c0_6]] w fun e w' => e = .returned (.bool false) ∧ Below w.heap.size w w' := by
  have CN := Aside0.mk (fun W => pinfoldref1_NameMay_c.calls a0_5 n5 W (by unfold pinfoldref1_NameMay_c.f; rw [if_pos (by omega), h5]))
  have CL := Aside0.mk (fun W => pinfoldref1_Labels_c.calls a0_5 L W (by unfold pinfoldref1_Labels_c.f; rw [if_pos (by omega), hL]))
  have HB := Aside0.mk (Below.refl w.heap.size w)
  have BK := Aside0.mk (blk_new w (.cells #[.int .i64 a0_0, .int .i64 a0_1, .slice A0_2 l0_2.length c0_2, .slice A0_3 l0_3.length c0_3, .int .i64 a0_4, .string a0_5, .slice A0_6 l0_6.length c0_6] 26))
  replace hq := Aside0.mk hq
  clear h5 hL fz
  by_cases c1 : a0_0 < 2
  · clear hq CN CL BK
    go_enter Tryd.func21, Tryd.ntmps21
    go_wp2
    go_ret
    exact ⟨rfl, (by repeat (with_reducible first | exact HB.out | apply below_alloc | apply pw_below_drewN | apply below_drew1))⟩
  by_cases c2 : 254 < a0_1
  · clear hq CN CL BK
    go_enter Tryd.func21, Tryd.ntmps21
    go_wp2
    go_ret
    exact ⟨rfl, (by repeat (with_reducible first | exact HB.out | apply below_alloc | apply pw_below_drewN | apply below_drew1))⟩
  by_cases c3 : a0_1 < a0_0
  · clear hq CN CL BK
    go_enter Tryd.func21, Tryd.ntmps21
    go_wp2
    go_ret
    exact ⟨rfl, (by repeat (with_reducible first | exact HB.out | apply below_alloc | apply pw_below_drewN | apply below_drew1))⟩
  by_cases c4 : 8 ≤ a0_1 - a0_0
  · clear hq CN CL BK
    go_enter Tryd.func21, Tryd.ntmps21
    go_wp2
    go_ret
    exact ⟨rfl, (by repeat (with_reducible first | exact HB.out | apply below_alloc | apply pw_below_drewN | apply below_drew1))⟩
  by_cases c5 : (8 : Int) < (l0_2.length : Int)
  · clear hq CN CL BK
    go_enter Tryd.func21, Tryd.ntmps21
    go_wp2
    go_ret
    exact ⟨rfl, (by repeat (with_reducible first | exact HB.out | apply below_alloc | apply pw_below_drewN | apply below_drew1))⟩
  by_cases c6 : (4 : Int) < (l0_3.length : Int)
  · clear hq CN CL BK
    go_enter Tryd.func21, Tryd.ntmps21
    go_wp2
    go_ret
    exact ⟨rfl, (by repeat (with_reducible first | exact HB.out | apply below_alloc | apply pw_below_drewN | apply below_drew1))⟩
  by_cases c7 : a0_4 < 1
  · clear hq CN CL BK
    go_enter Tryd.func21, Tryd.ntmps21
    go_wp2
    go_ret
    exact ⟨rfl, (by repeat (with_reducible first | exact HB.out | apply below_alloc | apply pw_below_drewN | apply below_drew1))⟩
  by_cases c8 : 1048576 < a0_4
  · clear hq CN CL BK
    go_enter Tryd.func21, Tryd.ntmps21
    go_wp2
    go_ret
    exact ⟨rfl, (by repeat (with_reducible first | exact HB.out | apply below_alloc | apply pw_below_drewN | apply below_drew1))⟩
  by_cases c9 : a0_5.toList = []
  · clear hq CN CL BK
    have c9b : a0_5.toList.isEmpty = true := by simp [c9]
    go_enter Tryd.func21, Tryd.ntmps21
    go_wp2
    go_ret
    exact ⟨rfl, (by repeat (with_reducible first | exact HB.out | apply below_alloc | apply pw_below_drewN | apply below_drew1))⟩
  have c9b : a0_5.toList.isEmpty = false := by simpa using c9
  cases n5 with
  | false =>
    clear hq CL
    go_enter Tryd.func21, Tryd.ntmps21
    go_wp2_with (first | (go_at_call 46; (with_reducible refine (CN.out _).mono ?_); rintro e w1 ⟨rfl, hb2⟩; replace BK := Aside0.mk (blk_below (blk_new w (.cells #[.int .i64 a0_0, .int .i64 a0_1, .slice A0_2 l0_2.length c0_2, .slice A0_3 l0_3.length c0_3, .int .i64 a0_4, .string a0_5, .slice A0_6 l0_6.length c0_6] 26)) hb2); replace HB := Aside0.mk (below_step (below_alloc HB.out (.cells #[.int .i64 a0_0, .int .i64 a0_1, .slice A0_2 l0_2.length c0_2, .slice A0_3 l0_3.length c0_3, .int .i64 a0_4, .string a0_5, .slice A0_6 l0_6.length c0_6] 26)) hb2); clear hb2; have u0 := blk_cell BK.out 0; have u1 := blk_cell BK.out 1; have u2 := blk_cell BK.out 2; have u3 := blk_cell BK.out 3; have u4 := blk_cell BK.out 4; have u5 := blk_cell BK.out 5; have u6 := blk_cell BK.out 6))
    go_ret
    exact ⟨rfl, (by repeat (with_reducible first | exact HB.out | apply below_alloc | apply pw_below_drewN | apply below_drew1))⟩
  | true =>
  by_cases c11 : (4 : Int) < (L.length : Int)
  · clear hq
    go_enter Tryd.func21, Tryd.ntmps21
    go_wp2_with (first | (go_at_call 46; (with_reducible refine (CN.out _).mono ?_); rintro e w1 ⟨rfl, hb2⟩; replace BK := Aside0.mk (blk_below (blk_new w (.cells #[.int .i64 a0_0, .int .i64 a0_1, .slice A0_2 l0_2.length c0_2, .slice A0_3 l0_3.length c0_3, .int .i64 a0_4, .string a0_5, .slice A0_6 l0_6.length c0_6] 26)) hb2); replace HB := Aside0.mk (below_step (below_alloc HB.out (.cells #[.int .i64 a0_0, .int .i64 a0_1, .slice A0_2 l0_2.length c0_2, .slice A0_3 l0_3.length c0_3, .int .i64 a0_4, .string a0_5, .slice A0_6 l0_6.length c0_6] 26)) hb2); clear hb2; have u0 := blk_cell BK.out 0; have u1 := blk_cell BK.out 1; have u2 := blk_cell BK.out 2; have u3 := blk_cell BK.out 3; have u4 := blk_cell BK.out 4; have u5 := blk_cell BK.out 5; have u6 := blk_cell BK.out 6) | (go_at_call 47; (with_reducible refine (CL.out _).mono ?_); rintro e w2 ⟨v, rfl, hR, hb2⟩; obtain ⟨A, c, rfl, hcl, hCl⟩ := Kd.R_reads hR; clear hcl hCl hR; replace BK := Aside0.mk (blk_below BK.out hb2); replace HB := Aside0.mk (below_step HB.out hb2); clear hb2; clear u0 u1 u2 u3 u4 u5 u6; have u0 := blk_cell BK.out 0; have u1 := blk_cell BK.out 1; have u2 := blk_cell BK.out 2; have u3 := blk_cell BK.out 3; have u4 := blk_cell BK.out 4; have u5 := blk_cell BK.out 5; have u6 := blk_cell BK.out 6))
    go_ret
    exact ⟨rfl, (by repeat (with_reducible first | exact HB.out | apply below_alloc | apply pw_below_drewN | apply below_drew1))⟩
  by_cases c12 : (8 : Int) < (l0_6.length : Int)
  · clear hq
    go_enter Tryd.func21, Tryd.ntmps21
    go_wp2_with (first | (go_at_call 46; (with_reducible refine (CN.out _).mono ?_); rintro e w1 ⟨rfl, hb2⟩; replace BK := Aside0.mk (blk_below (blk_new w (.cells #[.int .i64 a0_0, .int .i64 a0_1, .slice A0_2 l0_2.length c0_2, .slice A0_3 l0_3.length c0_3, .int .i64 a0_4, .string a0_5, .slice A0_6 l0_6.length c0_6] 26)) hb2); replace HB := Aside0.mk (below_step (below_alloc HB.out (.cells #[.int .i64 a0_0, .int .i64 a0_1, .slice A0_2 l0_2.length c0_2, .slice A0_3 l0_3.length c0_3, .int .i64 a0_4, .string a0_5, .slice A0_6 l0_6.length c0_6] 26)) hb2); clear hb2; have u0 := blk_cell BK.out 0; have u1 := blk_cell BK.out 1; have u2 := blk_cell BK.out 2; have u3 := blk_cell BK.out 3; have u4 := blk_cell BK.out 4; have u5 := blk_cell BK.out 5; have u6 := blk_cell BK.out 6) | (go_at_call 47; (with_reducible refine (CL.out _).mono ?_); rintro e w2 ⟨v, rfl, hR, hb2⟩; obtain ⟨A, c, rfl, hcl, hCl⟩ := Kd.R_reads hR; clear hcl hCl hR; replace BK := Aside0.mk (blk_below BK.out hb2); replace HB := Aside0.mk (below_step HB.out hb2); clear hb2; clear u0 u1 u2 u3 u4 u5 u6; have u0 := blk_cell BK.out 0; have u1 := blk_cell BK.out 1; have u2 := blk_cell BK.out 2; have u3 := blk_cell BK.out 3; have u4 := blk_cell BK.out 4; have u5 := blk_cell BK.out 5; have u6 := blk_cell BK.out 6))
    go_ret
    exact ⟨rfl, (by repeat (with_reducible first | exact HB.out | apply below_alloc | apply pw_below_drewN | apply below_drew1))⟩
  exact absurd ⟨by omega, by omega, by omega, by omega, by omega, by omega, by omega, by omega, c9, rfl, by omega, by omega⟩ hq.out
set_option maxHeartbeats 8000000 in
set_option maxRecDepth 100000 in
theorem pinfoldref11_ConfMay.calls (a0_0 : Int) (a0_1 : Int) (A0_2 : Option Addr) (c0_2 : Nat) (l0_2 : List Int) (A0_3 : Option Addr) (c0_3 : Nat) (l0_3 : List S47) (a0_4 : Int) (a0_5 : ByteArray) (A0_6 : Option Addr) (c0_6 : Nat) (l0_6 : List S49) (r : Bool) (w : World) (hr0_2 : Kd.C (Kd.int .i64) w A0_2 l0_2.length l0_2) (hc0_2 : l0_2.length ≤ c0_2) (hr0_3 : Kd.C k47 w A0_3 l0_3.length l0_3) (hc0_3 : l0_3.length ≤ c0_3) (hr0_6 : Kd.C k49 w A0_6 l0_6.length l0_6) (hc0_6 : l0_6.length ≤ c0_6) (h : pinfoldref11_ConfMay.f a0_0 a0_1 l0_2 l0_3 a0_4 a0_5 l0_6 = some r) :
    Calls Tryd.prog 21 #[.agg #[.int .i64 a0_0, .int .i64 a0_1, .slice A0_2 l0_2.length c0_2, .slice A0_3 l0_3.length c0_3, .int .i64 a0_4, .string a0_5, .slice A0_6 l0_6.length c0_6]] w fun e w' => e = .returned (.bool r) ∧ Below w.heap.size w w' := by
  unfold pinfoldref11_ConfMay.f at h
  by_cases hs : confFitR l0_2 l0_3 a0_5 l0_6
  rotate_left
  · rw [if_neg hs] at h
    cases h
  rw [if_pos hs] at h
  have HR := Option.some.inj h
  obtain ⟨f2, f3, fz, f6, fx⟩ := hs
  obtain ⟨n5, h5⟩ : ∃ b, nameB (bytesOf a0_5) = b := ⟨_, rfl⟩
  obtain ⟨L, hL⟩ : ∃ b, labelsS a0_5 = b := ⟨_, rfl⟩
  by_cases hq : 2 ≤ a0_0 ∧ a0_0 ≤ a0_1 ∧ a0_1 ≤ 254 ∧ a0_1 - a0_0 < 8 ∧ l0_2.length ≤ 8 ∧ l0_3.length ≤ 4 ∧ 1 ≤ a0_4 ∧ a0_4 ≤ 1048576 ∧ a0_5.toList ≠ [] ∧ n5 = true ∧ L.length ≤ 4 ∧ l0_6.length ≤ 8
  rotate_left
  · have hf := conf_no (r := r) h5 hL HR hq
    refine (pinfoldref11_ConfMay.no a0_0 a0_1 A0_2 c0_2 l0_2 A0_3 c0_3 l0_3 a0_4 a0_5 A0_6 c0_6 l0_6 w n5 L fz h5 hL hq).mono ?_
    rintro e w' ⟨rfl, hb⟩
    exact ⟨ret_bool hf, hb⟩
  have q2 := conf_yes (r := r) h5 hL HR hq
  obtain ⟨c1, c2, c3, c4, c5, c6, c7, c8, c9, rfl, c11, c12⟩ := hq
  have CN := Aside0.mk (fun W => pinfoldref1_NameMay_c.calls a0_5 true W (by unfold pinfoldref1_NameMay_c.f; rw [if_pos (by omega), h5]))
  have CL := Aside0.mk (fun W => pinfoldref1_Labels_c.calls a0_5 L W (by unfold pinfoldref1_Labels_c.f; rw [if_pos (by omega), hL]))
  have HR2 := Aside0.mk hr0_2
  have HR3 := Aside0.mk hr0_3
  have HR6 := Aside0.mk hr0_6
  have HF := Aside0.mk (And.intro fz fx)
  replace q2 := Aside0.mk q2
  have HB := Aside0.mk (Below.refl w.heap.size w)
  have BK := Aside0.mk (blk_new w (.cells #[.int .i64 a0_0, .int .i64 a0_1, .slice A0_2 l0_2.length c0_2, .slice A0_3 l0_3.length c0_3, .int .i64 a0_4, .string a0_5, .slice A0_6 l0_6.length c0_6] 26))
  clear h5 hL HR h hr0_2 hr0_3 hr0_6 hc0_2 hc0_3 hc0_6 f2 f3 fz f6 fx
  replace c1 : ¬ a0_0 < 2 := by omega
  replace c3 : ¬ 254 < a0_1 := by omega
  replace c2 : ¬ a0_1 < a0_0 := by omega
  replace c4 : ¬ 8 ≤ a0_1 - a0_0 := by omega
  replace c5 : ¬ (8 : Int) < (l0_2.length : Int) := by omega
  replace c6 : ¬ (4 : Int) < (l0_3.length : Int) := by omega
  replace c7 : ¬ a0_4 < 1 := by omega
  replace c8 : ¬ 1048576 < a0_4 := by omega
  replace c11 : ¬ (4 : Int) < (L.length : Int) := by omega
  replace c12 : ¬ (8 : Int) < (l0_6.length : Int) := by omega
  have c9b : a0_5.toList.isEmpty = false := by simpa using c9
  go_enter Tryd.func21, Tryd.ntmps21
  go_wp2_with (first | (go_at_call 46; (with_reducible refine (CN.out _).mono ?_); rintro e w1 ⟨rfl, hb2⟩; replace BK := Aside0.mk (blk_below (blk_new w (.cells #[.int .i64 a0_0, .int .i64 a0_1, .slice A0_2 l0_2.length c0_2, .slice A0_3 l0_3.length c0_3, .int .i64 a0_4, .string a0_5, .slice A0_6 l0_6.length c0_6] 26)) hb2); replace HB := Aside0.mk (below_step (below_alloc HB.out (.cells #[.int .i64 a0_0, .int .i64 a0_1, .slice A0_2 l0_2.length c0_2, .slice A0_3 l0_3.length c0_3, .int .i64 a0_4, .string a0_5, .slice A0_6 l0_6.length c0_6] 26)) hb2); clear hb2; have u0 := blk_cell BK.out 0; have u1 := blk_cell BK.out 1; have u2 := blk_cell BK.out 2; have u3 := blk_cell BK.out 3; have u4 := blk_cell BK.out 4; have u5 := blk_cell BK.out 5; have u6 := blk_cell BK.out 6) | (go_at_call 47; (with_reducible refine (CL.out _).mono ?_); rintro e w2 ⟨v, rfl, hR, hb2⟩; obtain ⟨A, c, rfl, hcl, hCl⟩ := Kd.R_reads hR; clear hcl hCl hR; replace BK := Aside0.mk (blk_below BK.out hb2); replace HB := Aside0.mk (below_step HB.out hb2); clear hb2; clear u0 u1 u2 u3 u4 u5 u6; have u0 := blk_cell BK.out 0; have u1 := blk_cell BK.out 1; have u2 := blk_cell BK.out 2; have u3 := blk_cell BK.out 3; have u4 := blk_cell BK.out 4; have u5 := blk_cell BK.out 5; have u6 := blk_cell BK.out 6))
  clear u0 u1 u2 u3 u4 u5 u6 CN CL
  clear c1 c2 c3 c4 c7 c8 c9 c9b c11
  go_loopg [3] l0_2.length (fun d v3 w' => ∃ i : Int, 0 ≤ i ∧ i.toNat + d = l0_2.length ∧ v3 = .int .i64 i ∧ Aside0 (Below w.heap.size w w') ∧ Aside0 (w'.heap[w.heap.size]? = some (.cells #[.int .i64 a0_0, .int .i64 a0_1, .slice A0_2 l0_2.length c0_2, .slice A0_3 l0_3.length c0_3, .int .i64 a0_4, .string a0_5, .slice A0_6 l0_6.length c0_6] 26)) ∧ Aside0 (hostsIn a0_0 a0_1 (l0_2.take i.toNat)))
  case atStart => exact ⟨0, by omega, by simp, rfl, HB, BK, ⟨⟨fun _ h => by simp at h, List.nodup_nil⟩⟩⟩
  case round =>
    clear HB BK
    obtain ⟨i, hi0, hd, rfl, HB, BK, HI⟩ := hrel
    by_cases hlt : i < (l0_2.length : Int)
    · have u0 := (blk_cell BK.out 0).trans (show _ = some _ from rfl); have u1 := (blk_cell BK.out 1).trans (show _ = some _ from rfl); have u2 := (blk_cell BK.out 2).trans (show _ = some _ from rfl); have u3 := (blk_cell BK.out 3).trans (show _ = some _ from rfl); have u4 := (blk_cell BK.out 4).trans (show _ = some _ from rfl); have u5 := (blk_cell BK.out 5).trans (show _ = some _ from rfl); have u6 := (blk_cell BK.out 6).trans (show _ = some _ from rfl)
      obtain ⟨ad, e1, hx0⟩ := Kd.at_int HR2.out i hi0 hlt
      cases e1
      have hxw := Aside0.mk hx0
      replace hx0 := (HB.out.cell (World.block_lt_of_cell? w _ hx0)).trans hx0
      have hfx := hosts_take (a := a0_0) (b := a0_1) l0_2 i hi0 hlt
      generalize rd l0_2 i = x at hx0 hxw hfx
      replace hfx := Aside0.mk hfx
      by_cases d1 : x < a0_0
      · have hf := Aside0.mk (show false = r from no_of q2.out (fun e => by have := (hfx.out.1 e.1).1; omega))
        clear q2 HR2 HR3 HR6 HF hfx hxw
        go_wp2
        go_quiet (fail)
        go_wp2
        go_ret
        exact ⟨ret_bool hf.out, (by repeat (with_reducible first | exact HB.out | apply below_alloc | apply pw_below_drewN | apply below_drew1))⟩
      by_cases d2 : a0_1 < x
      · have hf := Aside0.mk (show false = r from no_of q2.out (fun e => by have := (hfx.out.1 e.1).1; omega))
        clear q2 HR2 HR3 HR6 HF hfx hxw
        go_wp2
        go_quiet (fail)
        go_wp2
        go_ret
        exact ⟨ret_bool hf.out, (by repeat (with_reducible first | exact HB.out | apply below_alloc | apply pw_below_drewN | apply below_drew1))⟩
      have hin := Aside0.mk (hfx.out.2 HI.out ⟨by omega, by omega⟩)
      go_wp2
      go_quiet (fail)
      go_wp2
      clear hx0 d1 d2 u0 u1 u2 u3 u4 u5 u6
      go_loopg [4] i.toNat (fun d v4 w' => ∃ j : Int, 0 ≤ j ∧ j.toNat + d = i.toNat ∧ v4 = .int .i64 j ∧ Aside0 (Below w.heap.size w w') ∧ Aside0 (w'.heap[w.heap.size]? = some (.cells #[.int .i64 a0_0, .int .i64 a0_1, .slice (some ad) l0_2.length c0_2, .slice A0_3 l0_3.length c0_3, .int .i64 a0_4, .string a0_5, .slice A0_6 l0_6.length c0_6] 26)) ∧ Aside0 (x ∉ l0_2.take j.toNat))
      case atStart => exact ⟨0, by omega, by simp, rfl, ⟨(by repeat (with_reducible first | exact HB.out | apply below_alloc | apply pw_below_drewN | apply below_drew1))⟩, ⟨(by (with_reducible repeat (first | exact BK.out | refine blk_drewN ?_ _ | refine blk_drew ?_ | refine blk_alloc ?_ _)))⟩, ⟨by simp⟩⟩
      case round =>
        clear HB BK
        obtain ⟨j, hj0, hdj, rfl, HB, BK, HJ⟩ := hrel
        by_cases jlt : j < i
        · have u0 := (blk_cell BK.out 0).trans (show _ = some _ from rfl); have u1 := (blk_cell BK.out 1).trans (show _ = some _ from rfl); have u2 := (blk_cell BK.out 2).trans (show _ = some _ from rfl); have u3 := (blk_cell BK.out 3).trans (show _ = some _ from rfl); have u4 := (blk_cell BK.out 4).trans (show _ = some _ from rfl); have u5 := (blk_cell BK.out 5).trans (show _ = some _ from rfl); have u6 := (blk_cell BK.out 6).trans (show _ = some _ from rfl)
          obtain ⟨ad2, e2, hy0⟩ := Kd.at_int HR2.out j hj0 (by omega)
          obtain rfl := Option.some.inj e2
          clear e2
          have hx0 := (HB.out.cell (World.block_lt_of_cell? w _ hxw.out)).trans hxw.out
          replace hy0 := (HB.out.cell (World.block_lt_of_cell? w _ hy0)).trans hy0
          have htk := take_rd l0_2 j hj0 (by omega)
          have hmm := take_mem l0_2 i j hj0 jlt (by omega)
          generalize rd l0_2 j = y at hy0 htk hmm
          have jlt2 : j < (l0_2.length : Int) := by omega
          by_cases e : y = x
          · subst e
            have hf := Aside0.mk (show false = r from no_of q2.out (fun e => (hfx.out.1 e.1).2 hmm))
            clear q2 HR2 HR3 HR6 HF hfx hxw HI hin HJ htk hmm
            go_wp2
            go_quiet (fail)
            go_wp2
            go_ret
            exact ⟨ret_bool hf.out, (by repeat (with_reducible first | exact HB.out | apply below_alloc | apply pw_below_drewN | apply below_drew1))⟩
          · have HN := Aside0.mk (show x ∉ l0_2.take (j.toNat + 1) by rw [htk, List.mem_append, List.mem_singleton]; rintro (h | h); exact HJ.out h; exact e h.symm)
            clear htk hmm
            go_wp2
            go_quiet (fail)
            go_wp2
            go_roundg (i.toNat - (j.toNat + 1))
            case measure => first | omega | (simp; omega)
            case rel =>
              have e2 : (j + 1).toNat = j.toNat + 1 := by omega
              exact ⟨j + 1, by omega, by omega, by go_num, ⟨(by repeat (with_reducible first | exact HB.out | apply below_alloc | apply pw_below_drewN | apply below_drew1))⟩, ⟨(by (with_reducible repeat (first | exact BK.out | refine blk_drewN ?_ _ | refine blk_drew ?_ | refine blk_alloc ?_ _)))⟩, ⟨by rw [e2]; exact HN.out⟩⟩
        · have e3 : j.toNat = i.toNat := by omega
          have HN := Aside0.mk (hin.out (by rw [← e3]; exact HJ.out))
          clear hxw hfx hin HJ e3
          go_wp2
          go_roundg (l0_2.length - (i.toNat + 1))
          case measure => first | omega | (simp; omega)
          case rel =>
            have e2 : (i + 1).toNat = i.toNat + 1 := by omega
            exact ⟨i + 1, by omega, by omega, by go_num, ⟨(by repeat (with_reducible first | exact HB.out | apply below_alloc | apply pw_below_drewN | apply below_drew1))⟩, ⟨(by (with_reducible repeat (first | exact BK.out | refine blk_drewN ?_ _ | refine blk_drew ?_ | refine blk_alloc ?_ _)))⟩, ⟨by rw [e2]; exact HN.out⟩⟩
    · have HI2 := Aside0.mk (show hostsIn a0_0 a0_1 l0_2 by have h1 := HI.out; rw [List.take_of_length_le (by omega)] at h1; exact h1)
      have u0 := (blk_cell BK.out 0).trans (show _ = some _ from rfl); have u1 := (blk_cell BK.out 1).trans (show _ = some _ from rfl); have u2 := (blk_cell BK.out 2).trans (show _ = some _ from rfl); have u3 := (blk_cell BK.out 3).trans (show _ = some _ from rfl); have u4 := (blk_cell BK.out 4).trans (show _ = some _ from rfl); have u5 := (blk_cell BK.out 5).trans (show _ = some _ from rfl); have u6 := (blk_cell BK.out 6).trans (show _ = some _ from rfl)
      clear HI
      go_wp2
      clear u0 u1 u2 u3 u4 u5 u6
      go_loopg [5] l0_3.length (fun d v5 w' => ∃ k : Int, 0 ≤ k ∧ k.toNat + d = l0_3.length ∧ v5 = .int .i64 k ∧ Aside0 (Below w.heap.size w w') ∧ Aside0 (w'.heap[w.heap.size]? = some (.cells #[.int .i64 a0_0, .int .i64 a0_1, .slice A0_2 l0_2.length c0_2, .slice A0_3 l0_3.length c0_3, .int .i64 a0_4, .string a0_5, .slice A0_6 l0_6.length c0_6] 26)) ∧ Aside0 (resIn a0_0 a0_1 (l0_3.take k.toNat)))
      case atStart => exact ⟨0, by omega, by simp, rfl, HB, BK, ⟨⟨fun _ h => by simp at h, List.nodup_nil, List.nodup_nil⟩⟩⟩
      case round =>
        clear HB BK
        obtain ⟨k, hk0, hdk, rfl, HB, BK, HK⟩ := hrel
        obtain ⟨wo, hwo⟩ : ∃ x, x = wr := ⟨wr, rfl⟩
        subst hwo
        by_cases klt : k < (l0_3.length : Int)
        · have u0 := (blk_cell BK.out 0).trans (show _ = some _ from rfl); have u1 := (blk_cell BK.out 1).trans (show _ = some _ from rfl); have u2 := (blk_cell BK.out 2).trans (show _ = some _ from rfl); have u3 := (blk_cell BK.out 3).trans (show _ = some _ from rfl); have u4 := (blk_cell BK.out 4).trans (show _ = some _ from rfl); have u5 := (blk_cell BK.out 5).trans (show _ = some _ from rfl); have u6 := (blk_cell BK.out 6).trans (show _ = some _ from rfl)
          obtain ⟨ad, e1, hx0, hx1⟩ := at_T47 HR3.out k hk0 klt
          cases e1
          replace hx0 := (HB.out.cell (World.block_lt_of_cell? w _ hx0)).trans hx0
          replace hx1 := (HB.out.cell (World.block_lt_of_cell? w _ hx1)).trans hx1
          have hfx := res_take (a := a0_0) (b := a0_1) l0_3 k hk0 klt
          generalize rd_T47 l0_3 k = x at hx0 hx1 hfx
          obtain ⟨s, ho⟩ := x
          simp only at hx0 hx1 hfx
          replace hfx := Aside0.mk hfx
          obtain ⟨b1, hb1⟩ : ∃ b, clientB s = b := ⟨_, rfl⟩
          have CC := Aside0.mk (fun W => pinfoldref11_clientMay.calls s b1 W (by rw [← hb1]; exact clientMay_eq s))
          have BX := Aside0.mk (blk_new wo (.cells #[.string s, .int .i64 ho] 47))
          replace hb1 := Aside0.mk hb1
          have z0 := (blk_cell (blk_alloc BK.out (.cells #[.string s, .int .i64 ho] 47)) 0).trans (show _ = some _ from rfl); have z1 := (blk_cell (blk_alloc BK.out (.cells #[.string s, .int .i64 ho] 47)) 1).trans (show _ = some _ from rfl); have z2 := (blk_cell (blk_alloc BK.out (.cells #[.string s, .int .i64 ho] 47)) 2).trans (show _ = some _ from rfl); have z3 := (blk_cell (blk_alloc BK.out (.cells #[.string s, .int .i64 ho] 47)) 3).trans (show _ = some _ from rfl); have z4 := (blk_cell (blk_alloc BK.out (.cells #[.string s, .int .i64 ho] 47)) 4).trans (show _ = some _ from rfl); have z5 := (blk_cell (blk_alloc BK.out (.cells #[.string s, .int .i64 ho] 47)) 5).trans (show _ = some _ from rfl); have z6 := (blk_cell (blk_alloc BK.out (.cells #[.string s, .int .i64 ho] 47)) 6).trans (show _ = some _ from rfl)
          have hres : ∀ (e : hostsIn a0_0 a0_1 l0_2 ∧ resIn a0_0 a0_1 l0_3 ∧ l0_6.all (staticB a0_5) = true), (a0_0 ≤ ho ∧ ho ≤ a0_1 ∧ clientB s = true) ∧ ∀ y ∈ l0_3.take k.toNat, y.f1 ≠ ho ∧ y.f0.data.toList ≠ s.data.toList := fun e => hfx.out.1 e.2.1
          by_cases d1 : ho < a0_0
          · have hf := Aside0.mk (show false = r from no_of q2.out (fun e => by have := (hres e).1; omega))
            clear hres
            clear q2 HR2 HR3 HR6 HF hfx HK HI2 hb1 BX
            go_wp2_with (go_at_call 48; (with_reducible refine (CC.out _).mono ?_); rintro e w3 ⟨rfl, ⟨nd, rfl⟩⟩)
            go_ret
            exact ⟨ret_bool hf.out, (by repeat (with_reducible first | exact HB.out | apply below_alloc | apply pw_below_drewN | apply below_drew1))⟩
          by_cases d2 : a0_1 < ho
          · have hf := Aside0.mk (show false = r from no_of q2.out (fun e => by have := (hres e).1; omega))
            clear hres
            clear q2 HR2 HR3 HR6 HF hfx HK HI2 hb1 BX
            go_wp2_with (go_at_call 48; (with_reducible refine (CC.out _).mono ?_); rintro e w3 ⟨rfl, ⟨nd, rfl⟩⟩)
            go_ret
            exact ⟨ret_bool hf.out, (by repeat (with_reducible first | exact HB.out | apply below_alloc | apply pw_below_drewN | apply below_drew1))⟩
          cases b1 with
          | false =>
            have hf := Aside0.mk (show false = r from no_of q2.out (fun e => by have := (hres e).1.2.2; rw [hb1.out] at this; cases this))
            clear hres
            clear q2 HR2 HR3 HR6 HF hfx HK HI2 hb1 BX
            go_wp2_with (go_at_call 48; (with_reducible refine (CC.out _).mono ?_); rintro e w3 ⟨rfl, ⟨nd, rfl⟩⟩)
            go_ret
            exact ⟨ret_bool hf.out, (by repeat (with_reducible first | exact HB.out | apply below_alloc | apply pw_below_drewN | apply below_drew1))⟩
          | true =>
            have hin := Aside0.mk (hfx.out.2 HK.out ⟨by omega, by omega, hb1.out⟩)
            replace hres := Aside0.mk hres
            go_wp2_with (go_at_call 48; (with_reducible refine (CC.out _).mono ?_); rintro e w3 ⟨rfl, ⟨nd, rfl⟩⟩)
            clear CC hb1 hx0 hx1 d1 d2 u0 u1 u2 u3 u4 u5 u6 z0 z1 z2 z3 z4 z5 z6
            go_loopg [7] k.toNat (fun d v7 w' => ∃ j : Int, 0 ≤ j ∧ j.toNat + d = k.toNat ∧ v7 = .int .i64 j ∧ Aside0 (Below w.heap.size w w') ∧ Aside0 (w'.heap[w.heap.size]? = some (.cells #[.int .i64 a0_0, .int .i64 a0_1, .slice A0_2 l0_2.length c0_2, .slice (some ad) l0_3.length c0_3, .int .i64 a0_4, .string a0_5, .slice A0_6 l0_6.length c0_6] 26)) ∧ Aside0 (w'.heap[wo.heap.size]? = some (.cells #[.string s, .int .i64 ho] 47)) ∧ Aside0 (∀ y ∈ l0_3.take j.toNat, y.f1 ≠ ho ∧ y.f0.data.toList ≠ s.data.toList))
            case atStart => exact ⟨0, by omega, by simp, rfl, ⟨(by repeat (with_reducible first | exact HB.out | apply below_alloc | apply pw_below_drewN | apply below_drew1))⟩, ⟨(by (with_reducible repeat (first | exact BK.out | refine blk_drewN ?_ _ | refine blk_drew ?_ | refine blk_alloc ?_ _)))⟩, ⟨BX.out⟩, ⟨by simp⟩⟩
            case round =>
              clear HB BK BX
              obtain ⟨j, hj0, hdj, rfl, HB, BK, BX, HJ⟩ := hrel
              by_cases jlt : j < k
              · have u0 := (blk_cell BK.out 0).trans (show _ = some _ from rfl); have u1 := (blk_cell BK.out 1).trans (show _ = some _ from rfl); have u2 := (blk_cell BK.out 2).trans (show _ = some _ from rfl); have u3 := (blk_cell BK.out 3).trans (show _ = some _ from rfl); have u4 := (blk_cell BK.out 4).trans (show _ = some _ from rfl); have u5 := (blk_cell BK.out 5).trans (show _ = some _ from rfl); have u6 := (blk_cell BK.out 6).trans (show _ = some _ from rfl)
                have v0 := (blk_cell BX.out 0).trans (show _ = some _ from rfl)
                have v1 := (blk_cell BX.out 1).trans (show _ = some _ from rfl)
                obtain ⟨ad2, e2, hy0, hy1⟩ := at_T47 HR3.out j hj0 (by omega)
                obtain rfl := Option.some.inj e2
                clear e2
                replace hy0 := (HB.out.cell (World.block_lt_of_cell? w _ hy0)).trans hy0
                replace hy1 := (HB.out.cell (World.block_lt_of_cell? w _ hy1)).trans hy1
                have htk := takeR_rd l0_3 j hj0 (by omega)
                have hmm := takeR_mem l0_3 k j hj0 jlt (by omega)
                generalize rd_T47 l0_3 j = y at hy0 hy1 htk hmm
                obtain ⟨ys, yh⟩ := y
                simp only at hy0 hy1
                have jlt2 : j < (l0_3.length : Int) := by omega
                by_cases eA : yh = ho
                · have hf := Aside0.mk (show false = r from no_of q2.out (fun e => ((hres.out e).2 _ hmm).1 eA))
                  clear q2 HR2 HR3 HR6 HF hfx hres HK HI2 hin HJ htk hmm
                  go_wp2
                  go_quiet (fail)
                  go_wp2
                  go_ret
                  exact ⟨ret_bool hf.out, (by repeat (with_reducible first | exact HB.out | apply below_alloc | apply pw_below_drewN | apply below_drew1))⟩
                by_cases eB : ys.toList = s.toList
                · have hf := Aside0.mk (show false = r from no_of q2.out (fun e => ((hres.out e).2 _ hmm).2 (by show ys.data.toList = s.data.toList; rw [← ByteArray.toList_eq, ← ByteArray.toList_eq]; exact eB)))
                  clear q2 HR2 HR3 HR6 HF hfx hres HK HI2 hin HJ htk hmm
                  go_wp2
                  go_quiet (fail)
                  go_wp2
                  go_ret
                  exact ⟨ret_bool hf.out, (by repeat (with_reducible first | exact HB.out | apply below_alloc | apply pw_below_drewN | apply below_drew1))⟩
                have HN := Aside0.mk (show ∀ y ∈ l0_3.take (j.toNat + 1), y.f1 ≠ ho ∧ y.f0.data.toList ≠ s.data.toList by rw [htk]; intro y hy; rw [List.mem_append, List.mem_singleton] at hy; rcases hy with hy | rfl; exact HJ.out y hy; exact ⟨eA, by show ys.data.toList ≠ s.data.toList; rw [← ByteArray.toList_eq, ← ByteArray.toList_eq]; exact eB⟩)
                have eA2 : (yh == ho) = false := by simpa using eA
                have eB2 : (ys.toList == s.toList) = false := by simpa using eB
                clear htk hmm
                go_wp2
                go_quiet (fail)
                go_wp2
                go_roundg (k.toNat - (j.toNat + 1))
                case measure => first | omega | (simp; omega)
                case rel =>
                  have e2 : (j + 1).toNat = j.toNat + 1 := by omega
                  exact ⟨j + 1, by omega, by omega, by go_num, ⟨(by repeat (with_reducible first | exact HB.out | apply below_alloc | apply pw_below_drewN | apply below_drew1))⟩, ⟨(by (with_reducible repeat (first | exact BK.out | refine blk_drewN ?_ _ | refine blk_drew ?_ | refine blk_alloc ?_ _)))⟩, ⟨BX.out⟩, ⟨by rw [e2]; exact HN.out⟩⟩
              · have e3 : j.toNat = k.toNat := by omega
                have HN := Aside0.mk (hin.out (by rw [← e3]; exact HJ.out))
                clear hfx hin HJ e3 hres BX
                go_wp2
                go_roundg (l0_3.length - (k.toNat + 1))
                case measure => first | omega | (simp; omega)
                case rel =>
                  have e2 : (k + 1).toNat = k.toNat + 1 := by omega
                  exact ⟨k + 1, by omega, by omega, by go_num, ⟨(by repeat (with_reducible first | exact HB.out | apply below_alloc | apply pw_below_drewN | apply below_drew1))⟩, ⟨(by (with_reducible repeat (first | exact BK.out | refine blk_drewN ?_ _ | refine blk_drew ?_ | refine blk_alloc ?_ _)))⟩, ⟨by rw [e2]; exact HN.out⟩⟩
        · have HK2 := Aside0.mk (show resIn a0_0 a0_1 l0_3 by have h1 := HK.out; rw [List.take_of_length_le (by omega)] at h1; exact h1)
          have u0 := (blk_cell BK.out 0).trans (show _ = some _ from rfl); have u1 := (blk_cell BK.out 1).trans (show _ = some _ from rfl); have u2 := (blk_cell BK.out 2).trans (show _ = some _ from rfl); have u3 := (blk_cell BK.out 3).trans (show _ = some _ from rfl); have u4 := (blk_cell BK.out 4).trans (show _ = some _ from rfl); have u5 := (blk_cell BK.out 5).trans (show _ = some _ from rfl); have u6 := (blk_cell BK.out 6).trans (show _ = some _ from rfl)
          clear HK
          go_wp2
          clear u0 u1 u2 u3 u4 u5 u6
          go_loopg [8] l0_6.length (fun d v8 w' => ∃ m : Int, 0 ≤ m ∧ m.toNat + d = l0_6.length ∧ v8 = .int .i64 m ∧ Aside0 (Below w.heap.size w w') ∧ Aside0 (w'.heap[w.heap.size]? = some (.cells #[.int .i64 a0_0, .int .i64 a0_1, .slice A0_2 l0_2.length c0_2, .slice A0_3 l0_3.length c0_3, .int .i64 a0_4, .string a0_5, .slice A0_6 l0_6.length c0_6] 26)) ∧ Aside0 ((l0_6.take m.toNat).all (staticB a0_5) = true))
          case atStart => exact ⟨0, by omega, by simp, rfl, HB, BK, ⟨by simp⟩⟩
          case round =>
            clear HB BK
            obtain ⟨m, hm0, hdm, rfl, HB, BK, HM⟩ := hrel
            by_cases mlt : m < (l0_6.length : Int)
            · have u0 := (blk_cell BK.out 0).trans (show _ = some _ from rfl); have u1 := (blk_cell BK.out 1).trans (show _ = some _ from rfl); have u2 := (blk_cell BK.out 2).trans (show _ = some _ from rfl); have u3 := (blk_cell BK.out 3).trans (show _ = some _ from rfl); have u4 := (blk_cell BK.out 4).trans (show _ = some _ from rfl); have u5 := (blk_cell BK.out 5).trans (show _ = some _ from rfl); have u6 := (blk_cell BK.out 6).trans (show _ = some _ from rfl)
              obtain ⟨ad, e1, hx0, hx1, hx2, hx3, hx4, hx5, hx6⟩ := at_T49 HR6.out m hm0 mlt
              cases e1
              replace hx0 := (HB.out.cell (World.block_lt_of_cell? w _ hx0)).trans hx0; replace hx1 := (HB.out.cell (World.block_lt_of_cell? w _ hx1)).trans hx1; replace hx2 := (HB.out.cell (World.block_lt_of_cell? w _ hx2)).trans hx2; replace hx3 := (HB.out.cell (World.block_lt_of_cell? w _ hx3)).trans hx3; replace hx4 := (HB.out.cell (World.block_lt_of_cell? w _ hx4)).trans hx4; replace hx5 := (HB.out.cell (World.block_lt_of_cell? w _ hx5)).trans hx5; replace hx6 := (HB.out.cell (World.block_lt_of_cell? w _ hx6)).trans hx6
              obtain ⟨htk, hmem⟩ := rdS_eq l0_6 m hm0 mlt
              have hsz := HF.out.2 _ hmem
              generalize rd_T49 l0_6 m = x at hx0 hx1 hx2 hx3 hx4 hx5 hx6 htk hmem hsz
              obtain ⟨f0, f1, f2, f3, f4, f5, f6⟩ := x
              simp only at hx0 hx1 hx2 hx3 hx4 hx5 hx6 hsz
              obtain ⟨b1, hb1⟩ : ∃ b, staticB a0_5 ⟨f0, f1, f2, f3, f4, f5, f6⟩ = b := ⟨_, rfl⟩
              have CS := Aside0.mk (fun W => pinfoldref11_staticMay.calls f0 f1 f2 f3 f4 f5 f6 a0_5 b1 W (by unfold pinfoldref11_staticMay.f; rw [if_pos ⟨hsz.1, hsz.2, HF.out.1⟩, hb1]))
              have hno := Aside0.mk (fun e : b1 = false => show false = r from no_of q2.out (fun e2 => by have := List.all_eq_true.1 e2.2.2 _ hmem; rw [hb1, e] at this; cases this))
              have hyes := Aside0.mk (fun e : b1 = true => show (l0_6.take (m.toNat + 1)).all (staticB a0_5) = true by rw [htk, List.all_append, HM.out, List.all_cons, hb1, e]; rfl)
              clear hb1 htk hmem hsz
              go_wp2_with fail
              have HB1 := Aside0.mk (below_drew HB.out)
              have BK1 := Aside0.mk (blk_drew BK.out)
              refine seqS (S := confMayS ad (ad.add (m.toNat * 7)) ⟨(ad.add (m.toNat * 7)).block, (ad.add (m.toNat * 7)).off + 1, none⟩ ⟨(ad.add (m.toNat * 7)).block, (ad.add (m.toNat * 7)).off + 2, none⟩ ⟨(ad.add (m.toNat * 7)).block, (ad.add (m.toNat * 7)).off + 3, none⟩ ⟨(ad.add (m.toNat * 7)).block, (ad.add (m.toNat * 7)).off + 4, none⟩ ⟨(ad.add (m.toNat * 7)).block, (ad.add (m.toNat * 7)).off + 5, none⟩ ⟨(ad.add (m.toNat * 7)).block, (ad.add (m.toNat * 7)).off + 6, none⟩ f0 f1 f2 f3 f4 f5 f6 w.heap.size a0_5 (.slice (some ad) l0_6.length c0_6)) 9 (by kernel_rfl) rfl rfl ⟨hx0, hx1, hx2, hx3, hx4, hx5, hx6, u5, u6⟩ ?_
              intro hHeld
              iterate 7 first | (refine seqP (v := ?_) (a' := ?_) rfl rfl (by kernel_rfl) (fun _ _ _ h => h) (Or.inl ⟨by kernel_rfl, ?_⟩) ?_ ?_; rotate_left; (intro w'; go_simp; with_reducible rfl); rotate_left; (simp only [Act.put, List.setIfInBounds_toArray, List.set_cons_zero, List.set_cons_succ, i64_w, i32_w]; rfl)) | (refine seqL (v := ?_) (a' := ?_) rfl rfl (by kernel_rfl) (fun _ _ _ h => h) (Or.inl ⟨by kernel_rfl, ?_⟩) hHeld ?_ ?_; rotate_left; (rintro w' ⟨s0, s1, s2, s3, s4, s5, s6, s7, s8⟩; go_simp; with_reducible rfl); rotate_left; (simp only [Act.put, List.setIfInBounds_toArray, List.set_cons_zero, List.set_cons_succ, i64_w, i32_w]; rfl))
              refine seqG (fn := Tryd.f49) rfl rfl (by kernel_rfl) rfl Tryd.func49 (by kernel_rfl) (by kernel_rfl) #[.agg #[.string f0, .int .i64 f1, .int .i64 f2, .int .i64 f3, .string f4, .string f5, .int .i64 f6], .string a0_5] (by kernel_rfl) (by (try simp only [List.map_toArray, List.map_cons, List.map_nil]); first | done | rfl) ?_
              with_reducible refine (CS.out _).mono ?_
              rintro e w3 ⟨rfl, hb2⟩
              replace HB := Aside0.mk (below_step HB1.out hb2)
              replace BK := Aside0.mk (blk_below BK1.out hb2)
              refine ⟨_, rfl, confMayS_below hHeld hb2, fun hHeld => ⟨?_, ?_, ?_⟩⟩
              rotate_left
              · simp only [Act.put, List.setIfInBounds_toArray, List.set_cons_zero, List.set_cons_succ, i64_w, i32_w]
                rfl
              iterate 1 first | (refine seqP (v := ?_) (a' := ?_) rfl rfl (by kernel_rfl) (fun _ _ _ h => h) (Or.inl ⟨by kernel_rfl, ?_⟩) ?_ ?_; rotate_left; (intro w'; go_simp; with_reducible rfl); rotate_left; (simp only [Act.put, List.setIfInBounds_toArray, List.set_cons_zero, List.set_cons_succ, i64_w, i32_w]; rfl)) | (refine seqL (v := ?_) (a' := ?_) rfl rfl (by kernel_rfl) (fun _ _ _ h => h) (Or.inl ⟨by kernel_rfl, ?_⟩) hHeld ?_ ?_; rotate_left; (rintro w' ⟨s0, s1, s2, s3, s4, s5, s6, s7, s8⟩; go_simp; with_reducible rfl); rotate_left; (simp only [Act.put, List.setIfInBounds_toArray, List.set_cons_zero, List.set_cons_succ, i64_w, i32_w]; rfl))
              refine seqE (by kernel_rfl) ?_
              cases b1 with
              | false =>
                have hf := Aside0.mk (hno.out rfl)
                clear q2 HR2 HR3 HR6 HF HM HI2 HK2 hno hyes CS
                go_wp2
                go_ret
                exact ⟨ret_bool hf.out, HB.out⟩
              | true =>
                have HN := Aside0.mk (hyes.out rfl)
                clear hno hyes CS
                go_wp2
                go_roundg (l0_6.length - (m.toNat + 1))
                case measure => first | omega | (simp; omega)
                case rel =>
                  have e2 : (m + 1).toNat = m.toNat + 1 := by omega
                  exact ⟨m + 1, by omega, by omega, by go_num, HB, BK, ⟨by rw [e2]; exact HN.out⟩⟩
            · have hr := Aside0.mk (show true = r from (q2.out.2 ⟨HI2.out, HK2.out, by have h1 := HM.out; rw [List.take_of_length_le (by omega)] at h1; exact h1⟩).symm)
              clear q2 HR2 HR3 HR6 HF HM HI2 HK2
              have u0 := (blk_cell BK.out 0).trans (show _ = some _ from rfl); have u1 := (blk_cell BK.out 1).trans (show _ = some _ from rfl); have u2 := (blk_cell BK.out 2).trans (show _ = some _ from rfl); have u3 := (blk_cell BK.out 3).trans (show _ = some _ from rfl); have u4 := (blk_cell BK.out 4).trans (show _ = some _ from rfl); have u5 := (blk_cell BK.out 5).trans (show _ = some _ from rfl); have u6 := (blk_cell BK.out 6).trans (show _ = some _ from rfl)
              go_wp2
              go_ret
              exact ⟨ret_bool hr.out, (by repeat (with_reducible first | exact HB.out | apply below_alloc | apply pw_below_drewN | apply below_drew1))⟩

/-! ### pinfoldref11_Owner: function 15 -/
mutual
def pinfoldref11_Owner.l0 : Nat → Int → Int → Int → Int → List Int → List (S47) → Int → ByteArray → List (S49) → Option (ByteArray × Bool)
  | 0, _, _, _, _, _, _, _, _, _ => none
  | k + 1, x1, x6, x153000, x153001, x153002, x153003, x153004, x153005, x153006 => if x6 < (x153003.length : Int) then ((pinfoldref11_ConfMay.f x153000 x153001 x153002 x153003 x153004 x153005 x153006).bind fun t153 => (pinfoldref11_Owner.j1 k x1 x6 t153 x153000 x153001 x153002 x153003 x153004 x153005 x153006)) else (pinfoldref11_Owner.j1 k x1 x6 false x153000 x153001 x153002 x153003 x153004 x153005 x153006)
def pinfoldref11_Owner.j1 : Nat → Int → Int → Bool → Int → Int → List Int → List (S47) → Int → ByteArray → List (S49) → Option (ByteArray × Bool)
  | 0, _, _, _, _, _, _, _, _, _, _ => none
  | k + 1, x1, x6, x15, x153000, x153001, x153002, x153003, x153004, x153005, x153006 => if x15 = true then (if 0 ≤ x6 then (if x6 < (x153003.length : Int) then (if ((rd_T47 x153003 x6).f1) = x1 then (some ((rd_T47 x153003 x6).f0, true)) else (pinfoldref11_Owner.l0 k x1 (wrap64 (x6 + 1)) x153000 x153001 x153002 x153003 x153004 x153005 x153006)) else (none)) else (none)) else (some ((⟨#[]⟩ : ByteArray), false))
end
def pinfoldref11_Owner.f (k : Nat) (a0_0 : Int) (a0_1 : Int) (l0_2 : List Int) (l0_3 : List (S47)) (a0_4 : Int) (a0_5 : ByteArray) (l0_6 : List (S49)) (a1 : Int) : Option (ByteArray × Bool) := pinfoldref11_Owner.l0 k a1 0 a0_0 a0_1 l0_2 l0_3 a0_4 a0_5 l0_6
theorem pinfoldref11_Owner.mono_l : ∀ k, (∀ y0 y1 y2 y3 y4 y5 y6 y7 y8, LeO (pinfoldref11_Owner.l0 k y0 y1 y2 y3 y4 y5 y6 y7 y8) (pinfoldref11_Owner.l0 (k + 1) y0 y1 y2 y3 y4 y5 y6 y7 y8)) ∧ (∀ y0 y1 y2 y3 y4 y5 y6 y7 y8 y9, LeO (pinfoldref11_Owner.j1 k y0 y1 y2 y3 y4 y5 y6 y7 y8 y9) (pinfoldref11_Owner.j1 (k + 1) y0 y1 y2 y3 y4 y5 y6 y7 y8 y9))
  | 0 => ⟨fun _ _ _ _ _ _ _ _ _ r h => by simp [pinfoldref11_Owner.l0] at h, fun _ _ _ _ _ _ _ _ _ _ r h => by simp [pinfoldref11_Owner.j1] at h⟩
  | k + 1 => by
    obtain ⟨ih0, ih1⟩ := pinfoldref11_Owner.mono_l k
    refine ⟨?_, ?_⟩
    · intro y0 y1 y2 y3 y4 y5 y6 y7 y8
      unfold pinfoldref11_Owner.l0
      repeat' first
      | (with_reducible exact ih0 _ _ _ _ _ _ _ _ _)
      | (with_reducible exact ih1 _ _ _ _ _ _ _ _ _ _)
      | (with_reducible exact LeO.refl _)
      | (with_reducible exact LeO.none _)
      | (with_reducible refine LeO.ite ?_ ?_)
      | (with_reducible refine LeO.bind ?_ (fun _ => ?_))
      | exact ih0 _ _ _ _ _ _ _ _ _
      | exact ih1 _ _ _ _ _ _ _ _ _ _
      | exact LeO.none _
      | refine LeO.ite ?_ ?_
      | refine LeO.bind ?_ (fun _ => ?_)
    · intro y0 y1 y2 y3 y4 y5 y6 y7 y8 y9
      unfold pinfoldref11_Owner.j1
      repeat' first
      | (with_reducible exact ih0 _ _ _ _ _ _ _ _ _)
      | (with_reducible exact ih1 _ _ _ _ _ _ _ _ _ _)
      | (with_reducible exact LeO.refl _)
      | (with_reducible exact LeO.none _)
      | (with_reducible refine LeO.ite ?_ ?_)
      | (with_reducible refine LeO.bind ?_ (fun _ => ?_))
      | exact ih0 _ _ _ _ _ _ _ _ _
      | exact ih1 _ _ _ _ _ _ _ _ _ _
      | exact LeO.none _
      | refine LeO.ite ?_ ?_
      | refine LeO.bind ?_ (fun _ => ?_)
theorem pinfoldref11_Owner.mono : ∀ a0 a1 a2 a3 a4 a5 a6 a7 k, LeO (pinfoldref11_Owner.f k a0 a1 a2 a3 a4 a5 a6 a7) (pinfoldref11_Owner.f (k + 1) a0 a1 a2 a3 a4 a5 a6 a7) := by
  intro a0 a1 a2 a3 a4 a5 a6 a7 k
  obtain ⟨ih0, ih1⟩ := pinfoldref11_Owner.mono_l k
  unfold pinfoldref11_Owner.f
  repeat' first
      | (with_reducible exact ih0 _ _ _ _ _ _ _ _ _)
      | (with_reducible exact ih1 _ _ _ _ _ _ _ _ _ _)
      | (with_reducible exact LeO.refl _)
      | (with_reducible exact LeO.none _)
      | (with_reducible refine LeO.ite ?_ ?_)
      | (with_reducible refine LeO.bind ?_ (fun _ => ?_))
      | exact ih0 _ _ _ _ _ _ _ _ _
      | exact ih1 _ _ _ _ _ _ _ _ _ _
      | exact LeO.none _
      | refine LeO.ite ?_ ?_
      | refine LeO.bind ?_ (fun _ => ?_)
set_option maxHeartbeats 8000000 in
set_option maxRecDepth 100000 in
theorem pinfoldref11_Owner.calls (k : Nat) (a0_0 : Int) (a0_1 : Int) (A0_2 : Option Addr) (c0_2 : Nat) (l0_2 : List Int) (A0_3 : Option Addr) (c0_3 : Nat) (l0_3 : List (S47)) (a0_4 : Int) (a0_5 : ByteArray) (A0_6 : Option Addr) (c0_6 : Nat) (l0_6 : List (S49)) (a1 : Int) (r1 : ByteArray) (r2 : Bool) (w : World) (hr0_2 : Kd.C (Kd.int .i64) w A0_2 l0_2.length l0_2) (hc0_2 : l0_2.length ≤ c0_2) (hr0_3 : Kd.C k47 w A0_3 l0_3.length l0_3) (hc0_3 : l0_3.length ≤ c0_3) (hr0_6 : Kd.C k49 w A0_6 l0_6.length l0_6) (hc0_6 : l0_6.length ≤ c0_6) (h : pinfoldref11_Owner.f k a0_0 a0_1 l0_2 l0_3 a0_4 a0_5 l0_6 a1 = some (r1, r2)) :
    Calls Tryd.prog 15 #[.agg #[.int .i64 a0_0, .int .i64 a0_1, .slice A0_2 l0_2.length c0_2, .slice A0_3 l0_3.length c0_3, .int .i64 a0_4, .string a0_5, .slice A0_6 l0_6.length c0_6], .int .i64 a1] w fun e w' => e = .returned (.tuple #[.string r1, .bool r2]) ∧ Below w.heap.size w w' := by
  have hu26 := Tryd.underlying26
  have HR0_2 := Aside0.mk hr0_2
  have HC0_2 := Aside0.mk hc0_2
  clear hr0_2 hc0_2
  have HR0_3 := Aside0.mk hr0_3
  have HC0_3 := Aside0.mk hc0_3
  clear hr0_3 hc0_3
  have HR0_6 := Aside0.mk hr0_6
  have HC0_6 := Aside0.mk hc0_6
  clear hr0_6 hc0_6
  have HB := Aside0.mk (Below.refl w.heap.size w)
  have H : (pinfoldref11_Owner.l0 k a1 0 a0_0 a0_1 l0_2 l0_3 a0_4 a0_5 l0_6) = some (r1, r2) := h
  clear h
  have H' := Aside0.mk H
  clear H
  go_enter Tryd.func15, Tryd.ntmps15
  go_wp2_with (first | ((with_reducible refine gate_dst (N := 2) rfl ?_); refine box_event ?hg (N := 2) ?hd (cs := #[.int .i64 a0_0, .int .i64 a0_1, .slice A0_2 l0_2.length c0_2, .slice A0_3 l0_3.length c0_3, .int .i64 a0_4, .string a0_5, .slice A0_6 l0_6.length c0_6]) (t := 26) ?hr ?_; (case hd => rfl); (case hg => rfl); (case hr => first | (go_simp; done) | (go_simp; rfl)); intro gb152 hg w3 hbox hb; have n0_ := Aside0.mk (below_step (by repeat (with_reducible first | exact HB.out | apply below_alloc | apply pw_below_drewN | apply below_drew1)) hb); have n1_ := Aside0.mk (hbox); have n2_ := Aside0.mk ((by rw [hg]; exact (below_size (by repeat (with_reducible first | exact HB.out | apply below_alloc | apply pw_below_drewN | apply below_drew1))) : w.heap.size ≤ gb152)); have n3_ := Aside0.mk ((by rw [hg]; exact (below_size (by repeat (with_reducible first | exact HB.out | apply below_alloc | apply pw_below_drewN | apply below_drew1))) : w.heap.size ≤ gb152)); clear HB; have HB := n0_; have BK152 := n1_; have GW152 := n2_; have GE152 := n3_; clear n0_ n1_ n2_ n3_; clear hb hbox hg))
  go_loopg [6] k (fun kq v6 w' => ∃ (x6_1 : Int), v6 = .int .i64 x6_1 ∧ Aside0 (pinfoldref11_Owner.l0 kq a1 x6_1 a0_0 a0_1 l0_2 l0_3 a0_4 a0_5 l0_6 = some (r1, r2)) ∧ Aside0 (kq ≤ k) ∧ Aside0 (w'.heap[gb152]? = some (.cells #[.int .i64 a0_0, .int .i64 a0_1, (.slice A0_2 l0_2.length c0_2), (.slice A0_3 l0_3.length c0_3), .int .i64 a0_4, .string a0_5, (.slice A0_6 l0_6.length c0_6)] 26 (0, 0))) ∧ Aside0 (Below w.heap.size w w'))
  case atStart => exact ⟨(0), (by first | rfl | (simp; done) | (simp [*]; done)), H', ⟨Nat.le_refl _⟩, ⟨by (with_reducible repeat (first | refine blk_drewN ?_ _ | refine blk_drew ?_ | refine blk_alloc ?_ _)); exact BK152.out⟩, ⟨by repeat (with_reducible first | exact HB.out | apply below_alloc | apply pw_below_drewN | apply below_drew1 | refine below_set ?_ GE152.out)⟩⟩
  case round =>
    clear H'
    obtain ⟨x6_1, rfl, HA, HK1, BK152, HB⟩ := hrel
    cases gk with
    | zero => exact absurd HA.out (by simp [pinfoldref11_Owner.l0])
    | succ k1 =>
      have H := HA.out
      clear HA
      simp only [pinfoldref11_Owner.l0] at H
      have HC4 := Aside0.mk H
      clear H
      go_upto_region 2 with (fail)
      go_cut [15] (fun v15 wc => ∃ (kq : Nat) (x15_3 : Bool), v15 = .bool x15_3 ∧ Aside0 (pinfoldref11_Owner.j1 kq a1 x6_1 x15_3 a0_0 a0_1 l0_2 l0_3 a0_4 a0_5 l0_6 = some (r1, r2)) ∧ Aside0 (kq ≤ k1) ∧ Aside0 (wc.heap[gb152]? = some (.cells #[.int .i64 a0_0, .int .i64 a0_1, (.slice A0_2 l0_2.length c0_2), (.slice A0_3 l0_3.length c0_3), .int .i64 a0_4, .string a0_5, (.slice A0_6 l0_6.length c0_6)] 26 (0, 0))) ∧ Aside0 (Below w.heap.size w wc))
      case first =>
        have H := HC4.out
        clear HC4
        by_cases c5 : x6_1 < (l0_3.length : Int)
        · rw [if_pos c5] at H
          have c5b0 : decide (x6_1 < (l0_3.length : Int)) = true := decide_eq_true c5
          clear c5
          (first | rw [c5b0] | (simp only [i64_w, i32_w]; rw [c5b0]) | skip)
          replace H := Option.bind_eq_some_iff.mp H
          obtain ⟨t153, A60, H⟩ := H
          replace H : (pinfoldref11_Owner.j1 k1 a1 x6_1 t153 a0_0 a0_1 l0_2 l0_3 a0_4 a0_5 l0_6) = some (r1, r2) := H
          have A6 := Aside0.mk A60
          clear A60
          have H' := Aside0.mk H
          clear H
          have hcz7_0 : wr.cell? ⟨gb152, 0, none⟩ = some (.int .i64 a0_0) := (blk_cell BK152.out 0).trans rfl; have hcz7_1 : wr.cell? ⟨gb152, 1, none⟩ = some (.int .i64 a0_1) := (blk_cell BK152.out 1).trans rfl; have hcz7_2 : wr.cell? ⟨gb152, 2, none⟩ = some (.slice A0_2 l0_2.length c0_2) := (blk_cell BK152.out 2).trans rfl; have hcz7_3 : wr.cell? ⟨gb152, 3, none⟩ = some (.slice A0_3 l0_3.length c0_3) := (blk_cell BK152.out 3).trans rfl; have hcz7_4 : wr.cell? ⟨gb152, 4, none⟩ = some (.int .i64 a0_4) := (blk_cell BK152.out 4).trans rfl; have hcz7_5 : wr.cell? ⟨gb152, 5, none⟩ = some (.string a0_5) := (blk_cell BK152.out 5).trans rfl; have hcz7_6 : wr.cell? ⟨gb152, 6, none⟩ = some (.slice A0_6 l0_6.length c0_6) := (blk_cell BK152.out 6).trans rfl; have hfz7_0 := blk_frozen BK152.out 0; have hfz7_1 := blk_frozen BK152.out 1; have hfz7_2 := blk_frozen BK152.out 2; have hfz7_3 := blk_frozen BK152.out 3; have hfz7_4 := blk_frozen BK152.out 4; have hfz7_5 := blk_frozen BK152.out 5; have hfz7_6 := blk_frozen BK152.out 6
          go_wp2_with (first | (go_at_call 21; (with_reducible refine (pinfoldref11_ConfMay.calls a0_0 a0_1 _ _ l0_2 _ _ l0_3 a0_4 a0_5 _ _ l0_6 t153 _ ?side1 ?side2 ?side3 ?side4 ?side5 ?side6 A6.out).mono ?_); (case side1 => repeat (first | exact (Kd.C_below HR0_2.out HB.out) | (with_reducible refine Kd.C_alloc ?_ _) | (with_reducible refine Kd.C_drewN ?_ _) | (with_reducible refine Kd.C_drew ?_))); (case side2 => exact HC0_2.out); (case side3 => repeat (first | exact (Kd.C_below HR0_3.out HB.out) | (with_reducible refine Kd.C_alloc ?_ _) | (with_reducible refine Kd.C_drewN ?_ _) | (with_reducible refine Kd.C_drew ?_))); (case side4 => exact HC0_3.out); (case side5 => repeat (first | exact (Kd.C_below HR0_6.out HB.out) | (with_reducible refine Kd.C_alloc ?_ _) | (with_reducible refine Kd.C_drewN ?_ _) | (with_reducible refine Kd.C_drew ?_))); (case side6 => exact HC0_6.out); rintro e w8 ⟨rfl, hb⟩; have n0_ := Aside0.mk (blk_below (g := gb152) (o := .cells #[.int .i64 a0_0, .int .i64 a0_1, .slice A0_2 l0_2.length c0_2, .slice A0_3 l0_3.length c0_3, .int .i64 a0_4, .string a0_5, .slice A0_6 l0_6.length c0_6] 26 (0, 0)) (by (with_reducible repeat (first | refine blk_drewN ?_ _ | refine blk_drew ?_ | refine blk_alloc ?_ _)); exact BK152.out) hb); have n1_ := Aside0.mk (below_step (by repeat (with_reducible first | exact HB.out | apply below_alloc | apply pw_below_drewN | apply below_drew1 | refine below_set ?_ GE152.out)) hb); clear BK152; clear HB; have BK152 := n0_; have HB := n1_; clear n0_ n1_; (try clear hb)))
          go_meet
          case rel => exact ⟨_, (t153), (by first | rfl | (simp; done) | (simp [*]; done)), H', ⟨by have := HK1.out; first | omega | exact Nat.le_refl _⟩, ⟨by (with_reducible repeat (first | refine blk_drewN ?_ _ | refine blk_drew ?_ | refine blk_alloc ?_ _)); exact BK152.out⟩, ⟨by repeat (with_reducible first | exact HB.out | apply below_alloc | apply pw_below_drewN | apply below_drew1 | refine below_set ?_ GE152.out)⟩⟩
        rw [if_neg c5] at H
        have c5b0 : decide (x6_1 < (l0_3.length : Int)) = false := decide_eq_false c5
        clear c5
        (first | rw [c5b0] | (simp only [i64_w, i32_w]; rw [c5b0]) | skip)
        have H' := Aside0.mk H
        clear H
        have hcz9_0 : wr.cell? ⟨gb152, 0, none⟩ = some (.int .i64 a0_0) := (blk_cell BK152.out 0).trans rfl; have hcz9_1 : wr.cell? ⟨gb152, 1, none⟩ = some (.int .i64 a0_1) := (blk_cell BK152.out 1).trans rfl; have hcz9_2 : wr.cell? ⟨gb152, 2, none⟩ = some (.slice A0_2 l0_2.length c0_2) := (blk_cell BK152.out 2).trans rfl; have hcz9_3 : wr.cell? ⟨gb152, 3, none⟩ = some (.slice A0_3 l0_3.length c0_3) := (blk_cell BK152.out 3).trans rfl; have hcz9_4 : wr.cell? ⟨gb152, 4, none⟩ = some (.int .i64 a0_4) := (blk_cell BK152.out 4).trans rfl; have hcz9_5 : wr.cell? ⟨gb152, 5, none⟩ = some (.string a0_5) := (blk_cell BK152.out 5).trans rfl; have hcz9_6 : wr.cell? ⟨gb152, 6, none⟩ = some (.slice A0_6 l0_6.length c0_6) := (blk_cell BK152.out 6).trans rfl; have hfz9_0 := blk_frozen BK152.out 0; have hfz9_1 := blk_frozen BK152.out 1; have hfz9_2 := blk_frozen BK152.out 2; have hfz9_3 := blk_frozen BK152.out 3; have hfz9_4 := blk_frozen BK152.out 4; have hfz9_5 := blk_frozen BK152.out 5; have hfz9_6 := blk_frozen BK152.out 6
        go_wp2
        go_meet
        case rel => exact ⟨_, (false), (by first | rfl | (simp; done) | (simp [*]; done)), H', ⟨by have := HK1.out; first | omega | exact Nat.le_refl _⟩, ⟨by (with_reducible repeat (first | refine blk_drewN ?_ _ | refine blk_drew ?_ | refine blk_alloc ?_ _)); exact BK152.out⟩, ⟨by repeat (with_reducible first | exact HB.out | apply below_alloc | apply pw_below_drewN | apply below_drew1 | refine below_set ?_ GE152.out)⟩⟩
      case rest =>
        clear HC4
        obtain ⟨kq, x15_3, rfl, HA, HJ3, BK152, HB⟩ := hcut
        cases kq with
        | zero => exact absurd HA.out (by simp [pinfoldref11_Owner.j1])
        | succ kj3 =>
          have H := HA.out
          clear HA
          simp only [pinfoldref11_Owner.j1] at H
          by_cases c10 : x15_3 = true
          · subst c10
            have H1 : (if 0 ≤ x6_1 then (if x6_1 < (l0_3.length : Int) then (if ((rd_T47 l0_3 x6_1).f1) = a1 then (some ((rd_T47 l0_3 x6_1).f0, true)) else (pinfoldref11_Owner.l0 kj3 a1 (wrap64 (x6_1 + 1)) a0_0 a0_1 l0_2 l0_3 a0_4 a0_5 l0_6)) else (none)) else (none)) = some (r1, r2) := by rw [if_pos rfl] at H; exact H
            clear H
            have H := H1
            clear H1
            by_cases c11 : 0 ≤ x6_1
            rotate_left
            · rw [if_neg c11] at H
              exact absurd H (by simp)
            rw [if_pos c11] at H
            have c11b0 : decide (0 ≤ x6_1) = true := decide_eq_true c11
            clear c11
            by_cases c12 : x6_1 < (l0_3.length : Int)
            rotate_left
            · rw [if_neg c12] at H
              exact absurd H (by simp)
            rw [if_pos c12] at H
            have c12b0 : decide (x6_1 < (l0_3.length : Int)) = true := decide_eq_true c12
            clear c12
            by_cases c13 : ((rd_T47 l0_3 x6_1).f1) = a1
            · rw [if_pos c13] at H
              have c13b0 : (((rd_T47 l0_3 x6_1).f1) == a1) = true := beq_iff_eq.mpr c13
              have c13b1 : (((rd_T47 l0_3 x6_1).f1) != a1) = false := bne_eq_false_iff_eq.mpr c13
              clear c13
              simp only [Option.some.injEq, Prod.mk.injEq] at H
              obtain ⟨rfl, rfl⟩ := H
              have hcz14_0 : wc.cell? ⟨gb152, 0, none⟩ = some (.int .i64 a0_0) := (blk_cell BK152.out 0).trans rfl; have hcz14_1 : wc.cell? ⟨gb152, 1, none⟩ = some (.int .i64 a0_1) := (blk_cell BK152.out 1).trans rfl; have hcz14_2 : wc.cell? ⟨gb152, 2, none⟩ = some (.slice A0_2 l0_2.length c0_2) := (blk_cell BK152.out 2).trans rfl; have hcz14_3 : wc.cell? ⟨gb152, 3, none⟩ = some (.slice A0_3 l0_3.length c0_3) := (blk_cell BK152.out 3).trans rfl; have hcz14_4 : wc.cell? ⟨gb152, 4, none⟩ = some (.int .i64 a0_4) := (blk_cell BK152.out 4).trans rfl; have hcz14_5 : wc.cell? ⟨gb152, 5, none⟩ = some (.string a0_5) := (blk_cell BK152.out 5).trans rfl; have hcz14_6 : wc.cell? ⟨gb152, 6, none⟩ = some (.slice A0_6 l0_6.length c0_6) := (blk_cell BK152.out 6).trans rfl; have hfz14_0 := blk_frozen BK152.out 0; have hfz14_1 := blk_frozen BK152.out 1; have hfz14_2 := blk_frozen BK152.out 2; have hfz14_3 := blk_frozen BK152.out 3; have hfz14_4 := blk_frozen BK152.out 4; have hfz14_5 := blk_frozen BK152.out 5; have hfz14_6 := blk_frozen BK152.out 6
              have p154 : 0 ≤ (x6_1 : Int) := of_decide_eq_true (by first | (with_reducible assumption) | assumption)
              have q154 : x6_1 < (l0_3.length : Int) := of_decide_eq_true (by first | (with_reducible assumption) | assumption)
              obtain ⟨ad154, e154, hx154_0, hx154_1⟩ := at_T47 HR0_3.out x6_1 p154 q154
              cases e154
              replace hx154_0 := (HB.out.cell (World.block_lt_of_cell? w _ hx154_0)).trans hx154_0
              replace hx154_1 := (HB.out.cell (World.block_lt_of_cell? w _ hx154_1)).trans hx154_1
              replace p154 := eq_true p154
              replace q154 := eq_true q154
              have p155 : 0 ≤ (x6_1 : Int) := of_decide_eq_true (by first | (with_reducible assumption) | assumption)
              have q155 : x6_1 < (l0_3.length : Int) := of_decide_eq_true (by first | (with_reducible assumption) | assumption)
              obtain ⟨ad155, e155, hx155_0, hx155_1⟩ := at_T47 HR0_3.out x6_1 p155 q155
              obtain rfl : ad154 = ad155 := (by injection e155)
              replace hx155_0 := (HB.out.cell (World.block_lt_of_cell? w _ hx155_0)).trans hx155_0
              replace hx155_1 := (HB.out.cell (World.block_lt_of_cell? w _ hx155_1)).trans hx155_1
              replace p155 := eq_true p155
              replace q155 := eq_true q155
              go_wp2
              go_ret2
              exact ⟨by first | rfl | (simp [errW_none, errW_some] <;> rfl) | (simp [*, errW_none, errW_some] <;> rfl), by repeat (with_reducible first | exact HB.out | apply below_alloc | apply pw_below_drewN | apply below_drew1 | refine below_set ?_ GE152.out)⟩
            rw [if_neg c13] at H
            have c13b0 : (((rd_T47 l0_3 x6_1).f1) == a1) = false := beq_eq_false_iff_ne.mpr c13
            have c13b1 : (((rd_T47 l0_3 x6_1).f1) != a1) = true := bne_iff_ne.mpr c13
            have H' := Aside0.mk H
            clear H
            have hcz15_0 : wc.cell? ⟨gb152, 0, none⟩ = some (.int .i64 a0_0) := (blk_cell BK152.out 0).trans rfl; have hcz15_1 : wc.cell? ⟨gb152, 1, none⟩ = some (.int .i64 a0_1) := (blk_cell BK152.out 1).trans rfl; have hcz15_2 : wc.cell? ⟨gb152, 2, none⟩ = some (.slice A0_2 l0_2.length c0_2) := (blk_cell BK152.out 2).trans rfl; have hcz15_3 : wc.cell? ⟨gb152, 3, none⟩ = some (.slice A0_3 l0_3.length c0_3) := (blk_cell BK152.out 3).trans rfl; have hcz15_4 : wc.cell? ⟨gb152, 4, none⟩ = some (.int .i64 a0_4) := (blk_cell BK152.out 4).trans rfl; have hcz15_5 : wc.cell? ⟨gb152, 5, none⟩ = some (.string a0_5) := (blk_cell BK152.out 5).trans rfl; have hcz15_6 : wc.cell? ⟨gb152, 6, none⟩ = some (.slice A0_6 l0_6.length c0_6) := (blk_cell BK152.out 6).trans rfl; have hfz15_0 := blk_frozen BK152.out 0; have hfz15_1 := blk_frozen BK152.out 1; have hfz15_2 := blk_frozen BK152.out 2; have hfz15_3 := blk_frozen BK152.out 3; have hfz15_4 := blk_frozen BK152.out 4; have hfz15_5 := blk_frozen BK152.out 5; have hfz15_6 := blk_frozen BK152.out 6
            have p154 : 0 ≤ (x6_1 : Int) := of_decide_eq_true (by first | (with_reducible assumption) | assumption)
            have q154 : x6_1 < (l0_3.length : Int) := of_decide_eq_true (by first | (with_reducible assumption) | assumption)
            obtain ⟨ad154, e154, hx154_0, hx154_1⟩ := at_T47 HR0_3.out x6_1 p154 q154
            cases e154
            replace hx154_0 := (HB.out.cell (World.block_lt_of_cell? w _ hx154_0)).trans hx154_0
            replace hx154_1 := (HB.out.cell (World.block_lt_of_cell? w _ hx154_1)).trans hx154_1
            replace p154 := eq_true p154
            replace q154 := eq_true q154
            go_wp2
            go_roundg kj3
            case measure => have := HK1.out; have := HJ3.out; omega
            case rel => exact ⟨(wrap64 (x6_1 + 1)), (by first | rfl | (simp; done) | (simp [*]; done)), H', ⟨by have := HK1.out; have := HJ3.out; omega⟩, ⟨by (with_reducible repeat (first | refine blk_drewN ?_ _ | refine blk_drew ?_ | refine blk_alloc ?_ _)); exact BK152.out⟩, ⟨by repeat (with_reducible first | exact HB.out | apply below_alloc | apply pw_below_drewN | apply below_drew1 | refine below_set ?_ GE152.out)⟩⟩
          replace c10 := Bool.eq_false_iff.mpr c10
          subst c10
          have H1 : (some ((⟨#[]⟩ : ByteArray), false)) = some (r1, r2) := by rw [if_neg (show ¬ (false = true) by decide)] at H; exact H
          clear H
          have H := H1
          clear H1
          simp only [Option.some.injEq, Prod.mk.injEq] at H
          obtain ⟨rfl, rfl⟩ := H
          go_wp2
          go_ret2
          exact ⟨by first | rfl | (simp [errW_none, errW_some] <;> rfl) | (simp [*, errW_none, errW_some] <;> rfl), by repeat (with_reducible first | exact HB.out | apply below_alloc | apply pw_below_drewN | apply below_drew1 | refine below_set ?_ GE152.out)⟩

-- NOT PRINTED: function 40 (conf_Reserved_1)

/-! ### conf_Reserved: function 16 -/
-- BY HAND
-- 20 38
def conf_Reserved.f (a0_0 : Int) (a0_1 : Int) (l0_2 : List Int) (l0_3 : List S47) (a0_4 : Int) (a0_5 : ByteArray) (l0_6 : List S49) (a1 : ByteArray) : Option (Int × Bool) := if confFit l0_2 l0_3 a0_5 l0_6 then some (foundH (reservR a0_0 a0_1 l0_2 l0_3 a0_4 a0_5 l0_6 a1), foundIs (reservR a0_0 a0_1 l0_2 l0_3 a0_4 a0_5 l0_6 a1)) else none
set_option maxHeartbeats 8000000 in
set_option maxRecDepth 100000 in
theorem conf_Reserved.is_ (a1 : ByteArray) (B1 : Nat) (ad : Addr) (x : S47) (w : World) (hc : w.cell? ⟨B1, 0, none⟩ = some (.string a1)) (h0 : w.cell? ad = some (.string x.f0)) (h1 : w.cell? ⟨ad.block, ad.off + 1, none⟩ = some (.int .i64 x.f1)) :
    Calls Tryd.prog 40 #[.pointer (some ad), .pointer (some ⟨B1, 0, none⟩)] w fun e w' => e = .returned (.bool (x.f0.toList == a1.toList)) ∧ Below w.heap.size w w' := by
  go_enter Tryd.func40, Tryd.ntmps40
  go_wp2
  go_quiet (fail)
  go_wp2
  go_ret
  exact ⟨rfl, pw_below_drewN (Below.refl _ _) _⟩
set_option maxHeartbeats 8000000 in
set_option maxRecDepth 100000 in
theorem conf_Reserved.calls (a0_0 : Int) (a0_1 : Int) (A0_2 : Option Addr) (c0_2 : Nat) (l0_2 : List Int) (A0_3 : Option Addr) (c0_3 : Nat) (l0_3 : List S47) (a0_4 : Int) (a0_5 : ByteArray) (A0_6 : Option Addr) (c0_6 : Nat) (l0_6 : List S49) (a1 : ByteArray) (r1 : Int) (r2 : Bool) (w : World) (hr0_2 : Kd.C (Kd.int .i64) w A0_2 l0_2.length l0_2) (hc0_2 : l0_2.length ≤ c0_2) (hr0_3 : Kd.C k47 w A0_3 l0_3.length l0_3) (hc0_3 : l0_3.length ≤ c0_3) (hr0_6 : Kd.C k49 w A0_6 l0_6.length l0_6) (hc0_6 : l0_6.length ≤ c0_6) (h : conf_Reserved.f a0_0 a0_1 l0_2 l0_3 a0_4 a0_5 l0_6 a1 = some (r1, r2)) :
    Calls Tryd.prog 16 #[.agg #[.int .i64 a0_0, .int .i64 a0_1, .slice A0_2 l0_2.length c0_2, .slice A0_3 l0_3.length c0_3, .int .i64 a0_4, .string a0_5, .slice A0_6 l0_6.length c0_6], .string a1] w fun e w' => e = .returned (.tuple #[.int .i64 r1, .bool r2]) ∧ Below w.heap.size w w' := by
  unfold conf_Reserved.f at h
  by_cases hs : confFit l0_2 l0_3 a0_5 l0_6
  rotate_left
  · rw [if_neg hs] at h
    cases h
  rw [if_pos hs] at h
  simp only [Option.some.injEq, Prod.mk.injEq] at h
  obtain ⟨rfl, rfl⟩ := h
  have hm : conf_May.f a0_0 a0_1 l0_2 l0_3 a0_4 a0_5 l0_6 = some (confB a0_0 a0_1 l0_2 l0_3 a0_4 a0_5 l0_6) := by
    unfold conf_May.f
    rw [if_pos hs]
  have eg : ∀ args w, (callFunc 40 args).run Tryd.prog w = .ok (.enter 40 args) w := fun args w => enters_ Tryd.func40 (by kernel_rfl) rfl args w
  obtain ⟨W2, hW2⟩ : ∃ W2, (w.alloc (.cells #[.int .i64 a0_0, .int .i64 a0_1, .slice A0_2 l0_2.length c0_2, .slice A0_3 l0_3.length c0_3, .int .i64 a0_4, .string a0_5, .slice A0_6 l0_6.length c0_6] 26)).alloc (.cells #[.string a1] 9) = W2 := ⟨_, rfl⟩
  have HB := Aside0.mk (show Below w.heap.size w W2 by rw [← hW2]; repeat (first | exact Below.refl _ _ | apply below_alloc))
  have e1 : W2.heap[w.heap.size]? = some (.cells #[.int .i64 a0_0, .int .i64 a0_1, .slice A0_2 l0_2.length c0_2, .slice A0_3 l0_3.length c0_3, .int .i64 a0_4, .string a0_5, .slice A0_6 l0_6.length c0_6] 26) := by
    rw [← hW2]
    exact blk_alloc (blk_new w _) _
  have e2 : W2.heap[w.heap.size + 1]? = some (.cells #[.string a1] 9) := by
    have := blk_new (w.alloc (.cells #[.int .i64 a0_0, .int .i64 a0_1, .slice A0_2 l0_2.length c0_2, .slice A0_3 l0_3.length c0_3, .int .i64 a0_4, .string a0_5, .slice A0_6 l0_6.length c0_6] 26)) (.cells #[.string a1] 9)
    rw [hW2] at this
    simpa using this
  have HF := conf_find.calls (fun x => x.f0.toList == a1.toList) 40 #[.pointer (some ⟨w.heap.size + 1, 0, none⟩)] w.heap.size a0_0 a0_1 A0_2 c0_2 l0_2 A0_3 c0_3 l0_3 a0_4 a0_5 A0_6 c0_6 l0_6 _ W2 e1 (Kd.C_below hr0_2 HB.out) hc0_2 (Kd.C_below hr0_3 HB.out) hc0_3 (Kd.C_below hr0_6 HB.out) hc0_6 hm hs.2.1 eg (fun W ad x hb h0 h1 => conf_Reserved.is_ a1 (w.heap.size + 1) ad x W ((blk_cell (blk_below e2 hb) 0).trans rfl) h0 h1)
  rw [show findS (fun x => x.f0.toList == a1.toList) (confB a0_0 a0_1 l0_2 l0_3 a0_4 a0_5 l0_6) l0_3 = reservR a0_0 a0_1 l0_2 l0_3 a0_4 a0_5 l0_6 a1 from rfl] at HF
  obtain ⟨vN, hN⟩ : ∃ v, foundN (reservR a0_0 a0_1 l0_2 l0_3 a0_4 a0_5 l0_6 a1) = v := ⟨_, rfl⟩
  obtain ⟨vH, hH⟩ : ∃ v, foundH (reservR a0_0 a0_1 l0_2 l0_3 a0_4 a0_5 l0_6 a1) = v := ⟨_, rfl⟩
  obtain ⟨vI, hI⟩ : ∃ v, foundIs (reservR a0_0 a0_1 l0_2 l0_3 a0_4 a0_5 l0_6 a1) = v := ⟨_, rfl⟩
  rw [hN, hH, hI] at HF
  rw [hH, hI]
  replace HF := Aside0.mk HF
  clear hN hH hI hm hs e1 e2 eg hr0_2 hr0_3 hr0_6 hc0_2 hc0_3 hc0_6
  go_enter Tryd.func16, Tryd.ntmps16
  go_wp2_with (first | (go_at_call 38; (try rw [hW2]); (with_reducible refine HF.out.mono ?_); rintro e w4 ⟨rfl, hb4⟩; replace HB := Aside0.mk (below_step HB.out hb4); clear hb4))
  go_ret2
  exact ⟨rfl, by repeat (with_reducible first | exact HB.out | apply below_alloc | apply pw_below_drewN | apply below_drew1 | refine Below.setCell ?_ (by first | exact HB.out.size | (have := HB.out.size; simp; omega)) _)⟩

end Go.Proofs.YtnjnfpnkcapilaaDoor.PConfs
