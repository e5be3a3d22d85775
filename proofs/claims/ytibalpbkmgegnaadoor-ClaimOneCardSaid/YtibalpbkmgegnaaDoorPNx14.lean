-- Made by wip/pr.py out of the translation (a turned copy of the kit's print; contracts by hand where said).
import Derived.Test.YtibalpbkmgegnaaDoorPNx0
import Derived.Test.YtibalpbkmgegnaaDoorPNx2
import Derived.Test.YtibalpbkmgegnaaDoorPNx3
import Derived.Test.YtibalpbkmgegnaaDoorPNx13
namespace Go.Proofs.YtibalpbkmgegnaaDoor.PN
open Go.RowKit Go.Proofs.YtibalpbkmgegnaaDoorW.PrintWords Go.Proofs.YtibalpbkmgegnaaDoorW.PrintLast Go.Proofs.YtibalpbkmgegnaaDoorW.PrintMore
-- shrunk
attribute [local go_sem] max2_int min2_int max_two min_two max_three min_three max_four min_four   -- for this text's walks alone
set_option linter.unusedVariables false
set_option linter.unusedSimpArgs false

/-! ### pinfoldref11_staticMay: function 54 -/
-- BY HAND
def pinfoldref11_staticMay.f (a0_0 : ByteArray) (a0_1 : Int) (a0_2 : Int) (a0_3 : Int) (a0_4 : ByteArray) (a0_5 : ByteArray) (a0_6 : Int) (a1 : ByteArray) : Option Bool := if a0_0.size ≤ 8796093022000 ∧ a0_4.size ≤ 8796093022000 ∧ a1.size ≤ 8796093022000 then some (staticB a1 ⟨a0_0, a0_1, a0_2, a0_3, a0_4, a0_5, a0_6⟩) else none
set_option maxHeartbeats 8000000 in
set_option maxRecDepth 100000 in
theorem pinfoldref11_staticMay.calls (a0_0 : ByteArray) (a0_1 : Int) (a0_2 : Int) (a0_3 : Int) (a0_4 : ByteArray) (a0_5 : ByteArray) (a0_6 : Int) (a1 : ByteArray) (r : Bool) (w : World) (h : pinfoldref11_staticMay.f a0_0 a0_1 a0_2 a0_3 a0_4 a0_5 a0_6 a1 = some r) :
  Calls Tryd.prog 54 #[.agg #[.string a0_0, .int .i64 a0_1, .int .i64 a0_2, .int .i64 a0_3, .string a0_4, .string a0_5, .int .i64 a0_6], .string a1] w fun e w' => e = .returned (.bool r) ∧ Below w.heap.size w w' := by
 unfold pinfoldref11_staticMay.f at h
 by_cases hs : a0_0.size ≤ 8796093022000 ∧ a0_4.size ≤ 8796093022000 ∧ a1.size ≤ 8796093022000
 rotate_left
 ·rw [if_neg hs] at h
  cases h
 rw [if_pos hs] at h
 have HR := e5_ h
 unfold staticB at HR
 obtain ⟨b1, h1⟩ : ∃ b, rrB a0_0 a0_1 a0_2 a0_3 a0_4 a0_5 a0_6 = b := ⟨_, rfl⟩
 obtain ⟨b2, h2⟩ : ∃ b, underB (bytesOf a0_0) (bytesOf a1) = b := ⟨_, rfl⟩
 simp only [h1, h2] at HR
 have C1 := am_ (fun W => pinfoldref1_RrMay.calls a0_0 a0_1 a0_2 a0_3 a0_4 a0_5 a0_6 b1 W (by unfold pinfoldref1_RrMay.f; rw [if_pos ⟨hs.1, hs.2.1⟩, h1]))
 have C2 := am_ (fun W => pinfoldref1_Under_c.calls a0_0 a1 b2 W (by unfold pinfoldref1_Under_c.f; rw [if_pos ⟨hs.1, hs.2.2⟩, h2]))
 replace HR := am_ HR
 have HB := am_ (Below.refl w.heap.size w)
 clear h hs h1 h2
 go_enter Tryd.func54, Tryd.ntmps54
 go_wp2_with (first
  | (go_at_call 70; (with_reducible refine (C1.out _).mono ?_); rintro e w1 ⟨rfl, hb1⟩; have hy1 : w.heap.size < w1.heap.size := (by have := hb1.size; simp at this; omega); have hk1 := kept_ hb1 w.heap.size (by first | (simp; done) | (simp; omega)); replace HB := am_ (bt_ (show Below w.heap.size w _ by repeat (with_reducible first | exact HB.out | apply p3_ | apply p1_ | apply p2_)) hb1); clear hb1)
  | (go_at_call 35; (with_reducible refine (C2.out _).mono ?_); rintro e w2 ⟨rfl, hb1⟩; replace HB := am_ (bt_ (show Below w.heap.size w _ by repeat (with_reducible first | exact HB.out | apply p3_ | apply p1_ | apply p2_)) hb1); clear hb1))
 all_goals go_ret
 all_goals refine ⟨ret_bool ?_, ?_⟩
 all_goals first
  | ((repeat (with_reducible first | exact HB.out | apply p3_ | apply p1_ | apply p2_)); done)
  | (rw [← HR.out]; clear HR C1 C2 HB; simp_all <;> omega)

/-! ### pinfoldref11_ConfMay: function 32 -/
-- BY HAND
-- 33 34 53 54
-- inc refconfmay.inc
section
variable {r : Bool} {a0 a1 : Int} {l2 : List Int} {l3 : List S72} {a4 : Int} {z : ByteArray} {l6 : List S74} {n5 : Bool} {L : List ByteArray}
theorem conf_no (h5 : nameB (bytesOf z) = n5) (hL : labelsS z = L) (HR : confB a0 a1 l2 l3 a4 z l6 = r) (e : ¬ (2 ≤ a0 ∧ a0 ≤ a1 ∧ a1 ≤ 254 ∧ a1 - a0 < 8 ∧ l2.length ≤ 8 ∧ l3.length ≤ 4 ∧ 1 ≤ a4 ∧ a4 ≤ 1048576 ∧ z.toList ≠ [] ∧ n5 = true ∧ L.length ≤ 4 ∧ l6.length ≤ 8)) : false = r := by
 rw [← HR]
 symm
 rw [Bool.eq_false_iff]
 intro e2
 unfold confB hostsB reservedB staticsB hostsB at e2
 rw [h5, hL] at e2
 simp only [Bool.and_eq_true, decide_eq_true_eq, List.length_map] at e2
 exact e ⟨e2.1.1.1, e2.1.1.2.1, e2.1.1.2.2.1, e2.1.1.2.2.2, by omega, by omega, e2.2.1.1, e2.2.1.2, e2.1.2.1, e2.1.2.2.1, e2.1.2.2.2, by omega⟩
/-- what the loops ask. -/
def hostsIn (a b : Int) (l : List Int) : Prop := (∀ x ∈ l, a ≤ x ∧ x ≤ b) ∧ l.Nodup
def resIn (a b : Int) (l : List S72) : Prop := (∀ x ∈ l, a ≤ x.f1 ∧ x.f1 ≤ b ∧ clientB x.f0 = true) ∧ (l.map fun x => x.f1).Nodup ∧ (l.map fun x => x.f0.data.toList).Nodup
theorem conf_yes (h5 : nameB (bytesOf z) = n5) (hL : labelsS z = L) (HR : confB a0 a1 l2 l3 a4 z l6 = r) (e : 2 ≤ a0 ∧ a0 ≤ a1 ∧ a1 ≤ 254 ∧ a1 - a0 < 8 ∧ l2.length ≤ 8 ∧ l3.length ≤ 4 ∧ 1 ≤ a4 ∧ a4 ≤ 1048576 ∧ z.toList ≠ [] ∧ n5 = true ∧ L.length ≤ 4 ∧ l6.length ≤ 8) : r = true ↔ hostsIn a0 a1 l2 ∧ resIn a0 a1 l3 ∧ l6.all (staticB z) = true := by
 rw [← HR]
 unfold confB hostsB reservedB staticsB hostsB hostsIn resIn
 rw [h5, hL]
 simp only [Bool.and_eq_true, decide_eq_true_eq, List.length_map, List.all_eq_true, List.mem_map]
 constructor
 ·rintro ⟨_, _, ⟨h1, h2, _⟩, ⟨h3, h4, h6, h7, _⟩, h8, _⟩
  exact ⟨⟨h1, h2⟩, ⟨fun x hx => ⟨(h6 _ ⟨x, hx, rfl⟩).1, (h6 _ ⟨x, hx, rfl⟩).2, h3 x hx⟩, h7, h4⟩, h8⟩
 ·rintro ⟨⟨h1, h2⟩, ⟨h3, h4, h6⟩, h7⟩
  refine ⟨⟨⟨e.1, e.2.1, e.2.2.1, e.2.2.2.1⟩, e.2.2.2.2.2.2.2.2.1, e.2.2.2.2.2.2.2.2.2.1, e.2.2.2.2.2.2.2.2.2.2.1⟩, ⟨e.2.2.2.2.2.2.1, e.2.2.2.2.2.2.2.1⟩, ⟨h1, h2, by omega⟩, ⟨fun x hx => (h3 x hx).2.2, h6, ?_, h4, by omega⟩, h7, by omega⟩
  rintro _ ⟨x, hx, rfl⟩
  exact ⟨(h3 x hx).1, (h3 x hx).2.1⟩
end
theorem no_of {r : Bool} {p : Prop} (h : r = true ↔ p) (hn : ¬ p) : false = r := by
 cases r with
 | false => rfl
 | true => exact absurd (h.1 rfl) hn
theorem hosts_take {a b : Int} (l : List Int) (i : Int) (h0 : 0 ≤ i) (h1 : i < l.length) : (hostsIn a b l → (a ≤ rd l i ∧ rd l i ≤ b) ∧ rd l i ∉ l.take i.toNat) ∧ (hostsIn a b (l.take i.toNat) → a ≤ rd l i ∧ rd l i ≤ b → rd l i ∉ l.take i.toNat → hostsIn a b (l.take (i.toNat + 1))) := by
 have h : i.toNat < l.length := by omega
 have e : rd l i = l[i.toNat] := by
  unfold rd
  rw [List.getD_eq_getElem?_getD, List.getElem?_eq_getElem h]
  rfl
 have et : l.take (i.toNat + 1) = l.take i.toNat ++ [rd l i] := by rw [e, List.take_succ_eq_append_getElem h]
 refine ⟨fun hh => ⟨hh.1 _ (by rw [e]; exact List.getElem_mem h), fun hm => ?_⟩, fun hh hr hn => ?_⟩
 ·have h3 : (l.take (i.toNat + 1)).Nodup := hh.2.sublist (List.take_sublist _ _)
  rw [et] at h3
  unfold List.Nodup at h3
  rw [List.pairwise_append] at h3
  exact h3.2.2 _ hm _ (List.mem_singleton.2 rfl) rfl
 ·rw [et]
  refine ⟨fun y hy => ?_, nodup_snoc _ _ hh.2 hn⟩
  rw [List.mem_append, List.mem_singleton] at hy
  rcases hy with hy | rfl
  ·exact hh.1 y hy
  ·exact hr
theorem take_rd (l : List Int) (j : Int) (h0 : 0 ≤ j) (h1 : j < l.length) : l.take (j.toNat + 1) = l.take j.toNat ++ [rd l j] := by
 have h : j.toNat < l.length := by omega
 have e := rd_take_succ l j.toNat h
 rw [Int.toNat_of_nonneg h0] at e
 exact e
theorem take_mem (l : List Int) (i j : Int) (h0 : 0 ≤ j) (h : j < i) (h1 : i ≤ l.length) : rd l j ∈ l.take i.toNat := by
 have hj : j.toNat < l.length := by omega
 have e : rd l j = l[j.toNat] := by
  unfold rd
  rw [List.getD_eq_getElem?_getD, List.getElem?_eq_getElem hj]
  rfl
 rw [e, List.mem_take_iff_getElem]
 exact ⟨j.toNat, by omega, rfl⟩
theorem rdR_eq (l : List S72) (j : Int) (h0 : 0 ≤ j) (h1 : j < l.length) : rd_T72 l j = l[j.toNat]'(by omega) := by
 unfold rd_T72
 rw [List.getD_eq_getElem?_getD, List.getElem?_eq_getElem (by omega)]
 rfl
theorem takeR_rd (l : List S72) (j : Int) (h0 : 0 ≤ j) (h1 : j < l.length) : l.take (j.toNat + 1) = l.take j.toNat ++ [rd_T72 l j] := by
 rw [rdR_eq l j h0 h1, List.take_succ_eq_append_getElem (by omega)]
theorem takeR_mem (l : List S72) (i j : Int) (h0 : 0 ≤ j) (h : j < i) (h1 : i ≤ l.length) : rd_T72 l j ∈ l.take i.toNat := by
 rw [rdR_eq l j h0 (by omega), List.mem_take_iff_getElem]
 exact ⟨j.toNat, by omega, rfl⟩
theorem res_take {a b : Int} (l : List S72) (i : Int) (h0 : 0 ≤ i) (h1 : i < l.length) : (resIn a b l → (a ≤ (rd_T72 l i).f1 ∧ (rd_T72 l i).f1 ≤ b ∧ clientB (rd_T72 l i).f0 = true) ∧ ∀ y ∈ l.take i.toNat, y.f1 ≠ (rd_T72 l i).f1 ∧ y.f0.data.toList ≠ (rd_T72 l i).f0.data.toList) ∧ (resIn a b (l.take i.toNat) → (a ≤ (rd_T72 l i).f1 ∧ (rd_T72 l i).f1 ≤ b ∧ clientB (rd_T72 l i).f0 = true) → (∀ y ∈ l.take i.toNat, y.f1 ≠ (rd_T72 l i).f1 ∧ y.f0.data.toList ≠ (rd_T72 l i).f0.data.toList) → resIn a b (l.take (i.toNat + 1))) := by
 have et := takeR_rd l i h0 h1
 have hm : rd_T72 l i ∈ l := by rw [rdR_eq l i h0 h1]; exact List.getElem_mem _
 generalize rd_T72 l i = x at et hm
 refine ⟨fun hh => ⟨hh.1 _ hm, fun y hy => ⟨fun e => ?_, fun e => ?_⟩⟩, fun hh hr hn => ?_⟩
 ·have h3 : ((l.take (i.toNat + 1)).map fun x => x.f1).Nodup := hh.2.1.sublist ((List.take_sublist _ _).map _)
  rw [et, List.map_append] at h3
  unfold List.Nodup at h3
  rw [List.pairwise_append] at h3
  exact h3.2.2 _ (List.mem_map.2 ⟨y, hy, rfl⟩) _ (List.mem_map.2 ⟨x, List.mem_singleton.2 rfl, rfl⟩) e
 ·have h3 : ((l.take (i.toNat + 1)).map fun x => x.f0.data.toList).Nodup := hh.2.2.sublist ((List.take_sublist _ _).map _)
  rw [et, List.map_append] at h3
  unfold List.Nodup at h3
  rw [List.pairwise_append] at h3
  exact h3.2.2 _ (List.mem_map.2 ⟨y, hy, rfl⟩) _ (List.mem_map.2 ⟨x, List.mem_singleton.2 rfl, rfl⟩) e
 ·rw [et]
  refine ⟨fun y hy => ?_, ?_, ?_⟩
  ·rw [List.mem_append, List.mem_singleton] at hy
   rcases hy with hy | rfl
   ·exact hh.1 y hy
   ·exact hr
  ·rw [List.map_append]
   exact nodup_snoc _ _ hh.2.1 (fun hx => by obtain ⟨y, hy, e⟩ := List.mem_map.1 hx; exact (hn y hy).1 e)
  ·rw [List.map_append]
   exact nodup_snoc _ _ hh.2.2 (fun hx => by obtain ⟨y, hy, e⟩ := List.mem_map.1 hx; exact (hn y hy).2 e)
theorem clientMay_eq (s : ByteArray) : pinfoldref11_clientMay.f s = some (clientB s) := by
 unfold pinfoldref11_clientMay.f clientB
 by_cases h1 : (s.size : Int) ≥ 1
 ·rw [if_pos h1, Option.some.injEq, decide_eq_decide]
  omega
 ·rw [if_neg h1, Option.some.injEq, eq_comm, decide_eq_false_iff_not]
  omega
/-- where a record, a zone's name and the records lie. -/
def confMayS (p q0 q1 q2 q3 q4 q5 q6 : Addr) (f0 : ByteArray) (f1 f2 f3 : Int) (f4 f5 : ByteArray) (f6 : Int) (g : Nat) (z : ByteArray) (v6 : Value) (w' : World) : Prop := w'.cell? q0 = some (.string f0) ∧ w'.cell? q1 = some (.int .i64 f1) ∧ w'.cell? q2 = some (.int .i64 f2) ∧ w'.cell? q3 = some (.int .i64 f3) ∧ w'.cell? q4 = some (.string f4) ∧ w'.cell? q5 = some (.string f5) ∧ w'.cell? q6 = some (.int .i64 f6) ∧ w'.cell? ⟨g, 5, none⟩ = some (.string z) ∧ w'.cell? ⟨g, 6, none⟩ = some v6
theorem confMayS_below {p q0 q1 q2 q3 q4 q5 q6 : Addr} {f0 : ByteArray} {f1 f2 f3 : Int} {f4 f5 : ByteArray} {f6 : Int} {g : Nat} {z : ByteArray} {v6 : Value} {w w2 : World} (h : confMayS p q0 q1 q2 q3 q4 q5 q6 f0 f1 f2 f3 f4 f5 f6 g z v6 w) (hb : Below w.heap.size w w2) : confMayS p q0 q1 q2 q3 q4 q5 q6 f0 f1 f2 f3 f4 f5 f6 g z v6 w2 := by
 obtain ⟨s0, s1, s2, s3, s4, s5, s6, s7, s8⟩ := h
 exact ⟨(hb.cell (wb_ _ _ s0)).trans s0, (hb.cell (wb_ _ _ s1)).trans s1, (hb.cell (wb_ _ _ s2)).trans s2, (hb.cell (wb_ _ _ s3)).trans s3, (hb.cell (wb_ _ _ s4)).trans s4, (hb.cell (wb_ _ _ s5)).trans s5, (hb.cell (wb_ _ _ s6)).trans s6, (hb.cell (wb_ _ _ s7)).trans s7, (hb.cell (wb_ _ _ s8)).trans s8⟩
theorem rdS_eq (l : List S74) (j : Int) (h0 : 0 ≤ j) (h1 : j < l.length) : l.take (j.toNat + 1) = l.take j.toNat ++ [rd_T74 l j] ∧ rd_T74 l j ∈ l := by
 have e : rd_T74 l j = l[j.toNat]'(by omega) := by
  unfold rd_T74
  rw [List.getD_eq_getElem?_getD, List.getElem?_eq_getElem (by omega)]
  rfl
 rw [e, List.take_succ_eq_append_getElem (by omega)]
 exact ⟨rfl, List.getElem_mem _⟩
def pinfoldref11_ConfMay.f (a0_0 : Int) (a0_1 : Int) (l0_2 : List Int) (l0_3 : List S72) (a0_4 : Int) (a0_5 : ByteArray) (l0_6 : List S74) : Option Bool := if confFitR l0_2 l0_3 a0_5 l0_6 then some (confB a0_0 a0_1 l0_2 l0_3 a0_4 a0_5 l0_6) else none
set_option maxHeartbeats 8000000 in
set_option maxRecDepth 100000 in
/-- what may not be, ahead of the loops. -/
theorem pinfoldref11_ConfMay.no (a0_0 : Int) (a0_1 : Int) (A0_2 : Option Addr) (c0_2 : Nat) (l0_2 : List Int) (A0_3 : Option Addr) (c0_3 : Nat) (l0_3 : List S72) (a0_4 : Int) (a0_5 : ByteArray) (A0_6 : Option Addr) (c0_6 : Nat) (l0_6 : List S74) (w : World) (n5 : Bool) (L : List ByteArray) (fz : a0_5.size ≤ 8796093022000) (h5 : nameB (bytesOf a0_5) = n5) (hL : labelsS a0_5 = L) (hq : ¬ (2 ≤ a0_0 ∧ a0_0 ≤ a0_1 ∧ a0_1 ≤ 254 ∧ a0_1 - a0_0 < 8 ∧ l0_2.length ≤ 8 ∧ l0_3.length ≤ 4 ∧ 1 ≤ a0_4 ∧ a0_4 ≤ 1048576 ∧ a0_5.toList ≠ [] ∧ n5 = true ∧ L.length ≤ 4 ∧ l0_6.length ≤ 8)) :
  Calls Tryd.prog 32 #[.agg #[.int .i64 a0_0, .int .i64 a0_1, .slice A0_2 l0_2.length c0_2, .slice A0_3 l0_3.length c0_3, .int .i64 a0_4, .string a0_5, .slice A0_6 l0_6.length c0_6]] w fun e w' => e = .returned (.bool false) ∧ Below w.heap.size w w' := by
 have CN := am_ (fun W => pinfoldref1_NameMay_c.calls a0_5 n5 W (by unfold pinfoldref1_NameMay_c.f; rw [if_pos (by omega), h5]))
 have CL := am_ (fun W => pinfoldref1_Labels_c.calls a0_5 L W (by unfold pinfoldref1_Labels_c.f; rw [if_pos (by omega), hL]))
 have HB := am_ (Below.refl w.heap.size w)
 have BK := am_ (blk_new w (.cells #[.int .i64 a0_0, .int .i64 a0_1, .slice A0_2 l0_2.length c0_2, .slice A0_3 l0_3.length c0_3, .int .i64 a0_4, .string a0_5, .slice A0_6 l0_6.length c0_6] 26))
 replace hq := am_ hq
 clear h5 hL fz
 by_cases c1 : a0_0 < 2
 ·clear hq CN CL BK
  go_enter Tryd.func32, Tryd.ntmps32
  go_wp2
  go_ret
  exact ⟨rfl, (by repeat (with_reducible first | exact HB.out | apply p3_ | apply p1_ | apply p2_))⟩
 by_cases c2 : 254 < a0_1
 ·clear hq CN CL BK
  go_enter Tryd.func32, Tryd.ntmps32
  go_wp2
  go_ret
  exact ⟨rfl, (by repeat (with_reducible first | exact HB.out | apply p3_ | apply p1_ | apply p2_))⟩
 by_cases c3 : a0_1 < a0_0
 ·clear hq CN CL BK
  go_enter Tryd.func32, Tryd.ntmps32
  go_wp2
  go_ret
  exact ⟨rfl, (by repeat (with_reducible first | exact HB.out | apply p3_ | apply p1_ | apply p2_))⟩
 by_cases c4 : 8 ≤ a0_1 - a0_0
 ·clear hq CN CL BK
  go_enter Tryd.func32, Tryd.ntmps32
  go_wp2
  go_ret
  exact ⟨rfl, (by repeat (with_reducible first | exact HB.out | apply p3_ | apply p1_ | apply p2_))⟩
 by_cases c5 : (8 : Int) < (l0_2.length : Int)
 ·clear hq CN CL BK
  go_enter Tryd.func32, Tryd.ntmps32
  go_wp2
  go_ret
  exact ⟨rfl, (by repeat (with_reducible first | exact HB.out | apply p3_ | apply p1_ | apply p2_))⟩
 by_cases c6 : (4 : Int) < (l0_3.length : Int)
 ·clear hq CN CL BK
  go_enter Tryd.func32, Tryd.ntmps32
  go_wp2
  go_ret
  exact ⟨rfl, (by repeat (with_reducible first | exact HB.out | apply p3_ | apply p1_ | apply p2_))⟩
 by_cases c7 : a0_4 < 1
 ·clear hq CN CL BK
  go_enter Tryd.func32, Tryd.ntmps32
  go_wp2
  go_ret
  exact ⟨rfl, (by repeat (with_reducible first | exact HB.out | apply p3_ | apply p1_ | apply p2_))⟩
 by_cases c8 : 1048576 < a0_4
 ·clear hq CN CL BK
  go_enter Tryd.func32, Tryd.ntmps32
  go_wp2
  go_ret
  exact ⟨rfl, (by repeat (with_reducible first | exact HB.out | apply p3_ | apply p1_ | apply p2_))⟩
 by_cases c9 : a0_5.toList = []
 ·clear hq CN CL BK
  have c9b : a0_5.toList.isEmpty = true := by simp [c9]
  go_enter Tryd.func32, Tryd.ntmps32
  go_wp2
  go_ret
  exact ⟨rfl, (by repeat (with_reducible first | exact HB.out | apply p3_ | apply p1_ | apply p2_))⟩
 have c9b : a0_5.toList.isEmpty = false := by simpa using c9
 cases n5 with
 | false =>
  clear hq CL
  go_enter Tryd.func32, Tryd.ntmps32
  go_wp2_with (first | (go_at_call 33; (with_reducible refine (CN.out _).mono ?_); rintro e w1 ⟨rfl, hb2⟩; replace BK := am_ (kb_ (blk_new w (.cells #[.int .i64 a0_0, .int .i64 a0_1, .slice A0_2 l0_2.length c0_2, .slice A0_3 l0_3.length c0_3, .int .i64 a0_4, .string a0_5, .slice A0_6 l0_6.length c0_6] 26)) hb2); replace HB := am_ (bt_ (p3_ HB.out (.cells #[.int .i64 a0_0, .int .i64 a0_1, .slice A0_2 l0_2.length c0_2, .slice A0_3 l0_3.length c0_3, .int .i64 a0_4, .string a0_5, .slice A0_6 l0_6.length c0_6] 26)) hb2); clear hb2; have u0 := bc_ BK.out 0; have u1 := bc_ BK.out 1; have u2 := bc_ BK.out 2; have u3 := bc_ BK.out 3; have u4 := bc_ BK.out 4; have u5 := bc_ BK.out 5; have u6 := bc_ BK.out 6))
  go_ret
  exact ⟨rfl, (by repeat (with_reducible first | exact HB.out | apply p3_ | apply p1_ | apply p2_))⟩
 | true =>
 by_cases c11 : (4 : Int) < (L.length : Int)
 ·clear hq
  go_enter Tryd.func32, Tryd.ntmps32
  go_wp2_with (first | (go_at_call 33; (with_reducible refine (CN.out _).mono ?_); rintro e w1 ⟨rfl, hb2⟩; replace BK := am_ (kb_ (blk_new w (.cells #[.int .i64 a0_0, .int .i64 a0_1, .slice A0_2 l0_2.length c0_2, .slice A0_3 l0_3.length c0_3, .int .i64 a0_4, .string a0_5, .slice A0_6 l0_6.length c0_6] 26)) hb2); replace HB := am_ (bt_ (p3_ HB.out (.cells #[.int .i64 a0_0, .int .i64 a0_1, .slice A0_2 l0_2.length c0_2, .slice A0_3 l0_3.length c0_3, .int .i64 a0_4, .string a0_5, .slice A0_6 l0_6.length c0_6] 26)) hb2); clear hb2; have u0 := bc_ BK.out 0; have u1 := bc_ BK.out 1; have u2 := bc_ BK.out 2; have u3 := bc_ BK.out 3; have u4 := bc_ BK.out 4; have u5 := bc_ BK.out 5; have u6 := bc_ BK.out 6) | (go_at_call 34; (with_reducible refine (CL.out _).mono ?_); rintro e w2 ⟨v, rfl, hR, hb2⟩; obtain ⟨A, c, rfl, hcl, hCl⟩ := Kd.R_reads hR; clear hcl hCl hR; replace BK := am_ (kb_ BK.out hb2); replace HB := am_ (bt_ HB.out hb2); clear hb2; clear u0 u1 u2 u3 u4 u5 u6; have u0 := bc_ BK.out 0; have u1 := bc_ BK.out 1; have u2 := bc_ BK.out 2; have u3 := bc_ BK.out 3; have u4 := bc_ BK.out 4; have u5 := bc_ BK.out 5; have u6 := bc_ BK.out 6))
  go_ret
  exact ⟨rfl, (by repeat (with_reducible first | exact HB.out | apply p3_ | apply p1_ | apply p2_))⟩
 by_cases c12 : (8 : Int) < (l0_6.length : Int)
 ·clear hq
  go_enter Tryd.func32, Tryd.ntmps32
  go_wp2_with (first | (go_at_call 33; (with_reducible refine (CN.out _).mono ?_); rintro e w1 ⟨rfl, hb2⟩; replace BK := am_ (kb_ (blk_new w (.cells #[.int .i64 a0_0, .int .i64 a0_1, .slice A0_2 l0_2.length c0_2, .slice A0_3 l0_3.length c0_3, .int .i64 a0_4, .string a0_5, .slice A0_6 l0_6.length c0_6] 26)) hb2); replace HB := am_ (bt_ (p3_ HB.out (.cells #[.int .i64 a0_0, .int .i64 a0_1, .slice A0_2 l0_2.length c0_2, .slice A0_3 l0_3.length c0_3, .int .i64 a0_4, .string a0_5, .slice A0_6 l0_6.length c0_6] 26)) hb2); clear hb2; have u0 := bc_ BK.out 0; have u1 := bc_ BK.out 1; have u2 := bc_ BK.out 2; have u3 := bc_ BK.out 3; have u4 := bc_ BK.out 4; have u5 := bc_ BK.out 5; have u6 := bc_ BK.out 6) | (go_at_call 34; (with_reducible refine (CL.out _).mono ?_); rintro e w2 ⟨v, rfl, hR, hb2⟩; obtain ⟨A, c, rfl, hcl, hCl⟩ := Kd.R_reads hR; clear hcl hCl hR; replace BK := am_ (kb_ BK.out hb2); replace HB := am_ (bt_ HB.out hb2); clear hb2; clear u0 u1 u2 u3 u4 u5 u6; have u0 := bc_ BK.out 0; have u1 := bc_ BK.out 1; have u2 := bc_ BK.out 2; have u3 := bc_ BK.out 3; have u4 := bc_ BK.out 4; have u5 := bc_ BK.out 5; have u6 := bc_ BK.out 6))
  go_ret
  exact ⟨rfl, (by repeat (with_reducible first | exact HB.out | apply p3_ | apply p1_ | apply p2_))⟩
 exact absurd ⟨by omega, by omega, by omega, by omega, by omega, by omega, by omega, by omega, c9, rfl, by omega, by omega⟩ hq.out
set_option maxHeartbeats 8000000 in
set_option maxRecDepth 100000 in
theorem pinfoldref11_ConfMay.calls (a0_0 : Int) (a0_1 : Int) (A0_2 : Option Addr) (c0_2 : Nat) (l0_2 : List Int) (A0_3 : Option Addr) (c0_3 : Nat) (l0_3 : List S72) (a0_4 : Int) (a0_5 : ByteArray) (A0_6 : Option Addr) (c0_6 : Nat) (l0_6 : List S74) (r : Bool) (w : World) (hr0_2 : Kd.C (Kd.int .i64) w A0_2 l0_2.length l0_2) (hc0_2 : l0_2.length ≤ c0_2) (hr0_3 : Kd.C k72 w A0_3 l0_3.length l0_3) (hc0_3 : l0_3.length ≤ c0_3) (hr0_6 : Kd.C k74 w A0_6 l0_6.length l0_6) (hc0_6 : l0_6.length ≤ c0_6) (h : pinfoldref11_ConfMay.f a0_0 a0_1 l0_2 l0_3 a0_4 a0_5 l0_6 = some r) :
  Calls Tryd.prog 32 #[.agg #[.int .i64 a0_0, .int .i64 a0_1, .slice A0_2 l0_2.length c0_2, .slice A0_3 l0_3.length c0_3, .int .i64 a0_4, .string a0_5, .slice A0_6 l0_6.length c0_6]] w fun e w' => e = .returned (.bool r) ∧ Below w.heap.size w w' := by
 unfold pinfoldref11_ConfMay.f at h
 by_cases hs : confFitR l0_2 l0_3 a0_5 l0_6
 rotate_left
 ·rw [if_neg hs] at h
  cases h
 rw [if_pos hs] at h
 have HR := e5_ h
 obtain ⟨f2, f3, fz, f6, fx⟩ := hs
 obtain ⟨n5, h5⟩ : ∃ b, nameB (bytesOf a0_5) = b := ⟨_, rfl⟩
 obtain ⟨L, hL⟩ : ∃ b, labelsS a0_5 = b := ⟨_, rfl⟩
 by_cases hq : 2 ≤ a0_0 ∧ a0_0 ≤ a0_1 ∧ a0_1 ≤ 254 ∧ a0_1 - a0_0 < 8 ∧ l0_2.length ≤ 8 ∧ l0_3.length ≤ 4 ∧ 1 ≤ a0_4 ∧ a0_4 ≤ 1048576 ∧ a0_5.toList ≠ [] ∧ n5 = true ∧ L.length ≤ 4 ∧ l0_6.length ≤ 8
 rotate_left
 ·have hf := conf_no (r := r) h5 hL HR hq
  refine (pinfoldref11_ConfMay.no a0_0 a0_1 A0_2 c0_2 l0_2 A0_3 c0_3 l0_3 a0_4 a0_5 A0_6 c0_6 l0_6 w n5 L fz h5 hL hq).mono ?_
  rintro e w' ⟨rfl, hb⟩
  exact ⟨ret_bool hf, hb⟩
 have q2 := conf_yes (r := r) h5 hL HR hq
 obtain ⟨c1, c2, c3, c4, c5, c6, c7, c8, c9, rfl, c11, c12⟩ := hq
 have CN := am_ (fun W => pinfoldref1_NameMay_c.calls a0_5 true W (by unfold pinfoldref1_NameMay_c.f; rw [if_pos (by omega), h5]))
 have CL := am_ (fun W => pinfoldref1_Labels_c.calls a0_5 L W (by unfold pinfoldref1_Labels_c.f; rw [if_pos (by omega), hL]))
 have HR2 := am_ hr0_2
 have HR3 := am_ hr0_3
 have HR6 := am_ hr0_6
 have HF := am_ (And.intro fz fx)
 replace q2 := am_ q2
 have HB := am_ (Below.refl w.heap.size w)
 have BK := am_ (blk_new w (.cells #[.int .i64 a0_0, .int .i64 a0_1, .slice A0_2 l0_2.length c0_2, .slice A0_3 l0_3.length c0_3, .int .i64 a0_4, .string a0_5, .slice A0_6 l0_6.length c0_6] 26))
 clear h5 hL HR h hr0_2 hr0_3 hr0_6 hc0_2 hc0_3 hc0_6 f2 f3 fz f6 fx
 replace c1 : ¬ a0_0 < 2 := by omega
 replace c3 : ¬ 254 < a0_1 := by omega
 replace c2 : ¬ a0_1 < a0_0 := by omega
 replace c4 : ¬ 8 ≤ a0_1 - a0_0 := by omega
 replace c5 : ¬ (8 : Int) < (l0_2.length : Int) := by omega
 replace c6 : ¬ (4 : Int) < (l0_3.length : Int) := by omega
 replace c7 : ¬ a0_4 < 1 := by omega
 replace c8 : ¬ 1048576 < a0_4 := by omega
 replace c11 : ¬ (4 : Int) < (L.length : Int) := by omega
 replace c12 : ¬ (8 : Int) < (l0_6.length : Int) := by omega
 have c9b : a0_5.toList.isEmpty = false := by simpa using c9
 go_enter Tryd.func32, Tryd.ntmps32
 go_wp2_with (first | (go_at_call 33; (with_reducible refine (CN.out _).mono ?_); rintro e w1 ⟨rfl, hb2⟩; replace BK := am_ (kb_ (blk_new w (.cells #[.int .i64 a0_0, .int .i64 a0_1, .slice A0_2 l0_2.length c0_2, .slice A0_3 l0_3.length c0_3, .int .i64 a0_4, .string a0_5, .slice A0_6 l0_6.length c0_6] 26)) hb2); replace HB := am_ (bt_ (p3_ HB.out (.cells #[.int .i64 a0_0, .int .i64 a0_1, .slice A0_2 l0_2.length c0_2, .slice A0_3 l0_3.length c0_3, .int .i64 a0_4, .string a0_5, .slice A0_6 l0_6.length c0_6] 26)) hb2); clear hb2; have u0 := bc_ BK.out 0; have u1 := bc_ BK.out 1; have u2 := bc_ BK.out 2; have u3 := bc_ BK.out 3; have u4 := bc_ BK.out 4; have u5 := bc_ BK.out 5; have u6 := bc_ BK.out 6) | (go_at_call 34; (with_reducible refine (CL.out _).mono ?_); rintro e w2 ⟨v, rfl, hR, hb2⟩; obtain ⟨A, c, rfl, hcl, hCl⟩ := Kd.R_reads hR; clear hcl hCl hR; replace BK := am_ (kb_ BK.out hb2); replace HB := am_ (bt_ HB.out hb2); clear hb2; clear u0 u1 u2 u3 u4 u5 u6; have u0 := bc_ BK.out 0; have u1 := bc_ BK.out 1; have u2 := bc_ BK.out 2; have u3 := bc_ BK.out 3; have u4 := bc_ BK.out 4; have u5 := bc_ BK.out 5; have u6 := bc_ BK.out 6))
 clear u0 u1 u2 u3 u4 u5 u6 CN CL
 clear c1 c2 c3 c4 c7 c8 c9 c9b c11
 go_loopg [3] l0_2.length (fun d v3 w' => ∃ i : Int, 0 ≤ i ∧ i.toNat + d = l0_2.length ∧ v3 = .int .i64 i ∧ Aside0 (Below w.heap.size w w') ∧ Aside0 (w'.heap[w.heap.size]? = some (.cells #[.int .i64 a0_0, .int .i64 a0_1, .slice A0_2 l0_2.length c0_2, .slice A0_3 l0_3.length c0_3, .int .i64 a0_4, .string a0_5, .slice A0_6 l0_6.length c0_6] 26)) ∧ Aside0 (hostsIn a0_0 a0_1 (l0_2.take i.toNat)))
 case atStart => exact ⟨0, by omega, by simp, rfl, HB, BK, ⟨⟨fun _ h => by simp at h, List.nodup_nil⟩⟩⟩
 case round =>
  clear HB BK
  obtain ⟨i, hi0, hd, rfl, HB, BK, HI⟩ := hrel
  by_cases hlt : i < (l0_2.length : Int)
  ·have u0 := (bc_ BK.out 0).trans (show _ = some _ from rfl); have u1 := (bc_ BK.out 1).trans (show _ = some _ from rfl); have u2 := (bc_ BK.out 2).trans (show _ = some _ from rfl); have u3 := (bc_ BK.out 3).trans (show _ = some _ from rfl); have u4 := (bc_ BK.out 4).trans (show _ = some _ from rfl); have u5 := (bc_ BK.out 5).trans (show _ = some _ from rfl); have u6 := (bc_ BK.out 6).trans (show _ = some _ from rfl)
   obtain ⟨ad, e1, hx0⟩ := Kd.at_int HR2.out i hi0 hlt
   cases e1
   have hxw := am_ hx0
   replace hx0 := (HB.out.cell (wb_ w _ hx0)).trans hx0
   have hfx := hosts_take (a := a0_0) (b := a0_1) l0_2 i hi0 hlt
   generalize rd l0_2 i = x at hx0 hxw hfx
   replace hfx := am_ hfx
   by_cases d1 : x < a0_0
   ·have hf := am_ (show false = r from no_of q2.out (fun e => by have := (hfx.out.1 e.1).1; omega))
    clear q2 HR2 HR3 HR6 HF hfx hxw
    go_wp2
    go_quiet (fail)
    go_wp2
    go_ret
    exact ⟨ret_bool hf.out, (by repeat (with_reducible first | exact HB.out | apply p3_ | apply p1_ | apply p2_))⟩
   by_cases d2 : a0_1 < x
   ·have hf := am_ (show false = r from no_of q2.out (fun e => by have := (hfx.out.1 e.1).1; omega))
    clear q2 HR2 HR3 HR6 HF hfx hxw
    go_wp2
    go_quiet (fail)
    go_wp2
    go_ret
    exact ⟨ret_bool hf.out, (by repeat (with_reducible first | exact HB.out | apply p3_ | apply p1_ | apply p2_))⟩
   have hin := am_ (hfx.out.2 HI.out ⟨by omega, by omega⟩)
   go_wp2
   go_quiet (fail)
   go_wp2
   clear hx0 d1 d2 u0 u1 u2 u3 u4 u5 u6
   go_loopg [4] i.toNat (fun d v4 w' => ∃ j : Int, 0 ≤ j ∧ j.toNat + d = i.toNat ∧ v4 = .int .i64 j ∧ Aside0 (Below w.heap.size w w') ∧ Aside0 (w'.heap[w.heap.size]? = some (.cells #[.int .i64 a0_0, .int .i64 a0_1, .slice (some ad) l0_2.length c0_2, .slice A0_3 l0_3.length c0_3, .int .i64 a0_4, .string a0_5, .slice A0_6 l0_6.length c0_6] 26)) ∧ Aside0 (x ∉ l0_2.take j.toNat))
   case atStart => exact ⟨0, by omega, by simp, rfl, ⟨(by repeat (with_reducible first | exact HB.out | apply p3_ | apply p1_ | apply p2_))⟩, ⟨(by (with_reducible repeat (first | exact BK.out | refine k2_ ?_ _ | refine k3_ ?_ | refine k1_ ?_ _)))⟩, ⟨by simp⟩⟩
   case round =>
    clear HB BK
    obtain ⟨j, hj0, hdj, rfl, HB, BK, HJ⟩ := hrel
    by_cases jlt : j < i
    ·have u0 := (bc_ BK.out 0).trans (show _ = some _ from rfl); have u1 := (bc_ BK.out 1).trans (show _ = some _ from rfl); have u2 := (bc_ BK.out 2).trans (show _ = some _ from rfl); have u3 := (bc_ BK.out 3).trans (show _ = some _ from rfl); have u4 := (bc_ BK.out 4).trans (show _ = some _ from rfl); have u5 := (bc_ BK.out 5).trans (show _ = some _ from rfl); have u6 := (bc_ BK.out 6).trans (show _ = some _ from rfl)
     obtain ⟨ad2, e2, hy0⟩ := Kd.at_int HR2.out j hj0 (by omega)
     obtain rfl := e5_ e2
     clear e2
     have hx0 := (HB.out.cell (wb_ w _ hxw.out)).trans hxw.out
     replace hy0 := (HB.out.cell (wb_ w _ hy0)).trans hy0
     have htk := take_rd l0_2 j hj0 (by omega)
     have hmm := take_mem l0_2 i j hj0 jlt (by omega)
     generalize rd l0_2 j = y at hy0 htk hmm
     have jlt2 : j < (l0_2.length : Int) := by omega
     by_cases e : y = x
     ·subst e
      have hf := am_ (show false = r from no_of q2.out (fun e => (hfx.out.1 e.1).2 hmm))
      clear q2 HR2 HR3 HR6 HF hfx hxw HI hin HJ htk hmm
      go_wp2
      go_quiet (fail)
      go_wp2
      go_ret
      exact ⟨ret_bool hf.out, (by repeat (with_reducible first | exact HB.out | apply p3_ | apply p1_ | apply p2_))⟩
     ·have HN := am_ (show x ∉ l0_2.take (j.toNat + 1) by rw [htk, List.mem_append, List.mem_singleton]; rintro (h | h); exact HJ.out h; exact e h.symm)
      clear htk hmm
      go_wp2
      go_quiet (fail)
      go_wp2
      go_roundg (i.toNat - (j.toNat + 1))
      case measure => first | omega | (simp; omega)
      case rel =>
       have e2 : (j + 1).toNat = j.toNat + 1 := by omega
       exact ⟨j + 1, by omega, by omega, by go_num, ⟨(by repeat (with_reducible first | exact HB.out | apply p3_ | apply p1_ | apply p2_))⟩, ⟨(by (with_reducible repeat (first | exact BK.out | refine k2_ ?_ _ | refine k3_ ?_ | refine k1_ ?_ _)))⟩, ⟨by rw [e2]; exact HN.out⟩⟩
    ·have e3 : j.toNat = i.toNat := by omega
     have HN := am_ (hin.out (by rw [← e3]; exact HJ.out))
     clear hxw hfx hin HJ e3
     go_wp2
     go_roundg (l0_2.length - (i.toNat + 1))
     case measure => first | omega | (simp; omega)
     case rel =>
      have e2 : (i + 1).toNat = i.toNat + 1 := by omega
      exact ⟨i + 1, by omega, by omega, by go_num, ⟨(by repeat (with_reducible first | exact HB.out | apply p3_ | apply p1_ | apply p2_))⟩, ⟨(by (with_reducible repeat (first | exact BK.out | refine k2_ ?_ _ | refine k3_ ?_ | refine k1_ ?_ _)))⟩, ⟨by rw [e2]; exact HN.out⟩⟩
  ·have HI2 := am_ (show hostsIn a0_0 a0_1 l0_2 by have h1 := HI.out; rw [List.take_of_length_le (by omega)] at h1; exact h1)
   have u0 := (bc_ BK.out 0).trans (show _ = some _ from rfl); have u1 := (bc_ BK.out 1).trans (show _ = some _ from rfl); have u2 := (bc_ BK.out 2).trans (show _ = some _ from rfl); have u3 := (bc_ BK.out 3).trans (show _ = some _ from rfl); have u4 := (bc_ BK.out 4).trans (show _ = some _ from rfl); have u5 := (bc_ BK.out 5).trans (show _ = some _ from rfl); have u6 := (bc_ BK.out 6).trans (show _ = some _ from rfl)
   clear HI
   go_wp2
   clear u0 u1 u2 u3 u4 u5 u6
   go_loopg [5] l0_3.length (fun d v5 w' => ∃ k : Int, 0 ≤ k ∧ k.toNat + d = l0_3.length ∧ v5 = .int .i64 k ∧ Aside0 (Below w.heap.size w w') ∧ Aside0 (w'.heap[w.heap.size]? = some (.cells #[.int .i64 a0_0, .int .i64 a0_1, .slice A0_2 l0_2.length c0_2, .slice A0_3 l0_3.length c0_3, .int .i64 a0_4, .string a0_5, .slice A0_6 l0_6.length c0_6] 26)) ∧ Aside0 (resIn a0_0 a0_1 (l0_3.take k.toNat)))
   case atStart => exact ⟨0, by omega, by simp, rfl, HB, BK, ⟨⟨fun _ h => by simp at h, List.nodup_nil, List.nodup_nil⟩⟩⟩
   case round =>
    clear HB BK
    obtain ⟨k, hk0, hdk, rfl, HB, BK, HK⟩ := hrel
    obtain ⟨wo, hwo⟩ : ∃ x, x = wr := ⟨wr, rfl⟩
    subst hwo
    by_cases klt : k < (l0_3.length : Int)
    ·have u0 := (bc_ BK.out 0).trans (show _ = some _ from rfl); have u1 := (bc_ BK.out 1).trans (show _ = some _ from rfl); have u2 := (bc_ BK.out 2).trans (show _ = some _ from rfl); have u3 := (bc_ BK.out 3).trans (show _ = some _ from rfl); have u4 := (bc_ BK.out 4).trans (show _ = some _ from rfl); have u5 := (bc_ BK.out 5).trans (show _ = some _ from rfl); have u6 := (bc_ BK.out 6).trans (show _ = some _ from rfl)
     obtain ⟨ad, e1, hx0, hx1⟩ := at_T72 HR3.out k hk0 klt
     cases e1
     replace hx0 := (HB.out.cell (wb_ w _ hx0)).trans hx0
     replace hx1 := (HB.out.cell (wb_ w _ hx1)).trans hx1
     have hfx := res_take (a := a0_0) (b := a0_1) l0_3 k hk0 klt
     generalize rd_T72 l0_3 k = x at hx0 hx1 hfx
     obtain ⟨s, ho⟩ := x
     simp only at hx0 hx1 hfx
     replace hfx := am_ hfx
     obtain ⟨b1, hb1⟩ : ∃ b, clientB s = b := ⟨_, rfl⟩
     have CC := am_ (fun W => pinfoldref11_clientMay.calls s b1 W (by rw [← hb1]; exact clientMay_eq s))
     have BX := am_ (blk_new wo (.cells #[.string s, .int .i64 ho] 72))
     replace hb1 := am_ hb1
     have z0 := (bc_ (k1_ BK.out (.cells #[.string s, .int .i64 ho] 72)) 0).trans (show _ = some _ from rfl); have z1 := (bc_ (k1_ BK.out (.cells #[.string s, .int .i64 ho] 72)) 1).trans (show _ = some _ from rfl); have z2 := (bc_ (k1_ BK.out (.cells #[.string s, .int .i64 ho] 72)) 2).trans (show _ = some _ from rfl); have z3 := (bc_ (k1_ BK.out (.cells #[.string s, .int .i64 ho] 72)) 3).trans (show _ = some _ from rfl); have z4 := (bc_ (k1_ BK.out (.cells #[.string s, .int .i64 ho] 72)) 4).trans (show _ = some _ from rfl); have z5 := (bc_ (k1_ BK.out (.cells #[.string s, .int .i64 ho] 72)) 5).trans (show _ = some _ from rfl); have z6 := (bc_ (k1_ BK.out (.cells #[.string s, .int .i64 ho] 72)) 6).trans (show _ = some _ from rfl)
     have hres : ∀ (e : hostsIn a0_0 a0_1 l0_2 ∧ resIn a0_0 a0_1 l0_3 ∧ l0_6.all (staticB a0_5) = true), (a0_0 ≤ ho ∧ ho ≤ a0_1 ∧ clientB s = true) ∧ ∀ y ∈ l0_3.take k.toNat, y.f1 ≠ ho ∧ y.f0.data.toList ≠ s.data.toList := fun e => hfx.out.1 e.2.1
     by_cases d1 : ho < a0_0
     ·have hf := am_ (show false = r from no_of q2.out (fun e => by have := (hres e).1; omega))
      clear hres
      clear q2 HR2 HR3 HR6 HF hfx HK HI2 hb1 BX
      go_wp2_with (go_at_call 53; (with_reducible refine (CC.out _).mono ?_); rintro e w3 ⟨rfl, ⟨nd, rfl⟩⟩)
      go_ret
      exact ⟨ret_bool hf.out, (by repeat (with_reducible first | exact HB.out | apply p3_ | apply p1_ | apply p2_))⟩
     by_cases d2 : a0_1 < ho
     ·have hf := am_ (show false = r from no_of q2.out (fun e => by have := (hres e).1; omega))
      clear hres
      clear q2 HR2 HR3 HR6 HF hfx HK HI2 hb1 BX
      go_wp2_with (go_at_call 53; (with_reducible refine (CC.out _).mono ?_); rintro e w3 ⟨rfl, ⟨nd, rfl⟩⟩)
      go_ret
      exact ⟨ret_bool hf.out, (by repeat (with_reducible first | exact HB.out | apply p3_ | apply p1_ | apply p2_))⟩
     cases b1 with
     | false =>
      have hf := am_ (show false = r from no_of q2.out (fun e => by have := (hres e).1.2.2; rw [hb1.out] at this; cases this))
      clear hres
      clear q2 HR2 HR3 HR6 HF hfx HK HI2 hb1 BX
      go_wp2_with (go_at_call 53; (with_reducible refine (CC.out _).mono ?_); rintro e w3 ⟨rfl, ⟨nd, rfl⟩⟩)
      go_ret
      exact ⟨ret_bool hf.out, (by repeat (with_reducible first | exact HB.out | apply p3_ | apply p1_ | apply p2_))⟩
     | true =>
      have hin := am_ (hfx.out.2 HK.out ⟨by omega, by omega, hb1.out⟩)
      replace hres := am_ hres
      go_wp2_with (go_at_call 53; (with_reducible refine (CC.out _).mono ?_); rintro e w3 ⟨rfl, ⟨nd, rfl⟩⟩)
      clear CC hb1 hx0 hx1 d1 d2 u0 u1 u2 u3 u4 u5 u6 z0 z1 z2 z3 z4 z5 z6
      go_loopg [7] k.toNat (fun d v7 w' => ∃ j : Int, 0 ≤ j ∧ j.toNat + d = k.toNat ∧ v7 = .int .i64 j ∧ Aside0 (Below w.heap.size w w') ∧ Aside0 (w'.heap[w.heap.size]? = some (.cells #[.int .i64 a0_0, .int .i64 a0_1, .slice A0_2 l0_2.length c0_2, .slice (some ad) l0_3.length c0_3, .int .i64 a0_4, .string a0_5, .slice A0_6 l0_6.length c0_6] 26)) ∧ Aside0 (w'.heap[wo.heap.size]? = some (.cells #[.string s, .int .i64 ho] 72)) ∧ Aside0 (∀ y ∈ l0_3.take j.toNat, y.f1 ≠ ho ∧ y.f0.data.toList ≠ s.data.toList))
      case atStart => exact ⟨0, by omega, by simp, rfl, ⟨(by repeat (with_reducible first | exact HB.out | apply p3_ | apply p1_ | apply p2_))⟩, ⟨(by (with_reducible repeat (first | exact BK.out | refine k2_ ?_ _ | refine k3_ ?_ | refine k1_ ?_ _)))⟩, ⟨BX.out⟩, ⟨by simp⟩⟩
      case round =>
       clear HB BK BX
       obtain ⟨j, hj0, hdj, rfl, HB, BK, BX, HJ⟩ := hrel
       by_cases jlt : j < k
       ·have u0 := (bc_ BK.out 0).trans (show _ = some _ from rfl); have u1 := (bc_ BK.out 1).trans (show _ = some _ from rfl); have u2 := (bc_ BK.out 2).trans (show _ = some _ from rfl); have u3 := (bc_ BK.out 3).trans (show _ = some _ from rfl); have u4 := (bc_ BK.out 4).trans (show _ = some _ from rfl); have u5 := (bc_ BK.out 5).trans (show _ = some _ from rfl); have u6 := (bc_ BK.out 6).trans (show _ = some _ from rfl)
        have v0 := (bc_ BX.out 0).trans (show _ = some _ from rfl)
        have v1 := (bc_ BX.out 1).trans (show _ = some _ from rfl)
        obtain ⟨ad2, e2, hy0, hy1⟩ := at_T72 HR3.out j hj0 (by omega)
        obtain rfl := e5_ e2
        clear e2
        replace hy0 := (HB.out.cell (wb_ w _ hy0)).trans hy0
        replace hy1 := (HB.out.cell (wb_ w _ hy1)).trans hy1
        have htk := takeR_rd l0_3 j hj0 (by omega)
        have hmm := takeR_mem l0_3 k j hj0 jlt (by omega)
        generalize rd_T72 l0_3 j = y at hy0 hy1 htk hmm
        obtain ⟨ys, yh⟩ := y
        simp only at hy0 hy1
        have jlt2 : j < (l0_3.length : Int) := by omega
        by_cases eA : yh = ho
        ·have hf := am_ (show false = r from no_of q2.out (fun e => ((hres.out e).2 _ hmm).1 eA))
         clear q2 HR2 HR3 HR6 HF hfx hres HK HI2 hin HJ htk hmm
         go_wp2
         go_quiet (fail)
         go_wp2
         go_ret
         exact ⟨ret_bool hf.out, (by repeat (with_reducible first | exact HB.out | apply p3_ | apply p1_ | apply p2_))⟩
        by_cases eB : ys.toList = s.toList
        ·have hf := am_ (show false = r from no_of q2.out (fun e => ((hres.out e).2 _ hmm).2 (by show ys.data.toList = s.data.toList; rw [← ByteArray.toList_eq, ← ByteArray.toList_eq]; exact eB)))
         clear q2 HR2 HR3 HR6 HF hfx hres HK HI2 hin HJ htk hmm
         go_wp2
         go_quiet (fail)
         go_wp2
         go_ret
         exact ⟨ret_bool hf.out, (by repeat (with_reducible first | exact HB.out | apply p3_ | apply p1_ | apply p2_))⟩
        have HN := am_ (show ∀ y ∈ l0_3.take (j.toNat + 1), y.f1 ≠ ho ∧ y.f0.data.toList ≠ s.data.toList by rw [htk]; intro y hy; rw [List.mem_append, List.mem_singleton] at hy; rcases hy with hy | rfl; exact HJ.out y hy; exact ⟨eA, by show ys.data.toList ≠ s.data.toList; rw [← ByteArray.toList_eq, ← ByteArray.toList_eq]; exact eB⟩)
        have eA2 : (yh == ho) = false := by simpa using eA
        have eB2 : (ys.toList == s.toList) = false := by simpa using eB
        clear htk hmm
        go_wp2
        go_quiet (fail)
        go_wp2
        go_roundg (k.toNat - (j.toNat + 1))
        case measure => first | omega | (simp; omega)
        case rel =>
         have e2 : (j + 1).toNat = j.toNat + 1 := by omega
         exact ⟨j + 1, by omega, by omega, by go_num, ⟨(by repeat (with_reducible first | exact HB.out | apply p3_ | apply p1_ | apply p2_))⟩, ⟨(by (with_reducible repeat (first | exact BK.out | refine k2_ ?_ _ | refine k3_ ?_ | refine k1_ ?_ _)))⟩, ⟨BX.out⟩, ⟨by rw [e2]; exact HN.out⟩⟩
       ·have e3 : j.toNat = k.toNat := by omega
        have HN := am_ (hin.out (by rw [← e3]; exact HJ.out))
        clear hfx hin HJ e3 hres BX
        go_wp2
        go_roundg (l0_3.length - (k.toNat + 1))
        case measure => first | omega | (simp; omega)
        case rel =>
         have e2 : (k + 1).toNat = k.toNat + 1 := by omega
         exact ⟨k + 1, by omega, by omega, by go_num, ⟨(by repeat (with_reducible first | exact HB.out | apply p3_ | apply p1_ | apply p2_))⟩, ⟨(by (with_reducible repeat (first | exact BK.out | refine k2_ ?_ _ | refine k3_ ?_ | refine k1_ ?_ _)))⟩, ⟨by rw [e2]; exact HN.out⟩⟩
    ·have HK2 := am_ (show resIn a0_0 a0_1 l0_3 by have h1 := HK.out; rw [List.take_of_length_le (by omega)] at h1; exact h1)
     have u0 := (bc_ BK.out 0).trans (show _ = some _ from rfl); have u1 := (bc_ BK.out 1).trans (show _ = some _ from rfl); have u2 := (bc_ BK.out 2).trans (show _ = some _ from rfl); have u3 := (bc_ BK.out 3).trans (show _ = some _ from rfl); have u4 := (bc_ BK.out 4).trans (show _ = some _ from rfl); have u5 := (bc_ BK.out 5).trans (show _ = some _ from rfl); have u6 := (bc_ BK.out 6).trans (show _ = some _ from rfl)
     clear HK
     go_wp2
     clear u0 u1 u2 u3 u4 u5 u6
     go_loopg [8] l0_6.length (fun d v8 w' => ∃ m : Int, 0 ≤ m ∧ m.toNat + d = l0_6.length ∧ v8 = .int .i64 m ∧ Aside0 (Below w.heap.size w w') ∧ Aside0 (w'.heap[w.heap.size]? = some (.cells #[.int .i64 a0_0, .int .i64 a0_1, .slice A0_2 l0_2.length c0_2, .slice A0_3 l0_3.length c0_3, .int .i64 a0_4, .string a0_5, .slice A0_6 l0_6.length c0_6] 26)) ∧ Aside0 ((l0_6.take m.toNat).all (staticB a0_5) = true))
     case atStart => exact ⟨0, by omega, by simp, rfl, HB, BK, ⟨by simp⟩⟩
     case round =>
      clear HB BK
      obtain ⟨m, hm0, hdm, rfl, HB, BK, HM⟩ := hrel
      by_cases mlt : m < (l0_6.length : Int)
      ·have u0 := (bc_ BK.out 0).trans (show _ = some _ from rfl); have u1 := (bc_ BK.out 1).trans (show _ = some _ from rfl); have u2 := (bc_ BK.out 2).trans (show _ = some _ from rfl); have u3 := (bc_ BK.out 3).trans (show _ = some _ from rfl); have u4 := (bc_ BK.out 4).trans (show _ = some _ from rfl); have u5 := (bc_ BK.out 5).trans (show _ = some _ from rfl); have u6 := (bc_ BK.out 6).trans (show _ = some _ from rfl)
       obtain ⟨ad, e1, hx0, hx1, hx2, hx3, hx4, hx5, hx6⟩ := at_T74 HR6.out m hm0 mlt
       cases e1
       replace hx0 := (HB.out.cell (wb_ w _ hx0)).trans hx0; replace hx1 := (HB.out.cell (wb_ w _ hx1)).trans hx1; replace hx2 := (HB.out.cell (wb_ w _ hx2)).trans hx2; replace hx3 := (HB.out.cell (wb_ w _ hx3)).trans hx3; replace hx4 := (HB.out.cell (wb_ w _ hx4)).trans hx4; replace hx5 := (HB.out.cell (wb_ w _ hx5)).trans hx5; replace hx6 := (HB.out.cell (wb_ w _ hx6)).trans hx6
       obtain ⟨htk, hmem⟩ := rdS_eq l0_6 m hm0 mlt
       have hsz := HF.out.2 _ hmem
       generalize rd_T74 l0_6 m = x at hx0 hx1 hx2 hx3 hx4 hx5 hx6 htk hmem hsz
       obtain ⟨f0, f1, f2, f3, f4, f5, f6⟩ := x
       simp only at hx0 hx1 hx2 hx3 hx4 hx5 hx6 hsz
       obtain ⟨b1, hb1⟩ : ∃ b, staticB a0_5 ⟨f0, f1, f2, f3, f4, f5, f6⟩ = b := ⟨_, rfl⟩
       have CS := am_ (fun W => pinfoldref11_staticMay.calls f0 f1 f2 f3 f4 f5 f6 a0_5 b1 W (by unfold pinfoldref11_staticMay.f; rw [if_pos ⟨hsz.1, hsz.2, HF.out.1⟩, hb1]))
       have hno := am_ (fun e : b1 = false => show false = r from no_of q2.out (fun e2 => by have := List.all_eq_true.1 e2.2.2 _ hmem; rw [hb1, e] at this; cases this))
       have hyes := am_ (fun e : b1 = true => show (l0_6.take (m.toNat + 1)).all (staticB a0_5) = true by rw [htk, List.all_append, HM.out, List.all_cons, hb1, e]; rfl)
       clear hb1 htk hmem hsz
       go_wp2_with fail
       have HB1 := am_ (below_drew HB.out)
       have BK1 := am_ (k3_ BK.out)
       refine seqS (S := confMayS ad (ad.add (m.toNat * 7)) ⟨(ad.add (m.toNat * 7)).block, (ad.add (m.toNat * 7)).off + 1, none⟩ ⟨(ad.add (m.toNat * 7)).block, (ad.add (m.toNat * 7)).off + 2, none⟩ ⟨(ad.add (m.toNat * 7)).block, (ad.add (m.toNat * 7)).off + 3, none⟩ ⟨(ad.add (m.toNat * 7)).block, (ad.add (m.toNat * 7)).off + 4, none⟩ ⟨(ad.add (m.toNat * 7)).block, (ad.add (m.toNat * 7)).off + 5, none⟩ ⟨(ad.add (m.toNat * 7)).block, (ad.add (m.toNat * 7)).off + 6, none⟩ f0 f1 f2 f3 f4 f5 f6 w.heap.size a0_5 (.slice (some ad) l0_6.length c0_6)) 9 (by kernel_rfl) rfl rfl ⟨hx0, hx1, hx2, hx3, hx4, hx5, hx6, u5, u6⟩ ?_
       intro hHeld
       iterate 7 first | (refine seqP (v := ?_) (a' := ?_) rfl rfl (by kernel_rfl) (fun _ _ _ h => h) (Or.inl ⟨by kernel_rfl, ?_⟩) ?_ ?_; rotate_left; (intro w'; go_simp; with_reducible rfl); rotate_left; (simp only [Act.put, sa_, sb_, sc_, i64_w, i32_w]; rfl)) | (refine seqL (v := ?_) (a' := ?_) rfl rfl (by kernel_rfl) (fun _ _ _ h => h) (Or.inl ⟨by kernel_rfl, ?_⟩) hHeld ?_ ?_; rotate_left; (rintro w' ⟨s0, s1, s2, s3, s4, s5, s6, s7, s8⟩; go_simp; with_reducible rfl); rotate_left; (simp only [Act.put, sa_, sb_, sc_, i64_w, i32_w]; rfl))
       refine seqG (fn := Tryd.f54) rfl rfl (by kernel_rfl) rfl Tryd.func54 (by kernel_rfl) (by kernel_rfl) #[.agg #[.string f0, .int .i64 f1, .int .i64 f2, .int .i64 f3, .string f4, .string f5, .int .i64 f6], .string a0_5] (by kernel_rfl) (by (try simp only [List.map_toArray, List.map_cons, List.map_nil]); first | done | rfl) ?_
       with_reducible refine (CS.out _).mono ?_
       rintro e w3 ⟨rfl, hb2⟩
       replace HB := am_ (bt_ HB1.out hb2)
       replace BK := am_ (kb_ BK1.out hb2)
       refine ⟨_, rfl, confMayS_below hHeld hb2, fun hHeld => ⟨?_, ?_, ?_⟩⟩
       rotate_left
       ·simp only [Act.put, sa_, sb_, sc_, i64_w, i32_w]
        rfl
       iterate 1 first | (refine seqP (v := ?_) (a' := ?_) rfl rfl (by kernel_rfl) (fun _ _ _ h => h) (Or.inl ⟨by kernel_rfl, ?_⟩) ?_ ?_; rotate_left; (intro w'; go_simp; with_reducible rfl); rotate_left; (simp only [Act.put, sa_, sb_, sc_, i64_w, i32_w]; rfl)) | (refine seqL (v := ?_) (a' := ?_) rfl rfl (by kernel_rfl) (fun _ _ _ h => h) (Or.inl ⟨by kernel_rfl, ?_⟩) hHeld ?_ ?_; rotate_left; (rintro w' ⟨s0, s1, s2, s3, s4, s5, s6, s7, s8⟩; go_simp; with_reducible rfl); rotate_left; (simp only [Act.put, sa_, sb_, sc_, i64_w, i32_w]; rfl))
       refine seqE (by kernel_rfl) ?_
       cases b1 with
       | false =>
        have hf := am_ (hno.out rfl)
        clear q2 HR2 HR3 HR6 HF HM HI2 HK2 hno hyes CS
        go_wp2
        go_ret
        exact ⟨ret_bool hf.out, HB.out⟩
       | true =>
        have HN := am_ (hyes.out rfl)
        clear hno hyes CS
        go_wp2
        go_roundg (l0_6.length - (m.toNat + 1))
        case measure => first | omega | (simp; omega)
        case rel =>
         have e2 : (m + 1).toNat = m.toNat + 1 := by omega
         exact ⟨m + 1, by omega, by omega, by go_num, HB, BK, ⟨by rw [e2]; exact HN.out⟩⟩
      ·have hr := am_ (show true = r from (q2.out.2 ⟨HI2.out, HK2.out, by have h1 := HM.out; rw [List.take_of_length_le (by omega)] at h1; exact h1⟩).symm)
       clear q2 HR2 HR3 HR6 HF HM HI2 HK2
       have u0 := (bc_ BK.out 0).trans (show _ = some _ from rfl); have u1 := (bc_ BK.out 1).trans (show _ = some _ from rfl); have u2 := (bc_ BK.out 2).trans (show _ = some _ from rfl); have u3 := (bc_ BK.out 3).trans (show _ = some _ from rfl); have u4 := (bc_ BK.out 4).trans (show _ = some _ from rfl); have u5 := (bc_ BK.out 5).trans (show _ = some _ from rfl); have u6 := (bc_ BK.out 6).trans (show _ = some _ from rfl)
       go_wp2
       go_ret
       exact ⟨ret_bool hr.out, (by repeat (with_reducible first | exact HB.out | apply p3_ | apply p1_ | apply p2_))⟩

/-! ### pinfoldref11_Usable: function 13 -/
-- BY HAND
-- 32
def pinfoldref11_Usable_c.f (a0_0 : Int) (a0_1 : Int) (l0_2 : List Int) (l0_3 : List S72) (a0_4 : Int) (a0_5 : ByteArray) (l0_6 : List S74) (a1 : Int) : Option Bool := if confFitR l0_2 l0_3 a0_5 l0_6 then some (usableB a0_0 a0_1 l0_2 l0_3 a0_4 a0_5 l0_6 a1) else none
set_option maxHeartbeats 8000000 in
set_option maxRecDepth 100000 in
theorem pinfoldref11_Usable_c.calls (a0_0 : Int) (a0_1 : Int) (A0_2 : Option Addr) (c0_2 : Nat) (l0_2 : List Int) (A0_3 : Option Addr) (c0_3 : Nat) (l0_3 : List S72) (a0_4 : Int) (a0_5 : ByteArray) (A0_6 : Option Addr) (c0_6 : Nat) (l0_6 : List S74) (a1 : Int) (r : Bool) (w : World) (hr0_2 : Kd.C (Kd.int .i64) w A0_2 l0_2.length l0_2) (hc0_2 : l0_2.length ≤ c0_2) (hr0_3 : Kd.C k72 w A0_3 l0_3.length l0_3) (hc0_3 : l0_3.length ≤ c0_3) (hr0_6 : Kd.C k74 w A0_6 l0_6.length l0_6) (hc0_6 : l0_6.length ≤ c0_6) (h : pinfoldref11_Usable_c.f a0_0 a0_1 l0_2 l0_3 a0_4 a0_5 l0_6 a1 = some r) :
  Calls Tryd.prog 13 #[.agg #[.int .i64 a0_0, .int .i64 a0_1, .slice A0_2 l0_2.length c0_2, .slice A0_3 l0_3.length c0_3, .int .i64 a0_4, .string a0_5, .slice A0_6 l0_6.length c0_6], .int .i64 a1] w fun e w' => e = .returned (.bool r) ∧ Below w.heap.size w w' := by
 unfold pinfoldref11_Usable_c.f at h
 by_cases hs : confFitR l0_2 l0_3 a0_5 l0_6
 rotate_left
 ·rw [if_neg hs] at h
  cases h
 rw [if_pos hs] at h
 have HR : (decide (a1 ∉ l0_2) && (confB a0_0 a0_1 l0_2 l0_3 a0_4 a0_5 l0_6 && decide (a0_0 ≤ a1 ∧ a1 ≤ a0_1))) = r := e5_ h
 obtain ⟨b1, h1⟩ : ∃ b, confB a0_0 a0_1 l0_2 l0_3 a0_4 a0_5 l0_6 = b := ⟨_, rfl⟩
 rw [h1] at HR
 have C1 := am_ (fun W (hb : Below w.heap.size w W) => pinfoldref11_ConfMay.calls a0_0 a0_1 A0_2 c0_2 l0_2 A0_3 c0_3 l0_3 a0_4 a0_5 A0_6 c0_6 l0_6 b1 W (c4_ hr0_2 hb) hc0_2 (c4_ hr0_3 hb) hc0_3 (c4_ hr0_6 hb) hc0_6 (by unfold pinfoldref11_ConfMay.f; rw [if_pos hs, h1]))
 have hl := hs.1
 have HK2 := am_ hr0_2
 have HB := am_ (Below.refl w.heap.size w)
 have BK := am_ (blk_new w (.cells #[.int .i64 a0_0, .int .i64 a0_1, .slice A0_2 l0_2.length c0_2, .slice A0_3 l0_3.length c0_3, .int .i64 a0_4, .string a0_5, .slice A0_6 l0_6.length c0_6] 26))
 have u0 := bc_ BK.out 0
 have u1 := bc_ BK.out 1
 have u2 := bc_ BK.out 2
 have u3 := bc_ BK.out 3
 have u4 := bc_ BK.out 4
 have u5 := bc_ BK.out 5
 have u6 := bc_ BK.out 6
 clear h hs h1 hr0_2 hr0_3 hr0_6 hc0_2 hc0_3 hc0_6
 by_cases hin : b1 = true ∧ a0_0 ≤ a1 ∧ a1 ≤ a0_1
 rotate_left
 ·have HF := am_ (show false = r by
   rw [← HR, show (b1 && decide (a0_0 ≤ a1 ∧ a1 ≤ a0_1)) = false by
    rw [Bool.eq_false_iff]
    intro e
    rw [Bool.and_eq_true, decide_eq_true_eq] at e
    exact hin e, Bool.and_false])
  clear HR HK2
  cases b1 with
  | false =>
   clear hin
   go_enter Tryd.func13, Tryd.ntmps13
   go_wp2_with (first | (go_at_call 32; (with_reducible refine (C1.out _ (by repeat (with_reducible first | exact HB.out | apply p3_ | apply p1_ | apply p2_))).mono ?_); rintro e w1 ⟨rfl, hb2⟩; replace BK := am_ (kb_ (show _ from (by (with_reducible repeat (first | exact BK.out | refine k2_ ?_ _ | refine k3_ ?_ | refine k1_ ?_ _)))) hb2); replace HB := am_ (bt_ (show Below w.heap.size w _ from (by repeat (with_reducible first | exact HB.out | apply p3_ | apply p1_ | apply p2_))) hb2); clear hb2; clear u0 u1 u2 u3 u4 u5 u6; have u0 := bc_ BK.out 0; have u1 := bc_ BK.out 1; have u2 := bc_ BK.out 2; have u3 := bc_ BK.out 3; have u4 := bc_ BK.out 4; have u5 := bc_ BK.out 5; have u6 := bc_ BK.out 6))
   go_ret
   exact ⟨ret_bool HF.out, HB.out⟩
  | true =>
   by_cases q1 : a1 < a0_0
   ·have q1b : decide (a1 < a0_0) = true := decide_eq_true q1
    clear hin q1
    go_enter Tryd.func13, Tryd.ntmps13
    go_wp2_with (first | (go_at_call 32; (with_reducible refine (C1.out _ (by repeat (with_reducible first | exact HB.out | apply p3_ | apply p1_ | apply p2_))).mono ?_); rintro e w1 ⟨rfl, hb2⟩; replace BK := am_ (kb_ (show _ from (by (with_reducible repeat (first | exact BK.out | refine k2_ ?_ _ | refine k3_ ?_ | refine k1_ ?_ _)))) hb2); replace HB := am_ (bt_ (show Below w.heap.size w _ from (by repeat (with_reducible first | exact HB.out | apply p3_ | apply p1_ | apply p2_))) hb2); clear hb2; clear u0 u1 u2 u3 u4 u5 u6; have u0 := bc_ BK.out 0; have u1 := bc_ BK.out 1; have u2 := bc_ BK.out 2; have u3 := bc_ BK.out 3; have u4 := bc_ BK.out 4; have u5 := bc_ BK.out 5; have u6 := bc_ BK.out 6))
    go_ret
    exact ⟨ret_bool HF.out, HB.out⟩
   ·have q1b : decide (a1 < a0_0) = false := decide_eq_false q1
    have q2b : decide (a0_1 < a1) = true := decide_eq_true (by
     refine Int.not_le.1 (fun e => hin ⟨rfl, by omega, e⟩))
    clear hin q1
    go_enter Tryd.func13, Tryd.ntmps13
    go_wp2_with (first | (go_at_call 32; (with_reducible refine (C1.out _ (by repeat (with_reducible first | exact HB.out | apply p3_ | apply p1_ | apply p2_))).mono ?_); rintro e w1 ⟨rfl, hb2⟩; replace BK := am_ (kb_ (show _ from (by (with_reducible repeat (first | exact BK.out | refine k2_ ?_ _ | refine k3_ ?_ | refine k1_ ?_ _)))) hb2); replace HB := am_ (bt_ (show Below w.heap.size w _ from (by repeat (with_reducible first | exact HB.out | apply p3_ | apply p1_ | apply p2_))) hb2); clear hb2; clear u0 u1 u2 u3 u4 u5 u6; have u0 := bc_ BK.out 0; have u1 := bc_ BK.out 1; have u2 := bc_ BK.out 2; have u3 := bc_ BK.out 3; have u4 := bc_ BK.out 4; have u5 := bc_ BK.out 5; have u6 := bc_ BK.out 6))
    go_ret
    exact ⟨ret_bool HF.out, HB.out⟩
 obtain ⟨rfl, q1, q2⟩ := hin
 have q1b : decide (a1 < a0_0) = false := decide_eq_false (by omega)
 have q2b : decide (a0_1 < a1) = false := decide_eq_false (by omega)
 have HN := am_ (show decide (a1 ∉ l0_2.drop (0 : Int).toNat) = r by rw [← HR, decide_eq_true (show a0_0 ≤ a1 ∧ a1 ≤ a0_1 from ⟨q1, q2⟩), Bool.and_self, Bool.and_true]; rfl)
 clear HR q1 q2
 go_enter Tryd.func13, Tryd.ntmps13
 go_wp2_with (first | (go_at_call 32; (with_reducible refine (C1.out _ (by repeat (with_reducible first | exact HB.out | apply p3_ | apply p1_ | apply p2_))).mono ?_); rintro e w1 ⟨rfl, hb2⟩; replace BK := am_ (kb_ (show _ from (by (with_reducible repeat (first | exact BK.out | refine k2_ ?_ _ | refine k3_ ?_ | refine k1_ ?_ _)))) hb2); replace HB := am_ (bt_ (show Below w.heap.size w _ from (by repeat (with_reducible first | exact HB.out | apply p3_ | apply p1_ | apply p2_))) hb2); clear hb2; clear u0 u1 u2 u3 u4 u5 u6; have u0 := bc_ BK.out 0; have u1 := bc_ BK.out 1; have u2 := bc_ BK.out 2; have u3 := bc_ BK.out 3; have u4 := bc_ BK.out 4; have u5 := bc_ BK.out 5; have u6 := bc_ BK.out 6))
 clear u0 u1 u2 u3 u4 u5 u6 C1 q1b q2b
 go_loopg [5] l0_2.length (fun d v w' => ∃ i : Int, 0 ≤ i ∧ i.toNat + d = l0_2.length ∧ v = .int .i64 i ∧ Aside0 (Below w.heap.size w w') ∧ Aside0 (w'.heap[w.heap.size]? = some (.cells #[.int .i64 a0_0, .int .i64 a0_1, .slice A0_2 l0_2.length c0_2, .slice A0_3 l0_3.length c0_3, .int .i64 a0_4, .string a0_5, .slice A0_6 l0_6.length c0_6] 26)) ∧ Aside0 (decide (a1 ∉ l0_2.drop i.toNat) = r))
 case atStart => exact ⟨0, by omega, by simp, rfl, HB, BK, HN⟩
 case round =>
  clear HB BK HN
  obtain ⟨i, hi0, hd, rfl, HB, BK, HN⟩ := hrel
  have u0 := bc_ BK.out 0
  have u1 := bc_ BK.out 1
  have u2 := bc_ BK.out 2
  have u3 := bc_ BK.out 3
  have u4 := bc_ BK.out 4
  have u5 := bc_ BK.out 5
  have u6 := bc_ BK.out 6
  have hn := HN.out
  clear HN
  by_cases hlt : i < (l0_2.length : Int)
  ·obtain ⟨ad, e1, hx0⟩ := Kd.at_int HK2.out i hi0 hlt
   cases e1
   replace hx0 := (HB.out.cell (wb_ w _ hx0)).trans hx0
   rw [dropIn_ l0_2 i hi0 hlt] at hn
   generalize rd l0_2 i = x at hx0 hn
   by_cases q : x = a1
   ·have qb : (x == a1) = true := by simpa using q
    have HF := am_ (show false = r by rw [← hn, eq_comm, decide_eq_false_iff_not]; exact fun e => e (by rw [q]; exact List.mem_cons_self))
    clear hn q
    go_wp2
    go_ret
    exact ⟨ret_bool HF.out, HB.out⟩
   ·have qb : (x == a1) = false := by simpa using q
    have HN := am_ (show decide (a1 ∉ l0_2.drop (i + 1).toNat) = r by
     rw [← hn, show (i + 1).toNat = i.toNat + 1 by omega, decide_eq_decide, List.mem_cons, not_or]
     exact ⟨fun e => ⟨fun e2 => q e2.symm, e⟩, fun e => e.2⟩)
    clear hn q
    go_wp2
    go_roundg (l0_2.length - (i.toNat + 1))
    case measure => first | omega | (simp; omega)
    case rel => exact ⟨i + 1, by omega, by omega, by go_num, HB, BK, HN⟩
  ·rw [List.drop_eq_nil_of_le (by omega)] at hn
   have HF := am_ (show true = r by rw [← hn]; rfl)
   clear hn
   go_wp2
   go_ret
   exact ⟨ret_bool HF.out, HB.out⟩

/-! ### pinfoldref11_Full: function 14 -/
def pinfoldref11_Full.j0 : Nat → ByteArray → Bool → Int → Int → List Int → List (S72) → Int → ByteArray → List (S74) → Option (ByteArray)
 | 0, _, _, _, _, _, _, _, _, _ => none
 | k + 1, x1, x16, x161000, x161001, x161002, x161003, x161004, x161005, x161006 => if x16 = true then (some (⟨#[]⟩ : ByteArray)) else ((pinfoldref1_Labels_c.f x1).bind fun t163 => (if (t163.length : Int) = 1 then (if x1.size + 1 ≤ 9223372036854775807 then (if (x1 ++ (⟨#[46]⟩ : ByteArray)).size + x161005.size ≤ 9223372036854775807 then (if ((x1 ++ (⟨#[46]⟩ : ByteArray)) ++ x161005).toList = x161005.toList then (some (⟨#[]⟩ : ByteArray)) else ((pinfoldref1_Under_c.f ((x1 ++ (⟨#[46]⟩ : ByteArray)) ++ x161005) x161005).bind fun t166 => (if t166 = true then (some ((x1 ++ (⟨#[46]⟩ : ByteArray)) ++ x161005)) else (some (⟨#[]⟩ : ByteArray))))) else (none)) else (none)) else (if x1.toList = x161005.toList then (some (⟨#[]⟩ : ByteArray)) else ((pinfoldref1_Under_c.f x1 x161005).bind fun t167 => (if t167 = true then (some x1) else (some (⟨#[]⟩ : ByteArray)))))))
def pinfoldref11_Full.f (k : Nat) (a0_0 : Int) (a0_1 : Int) (l0_2 : List Int) (l0_3 : List (S72)) (a0_4 : Int) (a0_5 : ByteArray) (l0_6 : List (S74)) (a1 : ByteArray) : Option (ByteArray) := (pinfoldref11_ConfMay.f a0_0 a0_1 l0_2 l0_3 a0_4 a0_5 l0_6).bind fun t161 => (if t161 = true then (if a1.toList = ([] : List UInt8) then (pinfoldref11_Full.j0 k a1 true a0_0 a0_1 l0_2 l0_3 a0_4 a0_5 l0_6) else ((pinfoldref1_NameMay_c.f a1).bind fun t162 => (pinfoldref11_Full.j0 k a1 (!t162) a0_0 a0_1 l0_2 l0_3 a0_4 a0_5 l0_6))) else (pinfoldref11_Full.j0 k a1 true a0_0 a0_1 l0_2 l0_3 a0_4 a0_5 l0_6))
theorem pinfoldref11_Full.mono_l : ∀ k, (∀ y0 y1 y2 y3 y4 y5 y6 y7 y8, LeO (pinfoldref11_Full.j0 k y0 y1 y2 y3 y4 y5 y6 y7 y8) (pinfoldref11_Full.j0 (k + 1) y0 y1 y2 y3 y4 y5 y6 y7 y8))
 | 0 => fun _ _ _ _ _ _ _ _ _ r h => by simp [pinfoldref11_Full.j0] at h
 | k + 1 => by
  have ih0 := pinfoldref11_Full.mono_l k
  ·intro y0 y1 y2 y3 y4 y5 y6 y7 y8
   unfold pinfoldref11_Full.j0
   repeat' first
   | (with_reducible exact ih0 _ _ _ _ _ _ _ _ _)
   | (with_reducible exact LeO.refl _)
   | (with_reducible exact LeO.none _)
   | (with_reducible refine LeO.ite ?_ ?_)
   | (with_reducible refine LeO.bind ?_ (fun _ => ?_))
   | exact ih0 _ _ _ _ _ _ _ _ _
   | exact LeO.none _
   | refine LeO.ite ?_ ?_
   | refine LeO.bind ?_ (fun _ => ?_)
theorem pinfoldref11_Full.mono : ∀ a0 a1 a2 a3 a4 a5 a6 a7 k, LeO (pinfoldref11_Full.f k a0 a1 a2 a3 a4 a5 a6 a7) (pinfoldref11_Full.f (k + 1) a0 a1 a2 a3 a4 a5 a6 a7) := by
 intro a0 a1 a2 a3 a4 a5 a6 a7 k
 have ih0 := pinfoldref11_Full.mono_l k
 unfold pinfoldref11_Full.f
 repeat' first
   | (with_reducible exact ih0 _ _ _ _ _ _ _ _ _)
   | (with_reducible exact LeO.refl _)
   | (with_reducible exact LeO.none _)
   | (with_reducible refine LeO.ite ?_ ?_)
   | (with_reducible refine LeO.bind ?_ (fun _ => ?_))
   | exact ih0 _ _ _ _ _ _ _ _ _
   | exact LeO.none _
   | refine LeO.ite ?_ ?_
   | refine LeO.bind ?_ (fun _ => ?_)
set_option maxHeartbeats 8000000 in
set_option maxRecDepth 100000 in
theorem pinfoldref11_Full.calls (k : Nat) (a0_0 : Int) (a0_1 : Int) (A0_2 : Option Addr) (c0_2 : Nat) (l0_2 : List Int) (A0_3 : Option Addr) (c0_3 : Nat) (l0_3 : List (S72)) (a0_4 : Int) (a0_5 : ByteArray) (A0_6 : Option Addr) (c0_6 : Nat) (l0_6 : List (S74)) (a1 : ByteArray) (r : ByteArray) (w : World) (hr0_2 : Kd.C (Kd.int .i64) w A0_2 l0_2.length l0_2) (hc0_2 : l0_2.length ≤ c0_2) (hr0_3 : Kd.C k72 w A0_3 l0_3.length l0_3) (hc0_3 : l0_3.length ≤ c0_3) (hr0_6 : Kd.C k74 w A0_6 l0_6.length l0_6) (hc0_6 : l0_6.length ≤ c0_6) (h : pinfoldref11_Full.f k a0_0 a0_1 l0_2 l0_3 a0_4 a0_5 l0_6 a1 = some r) :
  Calls Tryd.prog 14 #[.agg #[.int .i64 a0_0, .int .i64 a0_1, .slice A0_2 l0_2.length c0_2, .slice A0_3 l0_3.length c0_3, .int .i64 a0_4, .string a0_5, .slice A0_6 l0_6.length c0_6], .string a1] w fun e w' => e = .returned (.string r) ∧ Below w.heap.size w w' := by
 have hu26 := Tryd.underlying26
 have HR0_2 := am_ hr0_2
 have HC0_2 := am_ hc0_2
 clear hr0_2 hc0_2
 have HR0_3 := am_ hr0_3
 have HC0_3 := am_ hc0_3
 clear hr0_3 hc0_3
 have HR0_6 := am_ hr0_6
 have HC0_6 := am_ hc0_6
 clear hr0_6 hc0_6
 have HB := am_ (Below.refl w.heap.size w)
 have H : ((pinfoldref11_ConfMay.f a0_0 a0_1 l0_2 l0_3 a0_4 a0_5 l0_6).bind fun t161 => (if t161 = true then (if a1.toList = ([] : List UInt8) then (pinfoldref11_Full.j0 k a1 true a0_0 a0_1 l0_2 l0_3 a0_4 a0_5 l0_6) else ((pinfoldref1_NameMay_c.f a1).bind fun t162 => (pinfoldref11_Full.j0 k a1 (!t162) a0_0 a0_1 l0_2 l0_3 a0_4 a0_5 l0_6))) else (pinfoldref11_Full.j0 k a1 true a0_0 a0_1 l0_2 l0_3 a0_4 a0_5 l0_6))) = some r := h
 clear h
 have HC3 := am_ H
 clear H
 go_enter Tryd.func14, Tryd.ntmps14
 go_upto_region 1 with (first | ((with_reducible refine gate_dst (N := 2) rfl ?_); refine box_event ?hg (N := 2) ?hd (cs := #[.int .i64 a0_0, .int .i64 a0_1, .slice A0_2 l0_2.length c0_2, .slice A0_3 l0_3.length c0_3, .int .i64 a0_4, .string a0_5, .slice A0_6 l0_6.length c0_6]) (t := 26) ?hr ?_; (case hd => rfl); (case hg => rfl); (case hr => first | (go_simp; done) | (go_simp; rfl)); intro gb160 hg w4 hbox hb; have n0_ := am_ (bt_ (by repeat (with_reducible first | exact HB.out | apply p3_ | apply p1_ | apply p2_)) hb); have n1_ := am_ (hbox); have n2_ := am_ ((by rw [hg]; exact (bz_ (by repeat (with_reducible first | exact HB.out | apply p3_ | apply p1_ | apply p2_))) : w.heap.size ≤ gb160)); have n3_ := am_ ((by rw [hg]; exact (bz_ (by repeat (with_reducible first | exact HB.out | apply p3_ | apply p1_ | apply p2_))) : w.heap.size ≤ gb160)); clear HB; have HB := n0_; have BK160 := n1_; have GW160 := n2_; have GE160 := n3_; clear n0_ n1_ n2_ n3_; clear hb hbox hg))
 (try simp only [Act.put, sa_, sb_, sc_])
 go_cut [16] (fun v16 wc => ∃ (kq : Nat) (x16_2 : Bool), v16 = .bool x16_2 ∧ Aside0 (pinfoldref11_Full.j0 kq a1 x16_2 a0_0 a0_1 l0_2 l0_3 a0_4 a0_5 l0_6 = some r) ∧ Aside0 (kq ≤ k) ∧ Aside0 (wc.heap[gb160]? = some (.cells #[.int .i64 a0_0, .int .i64 a0_1, (.slice A0_2 l0_2.length c0_2), (.slice A0_3 l0_3.length c0_3), .int .i64 a0_4, .string a0_5, (.slice A0_6 l0_6.length c0_6)] 26 (0, 0))) ∧ Aside0 (Below w.heap.size w wc))
 case first =>
  have H := HC3.out
  clear HC3
  replace H := e4_ H
  obtain ⟨t161, A50, H⟩ := H
  replace H : (if t161 = true then (if a1.toList = ([] : List UInt8) then (pinfoldref11_Full.j0 k a1 true a0_0 a0_1 l0_2 l0_3 a0_4 a0_5 l0_6) else ((pinfoldref1_NameMay_c.f a1).bind fun t162 => (pinfoldref11_Full.j0 k a1 (!t162) a0_0 a0_1 l0_2 l0_3 a0_4 a0_5 l0_6))) else (pinfoldref11_Full.j0 k a1 true a0_0 a0_1 l0_2 l0_3 a0_4 a0_5 l0_6)) = some r := H
  have A5 := am_ A50
  clear A50
  by_cases c6 : t161 = true
  ·subst c6
   have H1 : (if a1.toList = ([] : List UInt8) then (pinfoldref11_Full.j0 k a1 true a0_0 a0_1 l0_2 l0_3 a0_4 a0_5 l0_6) else ((pinfoldref1_NameMay_c.f a1).bind fun t162 => (pinfoldref11_Full.j0 k a1 (!t162) a0_0 a0_1 l0_2 l0_3 a0_4 a0_5 l0_6))) = some r := by rw [if_pos rfl] at H; exact H
   clear H
   have H := H1
   clear H1
   by_cases c7 : a1.toList = ([] : List UInt8)
   ·rw [if_pos c7] at H
    have c7b0 : (a1.toList == ([] : List UInt8)) = true := beq_iff_eq.mpr c7
    have c7b1 : (a1.toList != ([] : List UInt8)) = false := e1_ c7
    clear c7
    (first | rw [c7b0] | (simp only [i64_w, i32_w]; rw [c7b0]) | skip)
    have H' := am_ H
    clear H
    have hcz8_0 : w4.cell? ⟨gb160, 0, none⟩ = some (.int .i64 a0_0) := (bc_ BK160.out 0).trans rfl; have hcz8_1 : w4.cell? ⟨gb160, 1, none⟩ = some (.int .i64 a0_1) := (bc_ BK160.out 1).trans rfl; have hcz8_2 : w4.cell? ⟨gb160, 2, none⟩ = some (.slice A0_2 l0_2.length c0_2) := (bc_ BK160.out 2).trans rfl; have hcz8_3 : w4.cell? ⟨gb160, 3, none⟩ = some (.slice A0_3 l0_3.length c0_3) := (bc_ BK160.out 3).trans rfl; have hcz8_4 : w4.cell? ⟨gb160, 4, none⟩ = some (.int .i64 a0_4) := (bc_ BK160.out 4).trans rfl; have hcz8_5 : w4.cell? ⟨gb160, 5, none⟩ = some (.string a0_5) := (bc_ BK160.out 5).trans rfl; have hcz8_6 : w4.cell? ⟨gb160, 6, none⟩ = some (.slice A0_6 l0_6.length c0_6) := (bc_ BK160.out 6).trans rfl; have hfz8_0 := bf_ BK160.out 0; have hfz8_1 := bf_ BK160.out 1; have hfz8_2 := bf_ BK160.out 2; have hfz8_3 := bf_ BK160.out 3; have hfz8_4 := bf_ BK160.out 4; have hfz8_5 := bf_ BK160.out 5; have hfz8_6 := bf_ BK160.out 6
    go_wp2_with (first | ((with_reducible refine gate_callee (f := 32) rfl ?_); refine goesL_ (some 6) rfl rfl Tryd.func32 (by kernel_rfl) rfl #[.agg #[.int .i64 a0_0, .int .i64 a0_1, .slice A0_2 l0_2.length c0_2, .slice A0_3 l0_3.length c0_3, .int .i64 a0_4, .string a0_5, .slice A0_6 l0_6.length c0_6]] rfl (by (try simp only [List.map_toArray, List.map_cons, List.map_nil]); first | done | rfl | (simp only [List.length_drop, List.length_take]; rfl)) ?_; (with_reducible refine (pinfoldref11_ConfMay.calls a0_0 a0_1 _ _ l0_2 _ _ l0_3 a0_4 a0_5 _ _ l0_6 true _ ?side1 ?side2 ?side3 ?side4 ?side5 ?side6 A5.out).mono ?_); (case side1 => repeat (first | exact (c4_ HR0_2.out HB.out) | (with_reducible refine c1_ ?_ _) | (with_reducible refine c2_ ?_ _) | (with_reducible refine c3_ ?_))); (case side2 => exact HC0_2.out); (case side3 => repeat (first | exact (c4_ HR0_3.out HB.out) | (with_reducible refine c1_ ?_ _) | (with_reducible refine c2_ ?_ _) | (with_reducible refine c3_ ?_))); (case side4 => exact HC0_3.out); (case side5 => repeat (first | exact (c4_ HR0_6.out HB.out) | (with_reducible refine c1_ ?_ _) | (with_reducible refine c2_ ?_ _) | (with_reducible refine c3_ ?_))); (case side6 => exact HC0_6.out); rintro e w9 ⟨rfl, hb⟩; refine ⟨_, rfl, ?_⟩; have n0_ := am_ (kb_ (g := gb160) (o := .cells #[.int .i64 a0_0, .int .i64 a0_1, .slice A0_2 l0_2.length c0_2, .slice A0_3 l0_3.length c0_3, .int .i64 a0_4, .string a0_5, .slice A0_6 l0_6.length c0_6] 26 (0, 0)) (by (with_reducible repeat (first | refine k2_ ?_ _ | refine k3_ ?_ | refine k1_ ?_ _)); exact BK160.out) hb); have n1_ := am_ (bt_ (by repeat (with_reducible first | exact HB.out | apply p3_ | apply p1_ | apply p2_ | refine bs_ ?_ GE160.out)) hb); clear BK160; clear HB; have BK160 := n0_; have HB := n1_; clear n0_ n1_; (try clear hb)))
    go_meet
    case rel => exact ⟨_, (true), (by first | rfl | (simp; done) | (simp [*]; done) | (simp only [str_ne_]; rfl) | (simp only [str_eq_]; rfl)), H', ⟨by first | omega | exact Nat.le_refl _⟩, ⟨by (with_reducible repeat (first | refine k2_ ?_ _ | refine k3_ ?_ | refine k1_ ?_ _)); exact BK160.out⟩, ⟨by repeat (with_reducible first | exact HB.out | apply p3_ | apply p1_ | apply p2_ | refine bs_ ?_ GE160.out)⟩⟩
   rw [if_neg c7] at H
   have c7b0 : (a1.toList == ([] : List UInt8)) = false := e2_ c7
   have c7b1 : (a1.toList != ([] : List UInt8)) = true := bne_iff_ne.mpr c7
   (first | rw [c7b0] | (simp only [i64_w, i32_w]; rw [c7b0]) | skip)
   replace H := e4_ H
   obtain ⟨t162, A100, H⟩ := H
   replace H : (pinfoldref11_Full.j0 k a1 (!t162) a0_0 a0_1 l0_2 l0_3 a0_4 a0_5 l0_6) = some r := H
   have A10 := am_ A100
   clear A100
   have H' := am_ H
   clear H
   have hcz11_0 : w4.cell? ⟨gb160, 0, none⟩ = some (.int .i64 a0_0) := (bc_ BK160.out 0).trans rfl; have hcz11_1 : w4.cell? ⟨gb160, 1, none⟩ = some (.int .i64 a0_1) := (bc_ BK160.out 1).trans rfl; have hcz11_2 : w4.cell? ⟨gb160, 2, none⟩ = some (.slice A0_2 l0_2.length c0_2) := (bc_ BK160.out 2).trans rfl; have hcz11_3 : w4.cell? ⟨gb160, 3, none⟩ = some (.slice A0_3 l0_3.length c0_3) := (bc_ BK160.out 3).trans rfl; have hcz11_4 : w4.cell? ⟨gb160, 4, none⟩ = some (.int .i64 a0_4) := (bc_ BK160.out 4).trans rfl; have hcz11_5 : w4.cell? ⟨gb160, 5, none⟩ = some (.string a0_5) := (bc_ BK160.out 5).trans rfl; have hcz11_6 : w4.cell? ⟨gb160, 6, none⟩ = some (.slice A0_6 l0_6.length c0_6) := (bc_ BK160.out 6).trans rfl; have hfz11_0 := bf_ BK160.out 0; have hfz11_1 := bf_ BK160.out 1; have hfz11_2 := bf_ BK160.out 2; have hfz11_3 := bf_ BK160.out 3; have hfz11_4 := bf_ BK160.out 4; have hfz11_5 := bf_ BK160.out 5; have hfz11_6 := bf_ BK160.out 6
   go_wp2_with (first | ((with_reducible refine gate_callee (f := 32) rfl ?_); refine goesL_ (some 6) rfl rfl Tryd.func32 (by kernel_rfl) rfl #[.agg #[.int .i64 a0_0, .int .i64 a0_1, .slice A0_2 l0_2.length c0_2, .slice A0_3 l0_3.length c0_3, .int .i64 a0_4, .string a0_5, .slice A0_6 l0_6.length c0_6]] rfl (by (try simp only [List.map_toArray, List.map_cons, List.map_nil]); first | done | rfl | (simp only [List.length_drop, List.length_take]; rfl)) ?_; (with_reducible refine (pinfoldref11_ConfMay.calls a0_0 a0_1 _ _ l0_2 _ _ l0_3 a0_4 a0_5 _ _ l0_6 true _ ?side1 ?side2 ?side3 ?side4 ?side5 ?side6 A5.out).mono ?_); (case side1 => repeat (first | exact (c4_ HR0_2.out HB.out) | (with_reducible refine c1_ ?_ _) | (with_reducible refine c2_ ?_ _) | (with_reducible refine c3_ ?_))); (case side2 => exact HC0_2.out); (case side3 => repeat (first | exact (c4_ HR0_3.out HB.out) | (with_reducible refine c1_ ?_ _) | (with_reducible refine c2_ ?_ _) | (with_reducible refine c3_ ?_))); (case side4 => exact HC0_3.out); (case side5 => repeat (first | exact (c4_ HR0_6.out HB.out) | (with_reducible refine c1_ ?_ _) | (with_reducible refine c2_ ?_ _) | (with_reducible refine c3_ ?_))); (case side6 => exact HC0_6.out); rintro e w12 ⟨rfl, hb⟩; refine ⟨_, rfl, ?_⟩; have n0_ := am_ (kb_ (g := gb160) (o := .cells #[.int .i64 a0_0, .int .i64 a0_1, .slice A0_2 l0_2.length c0_2, .slice A0_3 l0_3.length c0_3, .int .i64 a0_4, .string a0_5, .slice A0_6 l0_6.length c0_6] 26 (0, 0)) (by (with_reducible repeat (first | refine k2_ ?_ _ | refine k3_ ?_ | refine k1_ ?_ _)); exact BK160.out) hb); have n1_ := am_ (bt_ (by repeat (with_reducible first | exact HB.out | apply p3_ | apply p1_ | apply p2_ | refine bs_ ?_ GE160.out)) hb); clear BK160; clear HB; have BK160 := n0_; have HB := n1_; clear n0_ n1_; (try clear hb)) | (go_at_call 33; (with_reducible refine (pinfoldref1_NameMay_c.calls a1 t162 _ A10.out).mono ?_); rintro e w13 ⟨rfl, hb⟩; have n0_ := am_ (kb_ (g := gb160) (o := .cells #[.int .i64 a0_0, .int .i64 a0_1, .slice A0_2 l0_2.length c0_2, .slice A0_3 l0_3.length c0_3, .int .i64 a0_4, .string a0_5, .slice A0_6 l0_6.length c0_6] 26 (0, 0)) (by (with_reducible repeat (first | refine k2_ ?_ _ | refine k3_ ?_ | refine k1_ ?_ _)); exact BK160.out) hb); have n1_ := am_ (bt_ (by repeat (with_reducible first | exact HB.out | apply p3_ | apply p1_ | apply p2_ | refine bs_ ?_ GE160.out)) hb); clear BK160; clear HB; have BK160 := n0_; have HB := n1_; clear n0_ n1_; (try clear hb)))
   go_meet
   case rel => exact ⟨_, (!t162), (by first | rfl | (simp; done) | (simp [*]; done) | (simp only [str_ne_]; rfl) | (simp only [str_eq_]; rfl)), H', ⟨by first | omega | exact Nat.le_refl _⟩, ⟨by (with_reducible repeat (first | refine k2_ ?_ _ | refine k3_ ?_ | refine k1_ ?_ _)); exact BK160.out⟩, ⟨by repeat (with_reducible first | exact HB.out | apply p3_ | apply p1_ | apply p2_ | refine bs_ ?_ GE160.out)⟩⟩
  replace c6 := e3_ c6
  subst c6
  have H1 : (pinfoldref11_Full.j0 k a1 true a0_0 a0_1 l0_2 l0_3 a0_4 a0_5 l0_6) = some r := by rw [if_neg (show ¬ (false = true) by decide)] at H; exact H
  clear H
  have H := H1
  clear H1
  have H' := am_ H
  clear H
  have hcz14_0 : w4.cell? ⟨gb160, 0, none⟩ = some (.int .i64 a0_0) := (bc_ BK160.out 0).trans rfl; have hcz14_1 : w4.cell? ⟨gb160, 1, none⟩ = some (.int .i64 a0_1) := (bc_ BK160.out 1).trans rfl; have hcz14_2 : w4.cell? ⟨gb160, 2, none⟩ = some (.slice A0_2 l0_2.length c0_2) := (bc_ BK160.out 2).trans rfl; have hcz14_3 : w4.cell? ⟨gb160, 3, none⟩ = some (.slice A0_3 l0_3.length c0_3) := (bc_ BK160.out 3).trans rfl; have hcz14_4 : w4.cell? ⟨gb160, 4, none⟩ = some (.int .i64 a0_4) := (bc_ BK160.out 4).trans rfl; have hcz14_5 : w4.cell? ⟨gb160, 5, none⟩ = some (.string a0_5) := (bc_ BK160.out 5).trans rfl; have hcz14_6 : w4.cell? ⟨gb160, 6, none⟩ = some (.slice A0_6 l0_6.length c0_6) := (bc_ BK160.out 6).trans rfl; have hfz14_0 := bf_ BK160.out 0; have hfz14_1 := bf_ BK160.out 1; have hfz14_2 := bf_ BK160.out 2; have hfz14_3 := bf_ BK160.out 3; have hfz14_4 := bf_ BK160.out 4; have hfz14_5 := bf_ BK160.out 5; have hfz14_6 := bf_ BK160.out 6
  go_wp2_with (first | ((with_reducible refine gate_callee (f := 32) rfl ?_); refine goesL_ (some 6) rfl rfl Tryd.func32 (by kernel_rfl) rfl #[.agg #[.int .i64 a0_0, .int .i64 a0_1, .slice A0_2 l0_2.length c0_2, .slice A0_3 l0_3.length c0_3, .int .i64 a0_4, .string a0_5, .slice A0_6 l0_6.length c0_6]] rfl (by (try simp only [List.map_toArray, List.map_cons, List.map_nil]); first | done | rfl | (simp only [List.length_drop, List.length_take]; rfl)) ?_; (with_reducible refine (pinfoldref11_ConfMay.calls a0_0 a0_1 _ _ l0_2 _ _ l0_3 a0_4 a0_5 _ _ l0_6 false _ ?side1 ?side2 ?side3 ?side4 ?side5 ?side6 A5.out).mono ?_); (case side1 => repeat (first | exact (c4_ HR0_2.out HB.out) | (with_reducible refine c1_ ?_ _) | (with_reducible refine c2_ ?_ _) | (with_reducible refine c3_ ?_))); (case side2 => exact HC0_2.out); (case side3 => repeat (first | exact (c4_ HR0_3.out HB.out) | (with_reducible refine c1_ ?_ _) | (with_reducible refine c2_ ?_ _) | (with_reducible refine c3_ ?_))); (case side4 => exact HC0_3.out); (case side5 => repeat (first | exact (c4_ HR0_6.out HB.out) | (with_reducible refine c1_ ?_ _) | (with_reducible refine c2_ ?_ _) | (with_reducible refine c3_ ?_))); (case side6 => exact HC0_6.out); rintro e w15 ⟨rfl, hb⟩; refine ⟨_, rfl, ?_⟩; have n0_ := am_ (kb_ (g := gb160) (o := .cells #[.int .i64 a0_0, .int .i64 a0_1, .slice A0_2 l0_2.length c0_2, .slice A0_3 l0_3.length c0_3, .int .i64 a0_4, .string a0_5, .slice A0_6 l0_6.length c0_6] 26 (0, 0)) (by (with_reducible repeat (first | refine k2_ ?_ _ | refine k3_ ?_ | refine k1_ ?_ _)); exact BK160.out) hb); have n1_ := am_ (bt_ (by repeat (with_reducible first | exact HB.out | apply p3_ | apply p1_ | apply p2_ | refine bs_ ?_ GE160.out)) hb); clear BK160; clear HB; have BK160 := n0_; have HB := n1_; clear n0_ n1_; (try clear hb)))
  go_meet
  case rel => exact ⟨_, (true), (by first | rfl | (simp; done) | (simp [*]; done) | (simp only [str_ne_]; rfl) | (simp only [str_eq_]; rfl)), H', ⟨by first | omega | exact Nat.le_refl _⟩, ⟨by (with_reducible repeat (first | refine k2_ ?_ _ | refine k3_ ?_ | refine k1_ ?_ _)); exact BK160.out⟩, ⟨by repeat (with_reducible first | exact HB.out | apply p3_ | apply p1_ | apply p2_ | refine bs_ ?_ GE160.out)⟩⟩
 case rest =>
  clear HC3
  obtain ⟨kq, x16_2, rfl, HA, HJ2, BK160, HB⟩ := hcut
  cases kq with
  | zero => exact absurd HA.out (by simp [pinfoldref11_Full.j0])
  | succ kj2 =>
   have H := HA.out
   clear HA
   simp only [pinfoldref11_Full.j0] at H
   by_cases c16 : x16_2 = true
   ·subst c16
    have H1 : (some (⟨#[]⟩ : ByteArray)) = some r := by rw [if_pos rfl] at H; exact H
    clear H
    have H := H1
    clear H1
    obtain rfl := e5_ H
    go_wp2
    go_ret
    exact ⟨by first | rfl | (simp [errW_none, errW_some] <;> rfl) | (simp [*, errW_none, errW_some] <;> rfl) | (simp only [str_ne_]; rfl) | (simp only [str_eq_]; rfl), by repeat (with_reducible first | exact HB.out | apply p3_ | apply p1_ | apply p2_ | refine bs_ ?_ GE160.out)⟩
   replace c16 := e3_ c16
   subst c16
   have H1 : ((pinfoldref1_Labels_c.f a1).bind fun t163 => (if (t163.length : Int) = 1 then (if a1.size + 1 ≤ 9223372036854775807 then (if (a1 ++ (⟨#[46]⟩ : ByteArray)).size + a0_5.size ≤ 9223372036854775807 then (if ((a1 ++ (⟨#[46]⟩ : ByteArray)) ++ a0_5).toList = a0_5.toList then (some (⟨#[]⟩ : ByteArray)) else ((pinfoldref1_Under_c.f ((a1 ++ (⟨#[46]⟩ : ByteArray)) ++ a0_5) a0_5).bind fun t166 => (if t166 = true then (some ((a1 ++ (⟨#[46]⟩ : ByteArray)) ++ a0_5)) else (some (⟨#[]⟩ : ByteArray))))) else (none)) else (none)) else (if a1.toList = a0_5.toList then (some (⟨#[]⟩ : ByteArray)) else ((pinfoldref1_Under_c.f a1 a0_5).bind fun t167 => (if t167 = true then (some a1) else (some (⟨#[]⟩ : ByteArray))))))) = some r := by rw [if_neg (show ¬ (false = true) by decide)] at H; exact H
   clear H
   have H := H1
   clear H1
   replace H := e4_ H
   obtain ⟨t163, A170, H⟩ := H
   replace H : (if (t163.length : Int) = 1 then (if a1.size + 1 ≤ 9223372036854775807 then (if (a1 ++ (⟨#[46]⟩ : ByteArray)).size + a0_5.size ≤ 9223372036854775807 then (if ((a1 ++ (⟨#[46]⟩ : ByteArray)) ++ a0_5).toList = a0_5.toList then (some (⟨#[]⟩ : ByteArray)) else ((pinfoldref1_Under_c.f ((a1 ++ (⟨#[46]⟩ : ByteArray)) ++ a0_5) a0_5).bind fun t166 => (if t166 = true then (some ((a1 ++ (⟨#[46]⟩ : ByteArray)) ++ a0_5)) else (some (⟨#[]⟩ : ByteArray))))) else (none)) else (none)) else (if a1.toList = a0_5.toList then (some (⟨#[]⟩ : ByteArray)) else ((pinfoldref1_Under_c.f a1 a0_5).bind fun t167 => (if t167 = true then (some a1) else (some (⟨#[]⟩ : ByteArray)))))) = some r := H
   have A17 := am_ A170
   clear A170
   by_cases c18 : (t163.length : Int) = 1
   ·rw [if_pos c18] at H
    have c18b0 : ((t163.length : Int) == 1) = true := beq_iff_eq.mpr c18
    have c18b1 : ((t163.length : Int) != 1) = false := e1_ c18
    clear c18
    by_cases c19 : a1.size + 1 ≤ 9223372036854775807
    rotate_left
    ·rw [if_neg c19] at H
     exact absurd H (by simp)
    rw [if_pos c19] at H
    have c19b0 := eq_true c19
    have c19b1 : decide (a1.size + 1 ≤ 9223372036854775807) = true := decide_eq_true c19
    try have c19b2 : (9223372036854775807 < a1.size + 1) = False := eq_false (Nat.not_lt.2 c19)
    by_cases c20 : (a1 ++ (⟨#[46]⟩ : ByteArray)).size + a0_5.size ≤ 9223372036854775807
    rotate_left
    ·rw [if_neg c20] at H
     exact absurd H (by simp)
    rw [if_pos c20] at H
    have c20b0 := eq_true c20
    have c20b1 : decide ((a1 ++ (⟨#[46]⟩ : ByteArray)).size + a0_5.size ≤ 9223372036854775807) = true := decide_eq_true c20
    try have c20b2 : (9223372036854775807 < (a1 ++ (⟨#[46]⟩ : ByteArray)).size + a0_5.size) = False := eq_false (Nat.not_lt.2 c20)
    by_cases c21 : ((a1 ++ (⟨#[46]⟩ : ByteArray)) ++ a0_5).toList = a0_5.toList
    ·rw [if_pos c21] at H
     have c21b0 : (((a1 ++ (⟨#[46]⟩ : ByteArray)) ++ a0_5).toList == a0_5.toList) = true := beq_iff_eq.mpr c21
     have c21b1 : (((a1 ++ (⟨#[46]⟩ : ByteArray)) ++ a0_5).toList != a0_5.toList) = false := e1_ c21
     clear c21
     obtain rfl := e5_ H
     go_wp2_with (first | ((with_reducible refine gate_callee (f := 34) rfl ?_); refine goesL_ (some 18) rfl rfl Tryd.func34 (by kernel_rfl) rfl #[.string a1] rfl (by (try simp only [List.map_toArray, List.map_cons, List.map_nil]); first | done | rfl | (simp only [List.length_drop, List.length_take]; rfl)) ?_; (with_reducible refine (pinfoldref1_Labels_c.calls a1 t163 _ A17.out).mono ?_); rintro e w22 ⟨v164, rfl, ho0, hb⟩; refine ⟨_, rfl, ?_⟩; have n0_ := am_ (Kd.R_lower ho0 (bz_ (by repeat (with_reducible first | exact HB.out | apply p3_ | apply p1_ | apply p2_ | refine bs_ ?_ GE160.out)))); have n1_ := am_ (kb_ (g := gb160) (o := .cells #[.int .i64 a0_0, .int .i64 a0_1, .slice A0_2 l0_2.length c0_2, .slice A0_3 l0_3.length c0_3, .int .i64 a0_4, .string a0_5, .slice A0_6 l0_6.length c0_6] 26 (0, 0)) (by (with_reducible repeat (first | refine k2_ ?_ _ | refine k3_ ?_ | refine k1_ ?_ _)); exact BK160.out) hb); have n2_ := am_ (bt_ (by repeat (with_reducible first | exact HB.out | apply p3_ | apply p1_ | apply p2_ | refine bs_ ?_ GE160.out)) hb); clear BK160; clear HB; have HO165 := n0_; have BK160 := n1_; have HB := n2_; clear n0_ n1_ n2_; (try clear hb); (try clear ho0); obtain ⟨Ao23, co23, eo23⟩ := Kd.R_slice HO165.out; subst eo23; have hcz24_0 : w22.cell? ⟨gb160, 0, none⟩ = some (.int .i64 a0_0) := (bc_ BK160.out 0).trans rfl; have hcz24_1 : w22.cell? ⟨gb160, 1, none⟩ = some (.int .i64 a0_1) := (bc_ BK160.out 1).trans rfl; have hcz24_2 : w22.cell? ⟨gb160, 2, none⟩ = some (.slice A0_2 l0_2.length c0_2) := (bc_ BK160.out 2).trans rfl; have hcz24_3 : w22.cell? ⟨gb160, 3, none⟩ = some (.slice A0_3 l0_3.length c0_3) := (bc_ BK160.out 3).trans rfl; have hcz24_4 : w22.cell? ⟨gb160, 4, none⟩ = some (.int .i64 a0_4) := (bc_ BK160.out 4).trans rfl; have hcz24_5 : w22.cell? ⟨gb160, 5, none⟩ = some (.string a0_5) := (bc_ BK160.out 5).trans rfl; have hcz24_6 : w22.cell? ⟨gb160, 6, none⟩ = some (.slice A0_6 l0_6.length c0_6) := (bc_ BK160.out 6).trans rfl; have hfz24_0 := bf_ BK160.out 0; have hfz24_1 := bf_ BK160.out 1; have hfz24_2 := bf_ BK160.out 2; have hfz24_3 := bf_ BK160.out 3; have hfz24_4 := bf_ BK160.out 4; have hfz24_5 := bf_ BK160.out 5; have hfz24_6 := bf_ BK160.out 6))
     go_ret
     exact ⟨by first | rfl | (simp [errW_none, errW_some] <;> rfl) | (simp [*, errW_none, errW_some] <;> rfl) | (simp only [str_ne_]; rfl) | (simp only [str_eq_]; rfl), by repeat (with_reducible first | exact HB.out | apply p3_ | apply p1_ | apply p2_ | refine bs_ ?_ GE160.out)⟩
    rw [if_neg c21] at H
    have c21b0 : (((a1 ++ (⟨#[46]⟩ : ByteArray)) ++ a0_5).toList == a0_5.toList) = false := e2_ c21
    have c21b1 : (((a1 ++ (⟨#[46]⟩ : ByteArray)) ++ a0_5).toList != a0_5.toList) = true := bne_iff_ne.mpr c21
    replace H := e4_ H
    obtain ⟨t166, A250, H⟩ := H
    replace H : (if t166 = true then (some ((a1 ++ (⟨#[46]⟩ : ByteArray)) ++ a0_5)) else (some (⟨#[]⟩ : ByteArray))) = some r := H
    have A25 := am_ A250
    clear A250
    by_cases c26 : t166 = true
    ·subst c26
     have H1 : (some ((a1 ++ (⟨#[46]⟩ : ByteArray)) ++ a0_5)) = some r := by rw [if_pos rfl] at H; exact H
     clear H
     have H := H1
     clear H1
     obtain rfl := e5_ H
     go_wp2_with (first | ((with_reducible refine gate_callee (f := 34) rfl ?_); refine goesL_ (some 18) rfl rfl Tryd.func34 (by kernel_rfl) rfl #[.string a1] rfl (by (try simp only [List.map_toArray, List.map_cons, List.map_nil]); first | done | rfl | (simp only [List.length_drop, List.length_take]; rfl)) ?_; (with_reducible refine (pinfoldref1_Labels_c.calls a1 t163 _ A17.out).mono ?_); rintro e w27 ⟨v164, rfl, ho0, hb⟩; refine ⟨_, rfl, ?_⟩; have n0_ := am_ (Kd.R_lower ho0 (bz_ (by repeat (with_reducible first | exact HB.out | apply p3_ | apply p1_ | apply p2_ | refine bs_ ?_ GE160.out)))); have n1_ := am_ (kb_ (g := gb160) (o := .cells #[.int .i64 a0_0, .int .i64 a0_1, .slice A0_2 l0_2.length c0_2, .slice A0_3 l0_3.length c0_3, .int .i64 a0_4, .string a0_5, .slice A0_6 l0_6.length c0_6] 26 (0, 0)) (by (with_reducible repeat (first | refine k2_ ?_ _ | refine k3_ ?_ | refine k1_ ?_ _)); exact BK160.out) hb); have n2_ := am_ (bt_ (by repeat (with_reducible first | exact HB.out | apply p3_ | apply p1_ | apply p2_ | refine bs_ ?_ GE160.out)) hb); clear BK160; clear HB; have HO165 := n0_; have BK160 := n1_; have HB := n2_; clear n0_ n1_ n2_; (try clear hb); (try clear ho0); obtain ⟨Ao28, co28, eo28⟩ := Kd.R_slice HO165.out; subst eo28; have hcz29_0 : w27.cell? ⟨gb160, 0, none⟩ = some (.int .i64 a0_0) := (bc_ BK160.out 0).trans rfl; have hcz29_1 : w27.cell? ⟨gb160, 1, none⟩ = some (.int .i64 a0_1) := (bc_ BK160.out 1).trans rfl; have hcz29_2 : w27.cell? ⟨gb160, 2, none⟩ = some (.slice A0_2 l0_2.length c0_2) := (bc_ BK160.out 2).trans rfl; have hcz29_3 : w27.cell? ⟨gb160, 3, none⟩ = some (.slice A0_3 l0_3.length c0_3) := (bc_ BK160.out 3).trans rfl; have hcz29_4 : w27.cell? ⟨gb160, 4, none⟩ = some (.int .i64 a0_4) := (bc_ BK160.out 4).trans rfl; have hcz29_5 : w27.cell? ⟨gb160, 5, none⟩ = some (.string a0_5) := (bc_ BK160.out 5).trans rfl; have hcz29_6 : w27.cell? ⟨gb160, 6, none⟩ = some (.slice A0_6 l0_6.length c0_6) := (bc_ BK160.out 6).trans rfl; have hfz29_0 := bf_ BK160.out 0; have hfz29_1 := bf_ BK160.out 1; have hfz29_2 := bf_ BK160.out 2; have hfz29_3 := bf_ BK160.out 3; have hfz29_4 := bf_ BK160.out 4; have hfz29_5 := bf_ BK160.out 5; have hfz29_6 := bf_ BK160.out 6) | (go_at_call 35; (with_reducible refine (pinfoldref1_Under_c.calls ((a1 ++ (⟨#[46]⟩ : ByteArray)) ++ a0_5) a0_5 true _ A25.out).mono ?_); rintro e w30 ⟨rfl, hb⟩; have n0_ := am_ (Kd.R_below (by (with_reducible repeat (first | apply r1_ | apply r2_ | apply r3_)); exact HO165.out) hb); have n1_ := am_ (kb_ (g := gb160) (o := .cells #[.int .i64 a0_0, .int .i64 a0_1, .slice A0_2 l0_2.length c0_2, .slice A0_3 l0_3.length c0_3, .int .i64 a0_4, .string a0_5, .slice A0_6 l0_6.length c0_6] 26 (0, 0)) (by (with_reducible repeat (first | refine k2_ ?_ _ | refine k3_ ?_ | refine k1_ ?_ _)); exact BK160.out) hb); have n2_ := am_ (bt_ (by repeat (with_reducible first | exact HB.out | apply p3_ | apply p1_ | apply p2_ | refine bs_ ?_ GE160.out)) hb); clear HO165; clear BK160; clear HB; have HO165 := n0_; have BK160 := n1_; have HB := n2_; clear n0_ n1_ n2_; (try clear hb)))
     go_ret
     exact ⟨by first | rfl | (simp [errW_none, errW_some] <;> rfl) | (simp [*, errW_none, errW_some] <;> rfl) | (simp only [str_ne_]; rfl) | (simp only [str_eq_]; rfl), by repeat (with_reducible first | exact HB.out | apply p3_ | apply p1_ | apply p2_ | refine bs_ ?_ GE160.out)⟩
    replace c26 := e3_ c26
    subst c26
    have H1 : (some (⟨#[]⟩ : ByteArray)) = some r := by rw [if_neg (show ¬ (false = true) by decide)] at H; exact H
    clear H
    have H := H1
    clear H1
    obtain rfl := e5_ H
    go_wp2_with (first | ((with_reducible refine gate_callee (f := 34) rfl ?_); refine goesL_ (some 18) rfl rfl Tryd.func34 (by kernel_rfl) rfl #[.string a1] rfl (by (try simp only [List.map_toArray, List.map_cons, List.map_nil]); first | done | rfl | (simp only [List.length_drop, List.length_take]; rfl)) ?_; (with_reducible refine (pinfoldref1_Labels_c.calls a1 t163 _ A17.out).mono ?_); rintro e w31 ⟨v164, rfl, ho0, hb⟩; refine ⟨_, rfl, ?_⟩; have n0_ := am_ (Kd.R_lower ho0 (bz_ (by repeat (with_reducible first | exact HB.out | apply p3_ | apply p1_ | apply p2_ | refine bs_ ?_ GE160.out)))); have n1_ := am_ (kb_ (g := gb160) (o := .cells #[.int .i64 a0_0, .int .i64 a0_1, .slice A0_2 l0_2.length c0_2, .slice A0_3 l0_3.length c0_3, .int .i64 a0_4, .string a0_5, .slice A0_6 l0_6.length c0_6] 26 (0, 0)) (by (with_reducible repeat (first | refine k2_ ?_ _ | refine k3_ ?_ | refine k1_ ?_ _)); exact BK160.out) hb); have n2_ := am_ (bt_ (by repeat (with_reducible first | exact HB.out | apply p3_ | apply p1_ | apply p2_ | refine bs_ ?_ GE160.out)) hb); clear BK160; clear HB; have HO165 := n0_; have BK160 := n1_; have HB := n2_; clear n0_ n1_ n2_; (try clear hb); (try clear ho0); obtain ⟨Ao32, co32, eo32⟩ := Kd.R_slice HO165.out; subst eo32; have hcz33_0 : w31.cell? ⟨gb160, 0, none⟩ = some (.int .i64 a0_0) := (bc_ BK160.out 0).trans rfl; have hcz33_1 : w31.cell? ⟨gb160, 1, none⟩ = some (.int .i64 a0_1) := (bc_ BK160.out 1).trans rfl; have hcz33_2 : w31.cell? ⟨gb160, 2, none⟩ = some (.slice A0_2 l0_2.length c0_2) := (bc_ BK160.out 2).trans rfl; have hcz33_3 : w31.cell? ⟨gb160, 3, none⟩ = some (.slice A0_3 l0_3.length c0_3) := (bc_ BK160.out 3).trans rfl; have hcz33_4 : w31.cell? ⟨gb160, 4, none⟩ = some (.int .i64 a0_4) := (bc_ BK160.out 4).trans rfl; have hcz33_5 : w31.cell? ⟨gb160, 5, none⟩ = some (.string a0_5) := (bc_ BK160.out 5).trans rfl; have hcz33_6 : w31.cell? ⟨gb160, 6, none⟩ = some (.slice A0_6 l0_6.length c0_6) := (bc_ BK160.out 6).trans rfl; have hfz33_0 := bf_ BK160.out 0; have hfz33_1 := bf_ BK160.out 1; have hfz33_2 := bf_ BK160.out 2; have hfz33_3 := bf_ BK160.out 3; have hfz33_4 := bf_ BK160.out 4; have hfz33_5 := bf_ BK160.out 5; have hfz33_6 := bf_ BK160.out 6) | (go_at_call 35; (with_reducible refine (pinfoldref1_Under_c.calls ((a1 ++ (⟨#[46]⟩ : ByteArray)) ++ a0_5) a0_5 false _ A25.out).mono ?_); rintro e w34 ⟨rfl, hb⟩; have n0_ := am_ (Kd.R_below (by (with_reducible repeat (first | apply r1_ | apply r2_ | apply r3_)); exact HO165.out) hb); have n1_ := am_ (kb_ (g := gb160) (o := .cells #[.int .i64 a0_0, .int .i64 a0_1, .slice A0_2 l0_2.length c0_2, .slice A0_3 l0_3.length c0_3, .int .i64 a0_4, .string a0_5, .slice A0_6 l0_6.length c0_6] 26 (0, 0)) (by (with_reducible repeat (first | refine k2_ ?_ _ | refine k3_ ?_ | refine k1_ ?_ _)); exact BK160.out) hb); have n2_ := am_ (bt_ (by repeat (with_reducible first | exact HB.out | apply p3_ | apply p1_ | apply p2_ | refine bs_ ?_ GE160.out)) hb); clear HO165; clear BK160; clear HB; have HO165 := n0_; have BK160 := n1_; have HB := n2_; clear n0_ n1_ n2_; (try clear hb)))
    go_ret
    exact ⟨by first | rfl | (simp [errW_none, errW_some] <;> rfl) | (simp [*, errW_none, errW_some] <;> rfl) | (simp only [str_ne_]; rfl) | (simp only [str_eq_]; rfl), by repeat (with_reducible first | exact HB.out | apply p3_ | apply p1_ | apply p2_ | refine bs_ ?_ GE160.out)⟩
   rw [if_neg c18] at H
   have c18b0 : ((t163.length : Int) == 1) = false := e2_ c18
   have c18b1 : ((t163.length : Int) != 1) = true := bne_iff_ne.mpr c18
   by_cases c35 : a1.toList = a0_5.toList
   ·rw [if_pos c35] at H
    have c35b0 : (a1.toList == a0_5.toList) = true := beq_iff_eq.mpr c35
    have c35b1 : (a1.toList != a0_5.toList) = false := e1_ c35
    clear c35
    obtain rfl := e5_ H
    go_wp2_with (first | ((with_reducible refine gate_callee (f := 34) rfl ?_); refine goesL_ (some 18) rfl rfl Tryd.func34 (by kernel_rfl) rfl #[.string a1] rfl (by (try simp only [List.map_toArray, List.map_cons, List.map_nil]); first | done | rfl | (simp only [List.length_drop, List.length_take]; rfl)) ?_; (with_reducible refine (pinfoldref1_Labels_c.calls a1 t163 _ A17.out).mono ?_); rintro e w36 ⟨v164, rfl, ho0, hb⟩; refine ⟨_, rfl, ?_⟩; have n0_ := am_ (Kd.R_lower ho0 (bz_ (by repeat (with_reducible first | exact HB.out | apply p3_ | apply p1_ | apply p2_ | refine bs_ ?_ GE160.out)))); have n1_ := am_ (kb_ (g := gb160) (o := .cells #[.int .i64 a0_0, .int .i64 a0_1, .slice A0_2 l0_2.length c0_2, .slice A0_3 l0_3.length c0_3, .int .i64 a0_4, .string a0_5, .slice A0_6 l0_6.length c0_6] 26 (0, 0)) (by (with_reducible repeat (first | refine k2_ ?_ _ | refine k3_ ?_ | refine k1_ ?_ _)); exact BK160.out) hb); have n2_ := am_ (bt_ (by repeat (with_reducible first | exact HB.out | apply p3_ | apply p1_ | apply p2_ | refine bs_ ?_ GE160.out)) hb); clear BK160; clear HB; have HO165 := n0_; have BK160 := n1_; have HB := n2_; clear n0_ n1_ n2_; (try clear hb); (try clear ho0); obtain ⟨Ao37, co37, eo37⟩ := Kd.R_slice HO165.out; subst eo37; have hcz38_0 : w36.cell? ⟨gb160, 0, none⟩ = some (.int .i64 a0_0) := (bc_ BK160.out 0).trans rfl; have hcz38_1 : w36.cell? ⟨gb160, 1, none⟩ = some (.int .i64 a0_1) := (bc_ BK160.out 1).trans rfl; have hcz38_2 : w36.cell? ⟨gb160, 2, none⟩ = some (.slice A0_2 l0_2.length c0_2) := (bc_ BK160.out 2).trans rfl; have hcz38_3 : w36.cell? ⟨gb160, 3, none⟩ = some (.slice A0_3 l0_3.length c0_3) := (bc_ BK160.out 3).trans rfl; have hcz38_4 : w36.cell? ⟨gb160, 4, none⟩ = some (.int .i64 a0_4) := (bc_ BK160.out 4).trans rfl; have hcz38_5 : w36.cell? ⟨gb160, 5, none⟩ = some (.string a0_5) := (bc_ BK160.out 5).trans rfl; have hcz38_6 : w36.cell? ⟨gb160, 6, none⟩ = some (.slice A0_6 l0_6.length c0_6) := (bc_ BK160.out 6).trans rfl; have hfz38_0 := bf_ BK160.out 0; have hfz38_1 := bf_ BK160.out 1; have hfz38_2 := bf_ BK160.out 2; have hfz38_3 := bf_ BK160.out 3; have hfz38_4 := bf_ BK160.out 4; have hfz38_5 := bf_ BK160.out 5; have hfz38_6 := bf_ BK160.out 6))
    go_ret
    exact ⟨by first | rfl | (simp [errW_none, errW_some] <;> rfl) | (simp [*, errW_none, errW_some] <;> rfl) | (simp only [str_ne_]; rfl) | (simp only [str_eq_]; rfl), by repeat (with_reducible first | exact HB.out | apply p3_ | apply p1_ | apply p2_ | refine bs_ ?_ GE160.out)⟩
   rw [if_neg c35] at H
   have c35b0 : (a1.toList == a0_5.toList) = false := e2_ c35
   have c35b1 : (a1.toList != a0_5.toList) = true := bne_iff_ne.mpr c35
   replace H := e4_ H
   obtain ⟨t167, A390, H⟩ := H
   replace H : (if t167 = true then (some a1) else (some (⟨#[]⟩ : ByteArray))) = some r := H
   have A39 := am_ A390
   clear A390
   by_cases c40 : t167 = true
   ·subst c40
    have H1 : (some a1) = some r := by rw [if_pos rfl] at H; exact H
    clear H
    have H := H1
    clear H1
    obtain rfl := e5_ H
    go_wp2_with (first | ((with_reducible refine gate_callee (f := 34) rfl ?_); refine goesL_ (some 18) rfl rfl Tryd.func34 (by kernel_rfl) rfl #[.string a1] rfl (by (try simp only [List.map_toArray, List.map_cons, List.map_nil]); first | done | rfl | (simp only [List.length_drop, List.length_take]; rfl)) ?_; (with_reducible refine (pinfoldref1_Labels_c.calls a1 t163 _ A17.out).mono ?_); rintro e w41 ⟨v164, rfl, ho0, hb⟩; refine ⟨_, rfl, ?_⟩; have n0_ := am_ (Kd.R_lower ho0 (bz_ (by repeat (with_reducible first | exact HB.out | apply p3_ | apply p1_ | apply p2_ | refine bs_ ?_ GE160.out)))); have n1_ := am_ (kb_ (g := gb160) (o := .cells #[.int .i64 a0_0, .int .i64 a0_1, .slice A0_2 l0_2.length c0_2, .slice A0_3 l0_3.length c0_3, .int .i64 a0_4, .string a0_5, .slice A0_6 l0_6.length c0_6] 26 (0, 0)) (by (with_reducible repeat (first | refine k2_ ?_ _ | refine k3_ ?_ | refine k1_ ?_ _)); exact BK160.out) hb); have n2_ := am_ (bt_ (by repeat (with_reducible first | exact HB.out | apply p3_ | apply p1_ | apply p2_ | refine bs_ ?_ GE160.out)) hb); clear BK160; clear HB; have HO165 := n0_; have BK160 := n1_; have HB := n2_; clear n0_ n1_ n2_; (try clear hb); (try clear ho0); obtain ⟨Ao42, co42, eo42⟩ := Kd.R_slice HO165.out; subst eo42; have hcz43_0 : w41.cell? ⟨gb160, 0, none⟩ = some (.int .i64 a0_0) := (bc_ BK160.out 0).trans rfl; have hcz43_1 : w41.cell? ⟨gb160, 1, none⟩ = some (.int .i64 a0_1) := (bc_ BK160.out 1).trans rfl; have hcz43_2 : w41.cell? ⟨gb160, 2, none⟩ = some (.slice A0_2 l0_2.length c0_2) := (bc_ BK160.out 2).trans rfl; have hcz43_3 : w41.cell? ⟨gb160, 3, none⟩ = some (.slice A0_3 l0_3.length c0_3) := (bc_ BK160.out 3).trans rfl; have hcz43_4 : w41.cell? ⟨gb160, 4, none⟩ = some (.int .i64 a0_4) := (bc_ BK160.out 4).trans rfl; have hcz43_5 : w41.cell? ⟨gb160, 5, none⟩ = some (.string a0_5) := (bc_ BK160.out 5).trans rfl; have hcz43_6 : w41.cell? ⟨gb160, 6, none⟩ = some (.slice A0_6 l0_6.length c0_6) := (bc_ BK160.out 6).trans rfl; have hfz43_0 := bf_ BK160.out 0; have hfz43_1 := bf_ BK160.out 1; have hfz43_2 := bf_ BK160.out 2; have hfz43_3 := bf_ BK160.out 3; have hfz43_4 := bf_ BK160.out 4; have hfz43_5 := bf_ BK160.out 5; have hfz43_6 := bf_ BK160.out 6) | (go_at_call 35; (with_reducible refine (pinfoldref1_Under_c.calls a1 a0_5 true _ A39.out).mono ?_); rintro e w44 ⟨rfl, hb⟩; have n0_ := am_ (Kd.R_below (by (with_reducible repeat (first | apply r1_ | apply r2_ | apply r3_)); exact HO165.out) hb); have n1_ := am_ (kb_ (g := gb160) (o := .cells #[.int .i64 a0_0, .int .i64 a0_1, .slice A0_2 l0_2.length c0_2, .slice A0_3 l0_3.length c0_3, .int .i64 a0_4, .string a0_5, .slice A0_6 l0_6.length c0_6] 26 (0, 0)) (by (with_reducible repeat (first | refine k2_ ?_ _ | refine k3_ ?_ | refine k1_ ?_ _)); exact BK160.out) hb); have n2_ := am_ (bt_ (by repeat (with_reducible first | exact HB.out | apply p3_ | apply p1_ | apply p2_ | refine bs_ ?_ GE160.out)) hb); clear HO165; clear BK160; clear HB; have HO165 := n0_; have BK160 := n1_; have HB := n2_; clear n0_ n1_ n2_; (try clear hb)))
    go_ret
    exact ⟨by first | rfl | (simp [errW_none, errW_some] <;> rfl) | (simp [*, errW_none, errW_some] <;> rfl) | (simp only [str_ne_]; rfl) | (simp only [str_eq_]; rfl), by repeat (with_reducible first | exact HB.out | apply p3_ | apply p1_ | apply p2_ | refine bs_ ?_ GE160.out)⟩
   replace c40 := e3_ c40
   subst c40
   have H1 : (some (⟨#[]⟩ : ByteArray)) = some r := by rw [if_neg (show ¬ (false = true) by decide)] at H; exact H
   clear H
   have H := H1
   clear H1
   obtain rfl := e5_ H
   go_wp2_with (first | ((with_reducible refine gate_callee (f := 34) rfl ?_); refine goesL_ (some 18) rfl rfl Tryd.func34 (by kernel_rfl) rfl #[.string a1] rfl (by (try simp only [List.map_toArray, List.map_cons, List.map_nil]); first | done | rfl | (simp only [List.length_drop, List.length_take]; rfl)) ?_; (with_reducible refine (pinfoldref1_Labels_c.calls a1 t163 _ A17.out).mono ?_); rintro e w45 ⟨v164, rfl, ho0, hb⟩; refine ⟨_, rfl, ?_⟩; have n0_ := am_ (Kd.R_lower ho0 (bz_ (by repeat (with_reducible first | exact HB.out | apply p3_ | apply p1_ | apply p2_ | refine bs_ ?_ GE160.out)))); have n1_ := am_ (kb_ (g := gb160) (o := .cells #[.int .i64 a0_0, .int .i64 a0_1, .slice A0_2 l0_2.length c0_2, .slice A0_3 l0_3.length c0_3, .int .i64 a0_4, .string a0_5, .slice A0_6 l0_6.length c0_6] 26 (0, 0)) (by (with_reducible repeat (first | refine k2_ ?_ _ | refine k3_ ?_ | refine k1_ ?_ _)); exact BK160.out) hb); have n2_ := am_ (bt_ (by repeat (with_reducible first | exact HB.out | apply p3_ | apply p1_ | apply p2_ | refine bs_ ?_ GE160.out)) hb); clear BK160; clear HB; have HO165 := n0_; have BK160 := n1_; have HB := n2_; clear n0_ n1_ n2_; (try clear hb); (try clear ho0); obtain ⟨Ao46, co46, eo46⟩ := Kd.R_slice HO165.out; subst eo46; have hcz47_0 : w45.cell? ⟨gb160, 0, none⟩ = some (.int .i64 a0_0) := (bc_ BK160.out 0).trans rfl; have hcz47_1 : w45.cell? ⟨gb160, 1, none⟩ = some (.int .i64 a0_1) := (bc_ BK160.out 1).trans rfl; have hcz47_2 : w45.cell? ⟨gb160, 2, none⟩ = some (.slice A0_2 l0_2.length c0_2) := (bc_ BK160.out 2).trans rfl; have hcz47_3 : w45.cell? ⟨gb160, 3, none⟩ = some (.slice A0_3 l0_3.length c0_3) := (bc_ BK160.out 3).trans rfl; have hcz47_4 : w45.cell? ⟨gb160, 4, none⟩ = some (.int .i64 a0_4) := (bc_ BK160.out 4).trans rfl; have hcz47_5 : w45.cell? ⟨gb160, 5, none⟩ = some (.string a0_5) := (bc_ BK160.out 5).trans rfl; have hcz47_6 : w45.cell? ⟨gb160, 6, none⟩ = some (.slice A0_6 l0_6.length c0_6) := (bc_ BK160.out 6).trans rfl; have hfz47_0 := bf_ BK160.out 0; have hfz47_1 := bf_ BK160.out 1; have hfz47_2 := bf_ BK160.out 2; have hfz47_3 := bf_ BK160.out 3; have hfz47_4 := bf_ BK160.out 4; have hfz47_5 := bf_ BK160.out 5; have hfz47_6 := bf_ BK160.out 6) | (go_at_call 35; (with_reducible refine (pinfoldref1_Under_c.calls a1 a0_5 false _ A39.out).mono ?_); rintro e w48 ⟨rfl, hb⟩; have n0_ := am_ (Kd.R_below (by (with_reducible repeat (first | apply r1_ | apply r2_ | apply r3_)); exact HO165.out) hb); have n1_ := am_ (kb_ (g := gb160) (o := .cells #[.int .i64 a0_0, .int .i64 a0_1, .slice A0_2 l0_2.length c0_2, .slice A0_3 l0_3.length c0_3, .int .i64 a0_4, .string a0_5, .slice A0_6 l0_6.length c0_6] 26 (0, 0)) (by (with_reducible repeat (first | refine k2_ ?_ _ | refine k3_ ?_ | refine k1_ ?_ _)); exact BK160.out) hb); have n2_ := am_ (bt_ (by repeat (with_reducible first | exact HB.out | apply p3_ | apply p1_ | apply p2_ | refine bs_ ?_ GE160.out)) hb); clear HO165; clear BK160; clear HB; have HO165 := n0_; have BK160 := n1_; have HB := n2_; clear n0_ n1_ n2_; (try clear hb)))
   go_ret
   exact ⟨by first | rfl | (simp [errW_none, errW_some] <;> rfl) | (simp [*, errW_none, errW_some] <;> rfl) | (simp only [str_ne_]; rfl) | (simp only [str_eq_]; rfl), by repeat (with_reducible first | exact HB.out | apply p3_ | apply p1_ | apply p2_ | refine bs_ ?_ GE160.out)⟩

end Go.Proofs.YtibalpbkmgegnaaDoor.PN
