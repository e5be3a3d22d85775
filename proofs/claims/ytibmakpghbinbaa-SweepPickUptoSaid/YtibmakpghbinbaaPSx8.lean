-- Made by wip/pr.py out of the translation (a turned copy of the kit's print; contracts by hand where said).
import Derived.Test.YtibmakpghbinbaaPSx0
import Derived.Test.YtibmakpghbinbaaPSx2
import Derived.Test.YtibmakpghbinbaaPSx5
import Derived.Test.YtibmakpghbinbaaPSx6
import Derived.Test.YtibmakpghbinbaaPSx7
namespace Go.Proofs.Ytibmakpghbinbaa.PS
open Go.RowKit Go.Proofs.YtibmakpghbinbaaW.PrintWords Go.Proofs.YtibmakpghbinbaaW.PrintLast Go.Proofs.YtibmakpghbinbaaW.PrintMore
-- shrunk
attribute [local go_sem] max2_int min2_int max_two min_two max_three min_three max_four min_four   -- for this text's walks alone
set_option linter.unusedVariables false
set_option linter.unusedSimpArgs false

/-! ### pinfoldref11_ConfMay: function 75 -/
-- BY HAND
-- 82 89 76 90
-- inc refconfmay.inc
section
variable {r : Bool} {a0 a1 : Int} {l2 : List Int} {l3 : List S118} {a4 : Int} {z : ByteArray} {l6 : List S139} {n5 : Bool} {L : List ByteArray}
theorem conf_no (h5 : nameB (bytesOf z) = n5) (hL : labelsS z = L) (HR : confB a0 a1 l2 l3 a4 z l6 = r) (e : ¬ (2 ≤ a0 ∧ a0 ≤ a1 ∧ a1 ≤ 254 ∧ a1 - a0 < 8 ∧ l2.length ≤ 8 ∧ l3.length ≤ 4 ∧ 1 ≤ a4 ∧ a4 ≤ 1048576 ∧ z.toList ≠ [] ∧ n5 = true ∧ L.length ≤ 4 ∧ l6.length ≤ 8)) : false = r := by
 rw [← HR]
 symm
 rw [Bool.eq_false_iff]
 intro e2
 unfold confB hostsB reservedB staticsB hostsB at e2
 rw [h5, hL] at e2
 simp only [Bool.and_eq_true, decide_eq_true_eq, List.length_map] at e2
 exact e ⟨e2.1.1.1, e2.1.1.2.1, e2.1.1.2.2.1, e2.1.1.2.2.2, by omega, by omega, e2.2.1.1, e2.2.1.2, e2.1.2.1, e2.1.2.2.1, e2.1.2.2.2, by omega⟩
/-- what the loops ask. -/
def hostsIn (a b : Int) (l : List Int) : Prop := (∀ x ∈ l, a ≤ x ∧ x ≤ b) ∧ l.Nodup
def resIn (a b : Int) (l : List S118) : Prop := (∀ x ∈ l, a ≤ x.f1 ∧ x.f1 ≤ b ∧ clientB x.f0 = true) ∧ (l.map fun x => x.f1).Nodup ∧ (l.map fun x => x.f0.data.toList).Nodup
theorem conf_yes (h5 : nameB (bytesOf z) = n5) (hL : labelsS z = L) (HR : confB a0 a1 l2 l3 a4 z l6 = r) (e : 2 ≤ a0 ∧ a0 ≤ a1 ∧ a1 ≤ 254 ∧ a1 - a0 < 8 ∧ l2.length ≤ 8 ∧ l3.length ≤ 4 ∧ 1 ≤ a4 ∧ a4 ≤ 1048576 ∧ z.toList ≠ [] ∧ n5 = true ∧ L.length ≤ 4 ∧ l6.length ≤ 8) : r = true ↔ hostsIn a0 a1 l2 ∧ resIn a0 a1 l3 ∧ l6.all (staticB z) = true := by
 rw [← HR]
 unfold confB hostsB reservedB staticsB hostsB hostsIn resIn
 rw [h5, hL]
 simp only [Bool.and_eq_true, decide_eq_true_eq, List.length_map, List.all_eq_true, List.mem_map]
 constructor
 ·rintro ⟨_, _, ⟨h1, h2, _⟩, ⟨h3, h4, h6, h7, _⟩, h8, _⟩
  exact ⟨⟨h1, h2⟩, ⟨fun x hx => ⟨(h6 _ ⟨x, hx, rfl⟩).1, (h6 _ ⟨x, hx, rfl⟩).2, h3 x hx⟩, h7, h4⟩, h8⟩
 ·rintro ⟨⟨h1, h2⟩, ⟨h3, h4, h6⟩, h7⟩
  refine ⟨⟨⟨e.1, e.2.1, e.2.2.1, e.2.2.2.1⟩, e.2.2.2.2.2.2.2.2.1, e.2.2.2.2.2.2.2.2.2.1, e.2.2.2.2.2.2.2.2.2.2.1⟩, ⟨e.2.2.2.2.2.2.1, e.2.2.2.2.2.2.2.1⟩, ⟨h1, h2, by omega⟩, ⟨fun x hx => (h3 x hx).2.2, h6, ?_, h4, by omega⟩, h7, by omega⟩
  rintro _ ⟨x, hx, rfl⟩
  exact ⟨(h3 x hx).1, (h3 x hx).2.1⟩
end
theorem no_of {r : Bool} {p : Prop} (h : r = true ↔ p) (hn : ¬ p) : false = r := by
 cases r with
 | false => rfl
 | true => exact absurd (h.1 rfl) hn
theorem hosts_take {a b : Int} (l : List Int) (i : Int) (h0 : 0 ≤ i) (h1 : i < l.length) : (hostsIn a b l → (a ≤ rd l i ∧ rd l i ≤ b) ∧ rd l i ∉ l.take i.toNat) ∧ (hostsIn a b (l.take i.toNat) → a ≤ rd l i ∧ rd l i ≤ b → rd l i ∉ l.take i.toNat → hostsIn a b (l.take (i.toNat + 1))) := by
 have h : i.toNat < l.length := by omega
 have e : rd l i = l[i.toNat] := by
  unfold rd
  rw [List.getD_eq_getElem?_getD, List.getElem?_eq_getElem h]
  rfl
 have et : l.take (i.toNat + 1) = l.take i.toNat ++ [rd l i] := by rw [e, List.take_succ_eq_append_getElem h]
 refine ⟨fun hh => ⟨hh.1 _ (by rw [e]; exact List.getElem_mem h), fun hm => ?_⟩, fun hh hr hn => ?_⟩
 ·have h3 : (l.take (i.toNat + 1)).Nodup := hh.2.sublist (List.take_sublist _ _)
  rw [et] at h3
  unfold List.Nodup at h3
  rw [List.pairwise_append] at h3
  exact h3.2.2 _ hm _ (List.mem_singleton.2 rfl) rfl
 ·rw [et]
  refine ⟨fun y hy => ?_, nodup_snoc _ _ hh.2 hn⟩
  rw [List.mem_append, List.mem_singleton] at hy
  rcases hy with hy | rfl
  ·exact hh.1 y hy
  ·exact hr
theorem take_rd (l : List Int) (j : Int) (h0 : 0 ≤ j) (h1 : j < l.length) : l.take (j.toNat + 1) = l.take j.toNat ++ [rd l j] := by
 have h : j.toNat < l.length := by omega
 have e := rd_take_succ l j.toNat h
 rw [Int.toNat_of_nonneg h0] at e
 exact e
theorem take_mem (l : List Int) (i j : Int) (h0 : 0 ≤ j) (h : j < i) (h1 : i ≤ l.length) : rd l j ∈ l.take i.toNat := by
 have hj : j.toNat < l.length := by omega
 have e : rd l j = l[j.toNat] := by
  unfold rd
  rw [List.getD_eq_getElem?_getD, List.getElem?_eq_getElem hj]
  rfl
 rw [e, List.mem_take_iff_getElem]
 exact ⟨j.toNat, by omega, rfl⟩
theorem rdR_eq (l : List S118) (j : Int) (h0 : 0 ≤ j) (h1 : j < l.length) : rd_T118 l j = l[j.toNat]'(by omega) := by
 unfold rd_T118
 rw [List.getD_eq_getElem?_getD, List.getElem?_eq_getElem (by omega)]
 rfl
theorem takeR_rd (l : List S118) (j : Int) (h0 : 0 ≤ j) (h1 : j < l.length) : l.take (j.toNat + 1) = l.take j.toNat ++ [rd_T118 l j] := by
 rw [rdR_eq l j h0 h1, List.take_succ_eq_append_getElem (by omega)]
theorem takeR_mem (l : List S118) (i j : Int) (h0 : 0 ≤ j) (h : j < i) (h1 : i ≤ l.length) : rd_T118 l j ∈ l.take i.toNat := by
 rw [rdR_eq l j h0 (by omega), List.mem_take_iff_getElem]
 exact ⟨j.toNat, by omega, rfl⟩
theorem res_take {a b : Int} (l : List S118) (i : Int) (h0 : 0 ≤ i) (h1 : i < l.length) : (resIn a b l → (a ≤ (rd_T118 l i).f1 ∧ (rd_T118 l i).f1 ≤ b ∧ clientB (rd_T118 l i).f0 = true) ∧ ∀ y ∈ l.take i.toNat, y.f1 ≠ (rd_T118 l i).f1 ∧ y.f0.data.toList ≠ (rd_T118 l i).f0.data.toList) ∧ (resIn a b (l.take i.toNat) → (a ≤ (rd_T118 l i).f1 ∧ (rd_T118 l i).f1 ≤ b ∧ clientB (rd_T118 l i).f0 = true) → (∀ y ∈ l.take i.toNat, y.f1 ≠ (rd_T118 l i).f1 ∧ y.f0.data.toList ≠ (rd_T118 l i).f0.data.toList) → resIn a b (l.take (i.toNat + 1))) := by
 have et := takeR_rd l i h0 h1
 have hm : rd_T118 l i ∈ l := by rw [rdR_eq l i h0 h1]; exact List.getElem_mem _
 generalize rd_T118 l i = x at et hm
 refine ⟨fun hh => ⟨hh.1 _ hm, fun y hy => ⟨fun e => ?_, fun e => ?_⟩⟩, fun hh hr hn => ?_⟩
 ·have h3 : ((l.take (i.toNat + 1)).map fun x => x.f1).Nodup := hh.2.1.sublist ((List.take_sublist _ _).map _)
  rw [et, List.map_append] at h3
  unfold List.Nodup at h3
  rw [List.pairwise_append] at h3
  exact h3.2.2 _ (List.mem_map.2 ⟨y, hy, rfl⟩) _ (List.mem_map.2 ⟨x, List.mem_singleton.2 rfl, rfl⟩) e
 ·have h3 : ((l.take (i.toNat + 1)).map fun x => x.f0.data.toList).Nodup := hh.2.2.sublist ((List.take_sublist _ _).map _)
  rw [et, List.map_append] at h3
  unfold List.Nodup at h3
  rw [List.pairwise_append] at h3
  exact h3.2.2 _ (List.mem_map.2 ⟨y, hy, rfl⟩) _ (List.mem_map.2 ⟨x, List.mem_singleton.2 rfl, rfl⟩) e
 ·rw [et]
  refine ⟨fun y hy => ?_, ?_, ?_⟩
  ·rw [List.mem_append, List.mem_singleton] at hy
   rcases hy with hy | rfl
   ·exact hh.1 y hy
   ·exact hr
  ·rw [List.map_append]
   exact nodup_snoc _ _ hh.2.1 (fun hx => by obtain ⟨y, hy, e⟩ := List.mem_map.1 hx; exact (hn y hy).1 e)
  ·rw [List.map_append]
   exact nodup_snoc _ _ hh.2.2 (fun hx => by obtain ⟨y, hy, e⟩ := List.mem_map.1 hx; exact (hn y hy).2 e)
theorem clientMay_eq (s : ByteArray) : pinfoldref11_clientMay.f s = some (clientB s) := by
 unfold pinfoldref11_clientMay.f clientB
 by_cases h1 : (s.size : Int) ≥ 1
 ·rw [if_pos h1, Option.some.injEq, decide_eq_decide]
  omega
 ·rw [if_neg h1, Option.some.injEq, eq_comm, decide_eq_false_iff_not]
  omega
/-- where a record, a zone's name and the records lie. -/
def confMayS (p q0 q1 q2 q3 q4 q5 q6 : Addr) (f0 : ByteArray) (f1 f2 f3 : Int) (f4 f5 : ByteArray) (f6 : Int) (g : Nat) (z : ByteArray) (v6 : Value) (w' : World) : Prop := w'.cell? q0 = some (.string f0) ∧ w'.cell? q1 = some (.int .i64 f1) ∧ w'.cell? q2 = some (.int .i64 f2) ∧ w'.cell? q3 = some (.int .i64 f3) ∧ w'.cell? q4 = some (.string f4) ∧ w'.cell? q5 = some (.string f5) ∧ w'.cell? q6 = some (.int .i64 f6) ∧ w'.cell? ⟨g, 5, none⟩ = some (.string z) ∧ w'.cell? ⟨g, 6, none⟩ = some v6
theorem confMayS_below {p q0 q1 q2 q3 q4 q5 q6 : Addr} {f0 : ByteArray} {f1 f2 f3 : Int} {f4 f5 : ByteArray} {f6 : Int} {g : Nat} {z : ByteArray} {v6 : Value} {w w2 : World} (h : confMayS p q0 q1 q2 q3 q4 q5 q6 f0 f1 f2 f3 f4 f5 f6 g z v6 w) (hb : Below w.heap.size w w2) : confMayS p q0 q1 q2 q3 q4 q5 q6 f0 f1 f2 f3 f4 f5 f6 g z v6 w2 := by
 obtain ⟨s0, s1, s2, s3, s4, s5, s6, s7, s8⟩ := h
 exact ⟨(hb.cell (wb_ _ _ s0)).trans s0, (hb.cell (wb_ _ _ s1)).trans s1, (hb.cell (wb_ _ _ s2)).trans s2, (hb.cell (wb_ _ _ s3)).trans s3, (hb.cell (wb_ _ _ s4)).trans s4, (hb.cell (wb_ _ _ s5)).trans s5, (hb.cell (wb_ _ _ s6)).trans s6, (hb.cell (wb_ _ _ s7)).trans s7, (hb.cell (wb_ _ _ s8)).trans s8⟩
theorem rdS_eq (l : List S139) (j : Int) (h0 : 0 ≤ j) (h1 : j < l.length) : l.take (j.toNat + 1) = l.take j.toNat ++ [rd_T139 l j] ∧ rd_T139 l j ∈ l := by
 have e : rd_T139 l j = l[j.toNat]'(by omega) := by
  unfold rd_T139
  rw [List.getD_eq_getElem?_getD, List.getElem?_eq_getElem (by omega)]
  rfl
 rw [e, List.take_succ_eq_append_getElem (by omega)]
 exact ⟨rfl, List.getElem_mem _⟩
def pinfoldref11_ConfMay.f (a0_0 : Int) (a0_1 : Int) (l0_2 : List Int) (l0_3 : List S118) (a0_4 : Int) (a0_5 : ByteArray) (l0_6 : List S139) : Option Bool := if confFitR l0_2 l0_3 a0_5 l0_6 then some (confB a0_0 a0_1 l0_2 l0_3 a0_4 a0_5 l0_6) else none
set_option maxHeartbeats 8000000 in
set_option maxRecDepth 100000 in
/-- what may not be, ahead of the loops. -/
theorem pinfoldref11_ConfMay.no (a0_0 : Int) (a0_1 : Int) (A0_2 : Option Addr) (c0_2 : Nat) (l0_2 : List Int) (A0_3 : Option Addr) (c0_3 : Nat) (l0_3 : List S118) (a0_4 : Int) (a0_5 : ByteArray) (A0_6 : Option Addr) (c0_6 : Nat) (l0_6 : List S139) (w : World) (n5 : Bool) (L : List ByteArray) (fz : a0_5.size ≤ 8796093022000) (h5 : nameB (bytesOf a0_5) = n5) (hL : labelsS a0_5 = L) (hq : ¬ (2 ≤ a0_0 ∧ a0_0 ≤ a0_1 ∧ a0_1 ≤ 254 ∧ a0_1 - a0_0 < 8 ∧ l0_2.length ≤ 8 ∧ l0_3.length ≤ 4 ∧ 1 ≤ a0_4 ∧ a0_4 ≤ 1048576 ∧ a0_5.toList ≠ [] ∧ n5 = true ∧ L.length ≤ 4 ∧ l0_6.length ≤ 8)) :
  Calls Try.prog 75 #[.agg #[.int .i64 a0_0, .int .i64 a0_1, .slice A0_2 l0_2.length c0_2, .slice A0_3 l0_3.length c0_3, .int .i64 a0_4, .string a0_5, .slice A0_6 l0_6.length c0_6]] w fun e w' => e = .returned (.bool false) ∧ Below w.heap.size w w' := by
 have CN := am_ (fun W => pinfoldref1_NameMay_c.calls a0_5 n5 W (by unfold pinfoldref1_NameMay_c.f; rw [if_pos (by omega), h5]))
 have CL := am_ (fun W => pinfoldref1_Labels_c.calls a0_5 L W (by unfold pinfoldref1_Labels_c.f; rw [if_pos (by omega), hL]))
 have HB := am_ (Below.refl w.heap.size w)
 have BK := am_ (blk_new w (.cells #[.int .i64 a0_0, .int .i64 a0_1, .slice A0_2 l0_2.length c0_2, .slice A0_3 l0_3.length c0_3, .int .i64 a0_4, .string a0_5, .slice A0_6 l0_6.length c0_6] 26))
 replace hq := am_ hq
 clear h5 hL fz
 by_cases c1 : a0_0 < 2
 ·clear hq CN CL BK
  go_enter Try.func75, Try.ntmps75
  go_wp2
  go_ret
  exact ⟨rfl, (by repeat (with_reducible first | exact HB.out | apply p3_ | apply p1_ | apply p2_))⟩
 by_cases c2 : 254 < a0_1
 ·clear hq CN CL BK
  go_enter Try.func75, Try.ntmps75
  go_wp2
  go_ret
  exact ⟨rfl, (by repeat (with_reducible first | exact HB.out | apply p3_ | apply p1_ | apply p2_))⟩
 by_cases c3 : a0_1 < a0_0
 ·clear hq CN CL BK
  go_enter Try.func75, Try.ntmps75
  go_wp2
  go_ret
  exact ⟨rfl, (by repeat (with_reducible first | exact HB.out | apply p3_ | apply p1_ | apply p2_))⟩
 by_cases c4 : 8 ≤ a0_1 - a0_0
 ·clear hq CN CL BK
  go_enter Try.func75, Try.ntmps75
  go_wp2
  go_ret
  exact ⟨rfl, (by repeat (with_reducible first | exact HB.out | apply p3_ | apply p1_ | apply p2_))⟩
 by_cases c5 : (8 : Int) < (l0_2.length : Int)
 ·clear hq CN CL BK
  go_enter Try.func75, Try.ntmps75
  go_wp2
  go_ret
  exact ⟨rfl, (by repeat (with_reducible first | exact HB.out | apply p3_ | apply p1_ | apply p2_))⟩
 by_cases c6 : (4 : Int) < (l0_3.length : Int)
 ·clear hq CN CL BK
  go_enter Try.func75, Try.ntmps75
  go_wp2
  go_ret
  exact ⟨rfl, (by repeat (with_reducible first | exact HB.out | apply p3_ | apply p1_ | apply p2_))⟩
 by_cases c7 : a0_4 < 1
 ·clear hq CN CL BK
  go_enter Try.func75, Try.ntmps75
  go_wp2
  go_ret
  exact ⟨rfl, (by repeat (with_reducible first | exact HB.out | apply p3_ | apply p1_ | apply p2_))⟩
 by_cases c8 : 1048576 < a0_4
 ·clear hq CN CL BK
  go_enter Try.func75, Try.ntmps75
  go_wp2
  go_ret
  exact ⟨rfl, (by repeat (with_reducible first | exact HB.out | apply p3_ | apply p1_ | apply p2_))⟩
 by_cases c9 : a0_5.toList = []
 ·clear hq CN CL BK
  have c9b : a0_5.toList.isEmpty = true := by simp [c9]
  go_enter Try.func75, Try.ntmps75
  go_wp2
  go_ret
  exact ⟨rfl, (by repeat (with_reducible first | exact HB.out | apply p3_ | apply p1_ | apply p2_))⟩
 have c9b : a0_5.toList.isEmpty = false := by simpa using c9
 cases n5 with
 | false =>
  clear hq CL
  go_enter Try.func75, Try.ntmps75
  go_wp2_with (first | (go_at_call 82; (with_reducible refine (CN.out _).mono ?_); rintro e w1 ⟨rfl, hb2⟩; replace BK := am_ (kb_ (blk_new w (.cells #[.int .i64 a0_0, .int .i64 a0_1, .slice A0_2 l0_2.length c0_2, .slice A0_3 l0_3.length c0_3, .int .i64 a0_4, .string a0_5, .slice A0_6 l0_6.length c0_6] 26)) hb2); replace HB := am_ (bt_ (p3_ HB.out (.cells #[.int .i64 a0_0, .int .i64 a0_1, .slice A0_2 l0_2.length c0_2, .slice A0_3 l0_3.length c0_3, .int .i64 a0_4, .string a0_5, .slice A0_6 l0_6.length c0_6] 26)) hb2); clear hb2; have u0 := bc_ BK.out 0; have u1 := bc_ BK.out 1; have u2 := bc_ BK.out 2; have u3 := bc_ BK.out 3; have u4 := bc_ BK.out 4; have u5 := bc_ BK.out 5; have u6 := bc_ BK.out 6))
  go_ret
  exact ⟨rfl, (by repeat (with_reducible first | exact HB.out | apply p3_ | apply p1_ | apply p2_))⟩
 | true =>
 by_cases c11 : (4 : Int) < (L.length : Int)
 ·clear hq
  go_enter Try.func75, Try.ntmps75
  go_wp2_with (first | (go_at_call 82; (with_reducible refine (CN.out _).mono ?_); rintro e w1 ⟨rfl, hb2⟩; replace BK := am_ (kb_ (blk_new w (.cells #[.int .i64 a0_0, .int .i64 a0_1, .slice A0_2 l0_2.length c0_2, .slice A0_3 l0_3.length c0_3, .int .i64 a0_4, .string a0_5, .slice A0_6 l0_6.length c0_6] 26)) hb2); replace HB := am_ (bt_ (p3_ HB.out (.cells #[.int .i64 a0_0, .int .i64 a0_1, .slice A0_2 l0_2.length c0_2, .slice A0_3 l0_3.length c0_3, .int .i64 a0_4, .string a0_5, .slice A0_6 l0_6.length c0_6] 26)) hb2); clear hb2; have u0 := bc_ BK.out 0; have u1 := bc_ BK.out 1; have u2 := bc_ BK.out 2; have u3 := bc_ BK.out 3; have u4 := bc_ BK.out 4; have u5 := bc_ BK.out 5; have u6 := bc_ BK.out 6) | (go_at_call 89; (with_reducible refine (CL.out _).mono ?_); rintro e w2 ⟨v, rfl, hR, hb2⟩; obtain ⟨A, c, rfl, hcl, hCl⟩ := Kd.R_reads hR; clear hcl hCl hR; replace BK := am_ (kb_ BK.out hb2); replace HB := am_ (bt_ HB.out hb2); clear hb2; clear u0 u1 u2 u3 u4 u5 u6; have u0 := bc_ BK.out 0; have u1 := bc_ BK.out 1; have u2 := bc_ BK.out 2; have u3 := bc_ BK.out 3; have u4 := bc_ BK.out 4; have u5 := bc_ BK.out 5; have u6 := bc_ BK.out 6))
  go_ret
  exact ⟨rfl, (by repeat (with_reducible first | exact HB.out | apply p3_ | apply p1_ | apply p2_))⟩
 by_cases c12 : (8 : Int) < (l0_6.length : Int)
 ·clear hq
  go_enter Try.func75, Try.ntmps75
  go_wp2_with (first | (go_at_call 82; (with_reducible refine (CN.out _).mono ?_); rintro e w1 ⟨rfl, hb2⟩; replace BK := am_ (kb_ (blk_new w (.cells #[.int .i64 a0_0, .int .i64 a0_1, .slice A0_2 l0_2.length c0_2, .slice A0_3 l0_3.length c0_3, .int .i64 a0_4, .string a0_5, .slice A0_6 l0_6.length c0_6] 26)) hb2); replace HB := am_ (bt_ (p3_ HB.out (.cells #[.int .i64 a0_0, .int .i64 a0_1, .slice A0_2 l0_2.length c0_2, .slice A0_3 l0_3.length c0_3, .int .i64 a0_4, .string a0_5, .slice A0_6 l0_6.length c0_6] 26)) hb2); clear hb2; have u0 := bc_ BK.out 0; have u1 := bc_ BK.out 1; have u2 := bc_ BK.out 2; have u3 := bc_ BK.out 3; have u4 := bc_ BK.out 4; have u5 := bc_ BK.out 5; have u6 := bc_ BK.out 6) | (go_at_call 89; (with_reducible refine (CL.out _).mono ?_); rintro e w2 ⟨v, rfl, hR, hb2⟩; obtain ⟨A, c, rfl, hcl, hCl⟩ := Kd.R_reads hR; clear hcl hCl hR; replace BK := am_ (kb_ BK.out hb2); replace HB := am_ (bt_ HB.out hb2); clear hb2; clear u0 u1 u2 u3 u4 u5 u6; have u0 := bc_ BK.out 0; have u1 := bc_ BK.out 1; have u2 := bc_ BK.out 2; have u3 := bc_ BK.out 3; have u4 := bc_ BK.out 4; have u5 := bc_ BK.out 5; have u6 := bc_ BK.out 6))
  go_ret
  exact ⟨rfl, (by repeat (with_reducible first | exact HB.out | apply p3_ | apply p1_ | apply p2_))⟩
 exact absurd ⟨by omega, by omega, by omega, by omega, by omega, by omega, by omega, by omega, c9, rfl, by omega, by omega⟩ hq.out
set_option maxHeartbeats 8000000 in
set_option maxRecDepth 100000 in
theorem pinfoldref11_ConfMay.calls (a0_0 : Int) (a0_1 : Int) (A0_2 : Option Addr) (c0_2 : Nat) (l0_2 : List Int) (A0_3 : Option Addr) (c0_3 : Nat) (l0_3 : List S118) (a0_4 : Int) (a0_5 : ByteArray) (A0_6 : Option Addr) (c0_6 : Nat) (l0_6 : List S139) (r : Bool) (w : World) (hr0_2 : Kd.C (Kd.int .i64) w A0_2 l0_2.length l0_2) (hc0_2 : l0_2.length ≤ c0_2) (hr0_3 : Kd.C k118 w A0_3 l0_3.length l0_3) (hc0_3 : l0_3.length ≤ c0_3) (hr0_6 : Kd.C k139 w A0_6 l0_6.length l0_6) (hc0_6 : l0_6.length ≤ c0_6) (h : pinfoldref11_ConfMay.f a0_0 a0_1 l0_2 l0_3 a0_4 a0_5 l0_6 = some r) :
  Calls Try.prog 75 #[.agg #[.int .i64 a0_0, .int .i64 a0_1, .slice A0_2 l0_2.length c0_2, .slice A0_3 l0_3.length c0_3, .int .i64 a0_4, .string a0_5, .slice A0_6 l0_6.length c0_6]] w fun e w' => e = .returned (.bool r) ∧ Below w.heap.size w w' := by
 unfold pinfoldref11_ConfMay.f at h
 by_cases hs : confFitR l0_2 l0_3 a0_5 l0_6
 rotate_left
 ·rw [if_neg hs] at h
  cases h
 rw [if_pos hs] at h
 have HR := e5_ h
 obtain ⟨f2, f3, fz, f6, fx⟩ := hs
 obtain ⟨n5, h5⟩ : ∃ b, nameB (bytesOf a0_5) = b := ⟨_, rfl⟩
 obtain ⟨L, hL⟩ : ∃ b, labelsS a0_5 = b := ⟨_, rfl⟩
 by_cases hq : 2 ≤ a0_0 ∧ a0_0 ≤ a0_1 ∧ a0_1 ≤ 254 ∧ a0_1 - a0_0 < 8 ∧ l0_2.length ≤ 8 ∧ l0_3.length ≤ 4 ∧ 1 ≤ a0_4 ∧ a0_4 ≤ 1048576 ∧ a0_5.toList ≠ [] ∧ n5 = true ∧ L.length ≤ 4 ∧ l0_6.length ≤ 8
 rotate_left
 ·have hf := conf_no (r := r) h5 hL HR hq
  refine (pinfoldref11_ConfMay.no a0_0 a0_1 A0_2 c0_2 l0_2 A0_3 c0_3 l0_3 a0_4 a0_5 A0_6 c0_6 l0_6 w n5 L fz h5 hL hq).mono ?_
  rintro e w' ⟨rfl, hb⟩
  exact ⟨ret_bool hf, hb⟩
 have q2 := conf_yes (r := r) h5 hL HR hq
 obtain ⟨c1, c2, c3, c4, c5, c6, c7, c8, c9, rfl, c11, c12⟩ := hq
 have CN := am_ (fun W => pinfoldref1_NameMay_c.calls a0_5 true W (by unfold pinfoldref1_NameMay_c.f; rw [if_pos (by omega), h5]))
 have CL := am_ (fun W => pinfoldref1_Labels_c.calls a0_5 L W (by unfold pinfoldref1_Labels_c.f; rw [if_pos (by omega), hL]))
 have HR2 := am_ hr0_2
 have HR3 := am_ hr0_3
 have HR6 := am_ hr0_6
 have HF := am_ (And.intro fz fx)
 replace q2 := am_ q2
 have HB := am_ (Below.refl w.heap.size w)
 have BK := am_ (blk_new w (.cells #[.int .i64 a0_0, .int .i64 a0_1, .slice A0_2 l0_2.length c0_2, .slice A0_3 l0_3.length c0_3, .int .i64 a0_4, .string a0_5, .slice A0_6 l0_6.length c0_6] 26))
 clear h5 hL HR h hr0_2 hr0_3 hr0_6 hc0_2 hc0_3 hc0_6 f2 f3 fz f6 fx
 replace c1 : ¬ a0_0 < 2 := by omega
 replace c3 : ¬ 254 < a0_1 := by omega
 replace c2 : ¬ a0_1 < a0_0 := by omega
 replace c4 : ¬ 8 ≤ a0_1 - a0_0 := by omega
 replace c5 : ¬ (8 : Int) < (l0_2.length : Int) := by omega
 replace c6 : ¬ (4 : Int) < (l0_3.length : Int) := by omega
 replace c7 : ¬ a0_4 < 1 := by omega
 replace c8 : ¬ 1048576 < a0_4 := by omega
 replace c11 : ¬ (4 : Int) < (L.length : Int) := by omega
 replace c12 : ¬ (8 : Int) < (l0_6.length : Int) := by omega
 have c9b : a0_5.toList.isEmpty = false := by simpa using c9
 go_enter Try.func75, Try.ntmps75
 go_wp2_with (first | (go_at_call 82; (with_reducible refine (CN.out _).mono ?_); rintro e w1 ⟨rfl, hb2⟩; replace BK := am_ (kb_ (blk_new w (.cells #[.int .i64 a0_0, .int .i64 a0_1, .slice A0_2 l0_2.length c0_2, .slice A0_3 l0_3.length c0_3, .int .i64 a0_4, .string a0_5, .slice A0_6 l0_6.length c0_6] 26)) hb2); replace HB := am_ (bt_ (p3_ HB.out (.cells #[.int .i64 a0_0, .int .i64 a0_1, .slice A0_2 l0_2.length c0_2, .slice A0_3 l0_3.length c0_3, .int .i64 a0_4, .string a0_5, .slice A0_6 l0_6.length c0_6] 26)) hb2); clear hb2; have u0 := bc_ BK.out 0; have u1 := bc_ BK.out 1; have u2 := bc_ BK.out 2; have u3 := bc_ BK.out 3; have u4 := bc_ BK.out 4; have u5 := bc_ BK.out 5; have u6 := bc_ BK.out 6) | (go_at_call 89; (with_reducible refine (CL.out _).mono ?_); rintro e w2 ⟨v, rfl, hR, hb2⟩; obtain ⟨A, c, rfl, hcl, hCl⟩ := Kd.R_reads hR; clear hcl hCl hR; replace BK := am_ (kb_ BK.out hb2); replace HB := am_ (bt_ HB.out hb2); clear hb2; clear u0 u1 u2 u3 u4 u5 u6; have u0 := bc_ BK.out 0; have u1 := bc_ BK.out 1; have u2 := bc_ BK.out 2; have u3 := bc_ BK.out 3; have u4 := bc_ BK.out 4; have u5 := bc_ BK.out 5; have u6 := bc_ BK.out 6))
 clear u0 u1 u2 u3 u4 u5 u6 CN CL
 clear c1 c2 c3 c4 c7 c8 c9 c9b c11
 go_loopg [3] l0_2.length (fun d v3 w' => ∃ i : Int, 0 ≤ i ∧ i.toNat + d = l0_2.length ∧ v3 = .int .i64 i ∧ Aside0 (Below w.heap.size w w') ∧ Aside0 (w'.heap[w.heap.size]? = some (.cells #[.int .i64 a0_0, .int .i64 a0_1, .slice A0_2 l0_2.length c0_2, .slice A0_3 l0_3.length c0_3, .int .i64 a0_4, .string a0_5, .slice A0_6 l0_6.length c0_6] 26)) ∧ Aside0 (hostsIn a0_0 a0_1 (l0_2.take i.toNat)))
 case atStart => exact ⟨0, by omega, by simp, rfl, HB, BK, ⟨⟨fun _ h => by simp at h, List.nodup_nil⟩⟩⟩
 case round =>
  clear HB BK
  obtain ⟨i, hi0, hd, rfl, HB, BK, HI⟩ := hrel
  by_cases hlt : i < (l0_2.length : Int)
  ·have u0 := (bc_ BK.out 0).trans (show _ = some _ from rfl); have u1 := (bc_ BK.out 1).trans (show _ = some _ from rfl); have u2 := (bc_ BK.out 2).trans (show _ = some _ from rfl); have u3 := (bc_ BK.out 3).trans (show _ = some _ from rfl); have u4 := (bc_ BK.out 4).trans (show _ = some _ from rfl); have u5 := (bc_ BK.out 5).trans (show _ = some _ from rfl); have u6 := (bc_ BK.out 6).trans (show _ = some _ from rfl)
   obtain ⟨ad, e1, hx0⟩ := Kd.at_int HR2.out i hi0 hlt
   cases e1
   have hxw := am_ hx0
   replace hx0 := (HB.out.cell (wb_ w _ hx0)).trans hx0
   have hfx := hosts_take (a := a0_0) (b := a0_1) l0_2 i hi0 hlt
   generalize rd l0_2 i = x at hx0 hxw hfx
   replace hfx := am_ hfx
   by_cases d1 : x < a0_0
   ·have hf := am_ (show false = r from no_of q2.out (fun e => by have := (hfx.out.1 e.1).1; omega))
    clear q2 HR2 HR3 HR6 HF hfx hxw
    go_wp2
    go_quiet (fail)
    go_wp2
    go_ret
    exact ⟨ret_bool hf.out, (by repeat (with_reducible first | exact HB.out | apply p3_ | apply p1_ | apply p2_))⟩
   by_cases d2 : a0_1 < x
   ·have hf := am_ (show false = r from no_of q2.out (fun e => by have := (hfx.out.1 e.1).1; omega))
    clear q2 HR2 HR3 HR6 HF hfx hxw
    go_wp2
    go_quiet (fail)
    go_wp2
    go_ret
    exact ⟨ret_bool hf.out, (by repeat (with_reducible first | exact HB.out | apply p3_ | apply p1_ | apply p2_))⟩
   have hin := am_ (hfx.out.2 HI.out ⟨by omega, by omega⟩)
   go_wp2
   go_quiet (fail)
   go_wp2
   clear hx0 d1 d2 u0 u1 u2 u3 u4 u5 u6
   go_loopg [4] i.toNat (fun d v4 w' => ∃ j : Int, 0 ≤ j ∧ j.toNat + d = i.toNat ∧ v4 = .int .i64 j ∧ Aside0 (Below w.heap.size w w') ∧ Aside0 (w'.heap[w.heap.size]? = some (.cells #[.int .i64 a0_0, .int .i64 a0_1, .slice (some ad) l0_2.length c0_2, .slice A0_3 l0_3.length c0_3, .int .i64 a0_4, .string a0_5, .slice A0_6 l0_6.length c0_6] 26)) ∧ Aside0 (x ∉ l0_2.take j.toNat))
   case atStart => exact ⟨0, by omega, by simp, rfl, ⟨(by repeat (with_reducible first | exact HB.out | apply p3_ | apply p1_ | apply p2_))⟩, ⟨(by (with_reducible repeat (first | exact BK.out | refine k2_ ?_ _ | refine k3_ ?_ | refine k1_ ?_ _)))⟩, ⟨by simp⟩⟩
   case round =>
    clear HB BK
    obtain ⟨j, hj0, hdj, rfl, HB, BK, HJ⟩ := hrel
    by_cases jlt : j < i
    ·have u0 := (bc_ BK.out 0).trans (show _ = some _ from rfl); have u1 := (bc_ BK.out 1).trans (show _ = some _ from rfl); have u2 := (bc_ BK.out 2).trans (show _ = some _ from rfl); have u3 := (bc_ BK.out 3).trans (show _ = some _ from rfl); have u4 := (bc_ BK.out 4).trans (show _ = some _ from rfl); have u5 := (bc_ BK.out 5).trans (show _ = some _ from rfl); have u6 := (bc_ BK.out 6).trans (show _ = some _ from rfl)
     obtain ⟨ad2, e2, hy0⟩ := Kd.at_int HR2.out j hj0 (by omega)
     obtain rfl := e5_ e2
     clear e2
     have hx0 := (HB.out.cell (wb_ w _ hxw.out)).trans hxw.out
     replace hy0 := (HB.out.cell (wb_ w _ hy0)).trans hy0
     have htk := take_rd l0_2 j hj0 (by omega)
     have hmm := take_mem l0_2 i j hj0 jlt (by omega)
     generalize rd l0_2 j = y at hy0 htk hmm
     have jlt2 : j < (l0_2.length : Int) := by omega
     by_cases e : y = x
     ·subst e
      have hf := am_ (show false = r from no_of q2.out (fun e => (hfx.out.1 e.1).2 hmm))
      clear q2 HR2 HR3 HR6 HF hfx hxw HI hin HJ htk hmm
      go_wp2
      go_quiet (fail)
      go_wp2
      go_ret
      exact ⟨ret_bool hf.out, (by repeat (with_reducible first | exact HB.out | apply p3_ | apply p1_ | apply p2_))⟩
     ·have HN := am_ (show x ∉ l0_2.take (j.toNat + 1) by rw [htk, List.mem_append, List.mem_singleton]; rintro (h | h); exact HJ.out h; exact e h.symm)
      clear htk hmm
      go_wp2
      go_quiet (fail)
      go_wp2
      go_roundg (i.toNat - (j.toNat + 1))
      case measure => first | omega | (simp; omega)
      case rel =>
       have e2 : (j + 1).toNat = j.toNat + 1 := by omega
       exact ⟨j + 1, by omega, by omega, by go_num, ⟨(by repeat (with_reducible first | exact HB.out | apply p3_ | apply p1_ | apply p2_))⟩, ⟨(by (with_reducible repeat (first | exact BK.out | refine k2_ ?_ _ | refine k3_ ?_ | refine k1_ ?_ _)))⟩, ⟨by rw [e2]; exact HN.out⟩⟩
    ·have e3 : j.toNat = i.toNat := by omega
     have HN := am_ (hin.out (by rw [← e3]; exact HJ.out))
     clear hxw hfx hin HJ e3
     go_wp2
     go_roundg (l0_2.length - (i.toNat + 1))
     case measure => first | omega | (simp; omega)
     case rel =>
      have e2 : (i + 1).toNat = i.toNat + 1 := by omega
      exact ⟨i + 1, by omega, by omega, by go_num, ⟨(by repeat (with_reducible first | exact HB.out | apply p3_ | apply p1_ | apply p2_))⟩, ⟨(by (with_reducible repeat (first | exact BK.out | refine k2_ ?_ _ | refine k3_ ?_ | refine k1_ ?_ _)))⟩, ⟨by rw [e2]; exact HN.out⟩⟩
  ·have HI2 := am_ (show hostsIn a0_0 a0_1 l0_2 by have h1 := HI.out; rw [List.take_of_length_le (by omega)] at h1; exact h1)
   have u0 := (bc_ BK.out 0).trans (show _ = some _ from rfl); have u1 := (bc_ BK.out 1).trans (show _ = some _ from rfl); have u2 := (bc_ BK.out 2).trans (show _ = some _ from rfl); have u3 := (bc_ BK.out 3).trans (show _ = some _ from rfl); have u4 := (bc_ BK.out 4).trans (show _ = some _ from rfl); have u5 := (bc_ BK.out 5).trans (show _ = some _ from rfl); have u6 := (bc_ BK.out 6).trans (show _ = some _ from rfl)
   clear HI
   go_wp2
   clear u0 u1 u2 u3 u4 u5 u6
   go_loopg [5] l0_3.length (fun d v5 w' => ∃ k : Int, 0 ≤ k ∧ k.toNat + d = l0_3.length ∧ v5 = .int .i64 k ∧ Aside0 (Below w.heap.size w w') ∧ Aside0 (w'.heap[w.heap.size]? = some (.cells #[.int .i64 a0_0, .int .i64 a0_1, .slice A0_2 l0_2.length c0_2, .slice A0_3 l0_3.length c0_3, .int .i64 a0_4, .string a0_5, .slice A0_6 l0_6.length c0_6] 26)) ∧ Aside0 (resIn a0_0 a0_1 (l0_3.take k.toNat)))
   case atStart => exact ⟨0, by omega, by simp, rfl, HB, BK, ⟨⟨fun _ h => by simp at h, List.nodup_nil, List.nodup_nil⟩⟩⟩
   case round =>
    clear HB BK
    obtain ⟨k, hk0, hdk, rfl, HB, BK, HK⟩ := hrel
    obtain ⟨wo, hwo⟩ : ∃ x, x = wr := ⟨wr, rfl⟩
    subst hwo
    by_cases klt : k < (l0_3.length : Int)
    ·have u0 := (bc_ BK.out 0).trans (show _ = some _ from rfl); have u1 := (bc_ BK.out 1).trans (show _ = some _ from rfl); have u2 := (bc_ BK.out 2).trans (show _ = some _ from rfl); have u3 := (bc_ BK.out 3).trans (show _ = some _ from rfl); have u4 := (bc_ BK.out 4).trans (show _ = some _ from rfl); have u5 := (bc_ BK.out 5).trans (show _ = some _ from rfl); have u6 := (bc_ BK.out 6).trans (show _ = some _ from rfl)
     obtain ⟨ad, e1, hx0, hx1⟩ := at_T118 HR3.out k hk0 klt
     cases e1
     replace hx0 := (HB.out.cell (wb_ w _ hx0)).trans hx0
     replace hx1 := (HB.out.cell (wb_ w _ hx1)).trans hx1
     have hfx := res_take (a := a0_0) (b := a0_1) l0_3 k hk0 klt
     generalize rd_T118 l0_3 k = x at hx0 hx1 hfx
     obtain ⟨s, ho⟩ := x
     simp only at hx0 hx1 hfx
     replace hfx := am_ hfx
     obtain ⟨b1, hb1⟩ : ∃ b, clientB s = b := ⟨_, rfl⟩
     have CC := am_ (fun W => pinfoldref11_clientMay.calls s b1 W (by rw [← hb1]; exact clientMay_eq s))
     have BX := am_ (blk_new wo (.cells #[.string s, .int .i64 ho] 118))
     replace hb1 := am_ hb1
     have z0 := (bc_ (k1_ BK.out (.cells #[.string s, .int .i64 ho] 118)) 0).trans (show _ = some _ from rfl); have z1 := (bc_ (k1_ BK.out (.cells #[.string s, .int .i64 ho] 118)) 1).trans (show _ = some _ from rfl); have z2 := (bc_ (k1_ BK.out (.cells #[.string s, .int .i64 ho] 118)) 2).trans (show _ = some _ from rfl); have z3 := (bc_ (k1_ BK.out (.cells #[.string s, .int .i64 ho] 118)) 3).trans (show _ = some _ from rfl); have z4 := (bc_ (k1_ BK.out (.cells #[.string s, .int .i64 ho] 118)) 4).trans (show _ = some _ from rfl); have z5 := (bc_ (k1_ BK.out (.cells #[.string s, .int .i64 ho] 118)) 5).trans (show _ = some _ from rfl); have z6 := (bc_ (k1_ BK.out (.cells #[.string s, .int .i64 ho] 118)) 6).trans (show _ = some _ from rfl)
     have hres : ∀ (e : hostsIn a0_0 a0_1 l0_2 ∧ resIn a0_0 a0_1 l0_3 ∧ l0_6.all (staticB a0_5) = true), (a0_0 ≤ ho ∧ ho ≤ a0_1 ∧ clientB s = true) ∧ ∀ y ∈ l0_3.take k.toNat, y.f1 ≠ ho ∧ y.f0.data.toList ≠ s.data.toList := fun e => hfx.out.1 e.2.1
     by_cases d1 : ho < a0_0
     ·have hf := am_ (show false = r from no_of q2.out (fun e => by have := (hres e).1; omega))
      clear hres
      clear q2 HR2 HR3 HR6 HF hfx HK HI2 hb1 BX
      go_wp2_with (go_at_call 76; (with_reducible refine (CC.out _).mono ?_); rintro e w3 ⟨rfl, ⟨nd, rfl⟩⟩)
      go_ret
      exact ⟨ret_bool hf.out, (by repeat (with_reducible first | exact HB.out | apply p3_ | apply p1_ | apply p2_))⟩
     by_cases d2 : a0_1 < ho
     ·have hf := am_ (show false = r from no_of q2.out (fun e => by have := (hres e).1; omega))
      clear hres
      clear q2 HR2 HR3 HR6 HF hfx HK HI2 hb1 BX
      go_wp2_with (go_at_call 76; (with_reducible refine (CC.out _).mono ?_); rintro e w3 ⟨rfl, ⟨nd, rfl⟩⟩)
      go_ret
      exact ⟨ret_bool hf.out, (by repeat (with_reducible first | exact HB.out | apply p3_ | apply p1_ | apply p2_))⟩
     cases b1 with
     | false =>
      have hf := am_ (show false = r from no_of q2.out (fun e => by have := (hres e).1.2.2; rw [hb1.out] at this; cases this))
      clear hres
      clear q2 HR2 HR3 HR6 HF hfx HK HI2 hb1 BX
      go_wp2_with (go_at_call 76; (with_reducible refine (CC.out _).mono ?_); rintro e w3 ⟨rfl, ⟨nd, rfl⟩⟩)
      go_ret
      exact ⟨ret_bool hf.out, (by repeat (with_reducible first | exact HB.out | apply p3_ | apply p1_ | apply p2_))⟩
     | true =>
      have hin := am_ (hfx.out.2 HK.out ⟨by omega, by omega, hb1.out⟩)
      replace hres := am_ hres
      go_wp2_with (go_at_call 76; (with_reducible refine (CC.out _).mono ?_); rintro e w3 ⟨rfl, ⟨nd, rfl⟩⟩)
      clear CC hb1 hx0 hx1 d1 d2 u0 u1 u2 u3 u4 u5 u6 z0 z1 z2 z3 z4 z5 z6
      go_loopg [7] k.toNat (fun d v7 w' => ∃ j : Int, 0 ≤ j ∧ j.toNat + d = k.toNat ∧ v7 = .int .i64 j ∧ Aside0 (Below w.heap.size w w') ∧ Aside0 (w'.heap[w.heap.size]? = some (.cells #[.int .i64 a0_0, .int .i64 a0_1, .slice A0_2 l0_2.length c0_2, .slice (some ad) l0_3.length c0_3, .int .i64 a0_4, .string a0_5, .slice A0_6 l0_6.length c0_6] 26)) ∧ Aside0 (w'.heap[wo.heap.size]? = some (.cells #[.string s, .int .i64 ho] 118)) ∧ Aside0 (∀ y ∈ l0_3.take j.toNat, y.f1 ≠ ho ∧ y.f0.data.toList ≠ s.data.toList))
      case atStart => exact ⟨0, by omega, by simp, rfl, ⟨(by repeat (with_reducible first | exact HB.out | apply p3_ | apply p1_ | apply p2_))⟩, ⟨(by (with_reducible repeat (first | exact BK.out | refine k2_ ?_ _ | refine k3_ ?_ | refine k1_ ?_ _)))⟩, ⟨BX.out⟩, ⟨by simp⟩⟩
      case round =>
       clear HB BK BX
       obtain ⟨j, hj0, hdj, rfl, HB, BK, BX, HJ⟩ := hrel
       by_cases jlt : j < k
       ·have u0 := (bc_ BK.out 0).trans (show _ = some _ from rfl); have u1 := (bc_ BK.out 1).trans (show _ = some _ from rfl); have u2 := (bc_ BK.out 2).trans (show _ = some _ from rfl); have u3 := (bc_ BK.out 3).trans (show _ = some _ from rfl); have u4 := (bc_ BK.out 4).trans (show _ = some _ from rfl); have u5 := (bc_ BK.out 5).trans (show _ = some _ from rfl); have u6 := (bc_ BK.out 6).trans (show _ = some _ from rfl)
        have v0 := (bc_ BX.out 0).trans (show _ = some _ from rfl)
        have v1 := (bc_ BX.out 1).trans (show _ = some _ from rfl)
        obtain ⟨ad2, e2, hy0, hy1⟩ := at_T118 HR3.out j hj0 (by omega)
        obtain rfl := e5_ e2
        clear e2
        replace hy0 := (HB.out.cell (wb_ w _ hy0)).trans hy0
        replace hy1 := (HB.out.cell (wb_ w _ hy1)).trans hy1
        have htk := takeR_rd l0_3 j hj0 (by omega)
        have hmm := takeR_mem l0_3 k j hj0 jlt (by omega)
        generalize rd_T118 l0_3 j = y at hy0 hy1 htk hmm
        obtain ⟨ys, yh⟩ := y
        simp only at hy0 hy1
        have jlt2 : j < (l0_3.length : Int) := by omega
        by_cases eA : yh = ho
        ·have hf := am_ (show false = r from no_of q2.out (fun e => ((hres.out e).2 _ hmm).1 eA))
         clear q2 HR2 HR3 HR6 HF hfx hres HK HI2 hin HJ htk hmm
         go_wp2
         go_quiet (fail)
         go_wp2
         go_ret
         exact ⟨ret_bool hf.out, (by repeat (with_reducible first | exact HB.out | apply p3_ | apply p1_ | apply p2_))⟩
        by_cases eB : ys.toList = s.toList
        ·have hf := am_ (show false = r from no_of q2.out (fun e => ((hres.out e).2 _ hmm).2 (by show ys.data.toList = s.data.toList; rw [← ByteArray.toList_eq, ← ByteArray.toList_eq]; exact eB)))
         clear q2 HR2 HR3 HR6 HF hfx hres HK HI2 hin HJ htk hmm
         go_wp2
         go_quiet (fail)
         go_wp2
         go_ret
         exact ⟨ret_bool hf.out, (by repeat (with_reducible first | exact HB.out | apply p3_ | apply p1_ | apply p2_))⟩
        have HN := am_ (show ∀ y ∈ l0_3.take (j.toNat + 1), y.f1 ≠ ho ∧ y.f0.data.toList ≠ s.data.toList by rw [htk]; intro y hy; rw [List.mem_append, List.mem_singleton] at hy; rcases hy with hy | rfl; exact HJ.out y hy; exact ⟨eA, by show ys.data.toList ≠ s.data.toList; rw [← ByteArray.toList_eq, ← ByteArray.toList_eq]; exact eB⟩)
        have eA2 : (yh == ho) = false := by simpa using eA
        have eB2 : (ys.toList == s.toList) = false := by simpa using eB
        clear htk hmm
        go_wp2
        go_quiet (fail)
        go_wp2
        go_roundg (k.toNat - (j.toNat + 1))
        case measure => first | omega | (simp; omega)
        case rel =>
         have e2 : (j + 1).toNat = j.toNat + 1 := by omega
         exact ⟨j + 1, by omega, by omega, by go_num, ⟨(by repeat (with_reducible first | exact HB.out | apply p3_ | apply p1_ | apply p2_))⟩, ⟨(by (with_reducible repeat (first | exact BK.out | refine k2_ ?_ _ | refine k3_ ?_ | refine k1_ ?_ _)))⟩, ⟨BX.out⟩, ⟨by rw [e2]; exact HN.out⟩⟩
       ·have e3 : j.toNat = k.toNat := by omega
        have HN := am_ (hin.out (by rw [← e3]; exact HJ.out))
        clear hfx hin HJ e3 hres BX
        go_wp2
        go_roundg (l0_3.length - (k.toNat + 1))
        case measure => first | omega | (simp; omega)
        case rel =>
         have e2 : (k + 1).toNat = k.toNat + 1 := by omega
         exact ⟨k + 1, by omega, by omega, by go_num, ⟨(by repeat (with_reducible first | exact HB.out | apply p3_ | apply p1_ | apply p2_))⟩, ⟨(by (with_reducible repeat (first | exact BK.out | refine k2_ ?_ _ | refine k3_ ?_ | refine k1_ ?_ _)))⟩, ⟨by rw [e2]; exact HN.out⟩⟩
    ·have HK2 := am_ (show resIn a0_0 a0_1 l0_3 by have h1 := HK.out; rw [List.take_of_length_le (by omega)] at h1; exact h1)
     have u0 := (bc_ BK.out 0).trans (show _ = some _ from rfl); have u1 := (bc_ BK.out 1).trans (show _ = some _ from rfl); have u2 := (bc_ BK.out 2).trans (show _ = some _ from rfl); have u3 := (bc_ BK.out 3).trans (show _ = some _ from rfl); have u4 := (bc_ BK.out 4).trans (show _ = some _ from rfl); have u5 := (bc_ BK.out 5).trans (show _ = some _ from rfl); have u6 := (bc_ BK.out 6).trans (show _ = some _ from rfl)
     clear HK
     go_wp2
     clear u0 u1 u2 u3 u4 u5 u6
     go_loopg [8] l0_6.length (fun d v8 w' => ∃ m : Int, 0 ≤ m ∧ m.toNat + d = l0_6.length ∧ v8 = .int .i64 m ∧ Aside0 (Below w.heap.size w w') ∧ Aside0 (w'.heap[w.heap.size]? = some (.cells #[.int .i64 a0_0, .int .i64 a0_1, .slice A0_2 l0_2.length c0_2, .slice A0_3 l0_3.length c0_3, .int .i64 a0_4, .string a0_5, .slice A0_6 l0_6.length c0_6] 26)) ∧ Aside0 ((l0_6.take m.toNat).all (staticB a0_5) = true))
     case atStart => exact ⟨0, by omega, by simp, rfl, HB, BK, ⟨by simp⟩⟩
     case round =>
      clear HB BK
      obtain ⟨m, hm0, hdm, rfl, HB, BK, HM⟩ := hrel
      by_cases mlt : m < (l0_6.length : Int)
      ·have u0 := (bc_ BK.out 0).trans (show _ = some _ from rfl); have u1 := (bc_ BK.out 1).trans (show _ = some _ from rfl); have u2 := (bc_ BK.out 2).trans (show _ = some _ from rfl); have u3 := (bc_ BK.out 3).trans (show _ = some _ from rfl); have u4 := (bc_ BK.out 4).trans (show _ = some _ from rfl); have u5 := (bc_ BK.out 5).trans (show _ = some _ from rfl); have u6 := (bc_ BK.out 6).trans (show _ = some _ from rfl)
       obtain ⟨ad, e1, hx0, hx1, hx2, hx3, hx4, hx5, hx6⟩ := at_T139 HR6.out m hm0 mlt
       cases e1
       replace hx0 := (HB.out.cell (wb_ w _ hx0)).trans hx0; replace hx1 := (HB.out.cell (wb_ w _ hx1)).trans hx1; replace hx2 := (HB.out.cell (wb_ w _ hx2)).trans hx2; replace hx3 := (HB.out.cell (wb_ w _ hx3)).trans hx3; replace hx4 := (HB.out.cell (wb_ w _ hx4)).trans hx4; replace hx5 := (HB.out.cell (wb_ w _ hx5)).trans hx5; replace hx6 := (HB.out.cell (wb_ w _ hx6)).trans hx6
       obtain ⟨htk, hmem⟩ := rdS_eq l0_6 m hm0 mlt
       have hsz := HF.out.2 _ hmem
       generalize rd_T139 l0_6 m = x at hx0 hx1 hx2 hx3 hx4 hx5 hx6 htk hmem hsz
       obtain ⟨f0, f1, f2, f3, f4, f5, f6⟩ := x
       simp only at hx0 hx1 hx2 hx3 hx4 hx5 hx6 hsz
       obtain ⟨b1, hb1⟩ : ∃ b, staticB a0_5 ⟨f0, f1, f2, f3, f4, f5, f6⟩ = b := ⟨_, rfl⟩
       have CS := am_ (fun W => pinfoldref11_staticMay.calls f0 f1 f2 f3 f4 f5 f6 a0_5 b1 W (by unfold pinfoldref11_staticMay.f; rw [if_pos ⟨hsz.1, hsz.2, HF.out.1⟩, hb1]))
       have hno := am_ (fun e : b1 = false => show false = r from no_of q2.out (fun e2 => by have := List.all_eq_true.1 e2.2.2 _ hmem; rw [hb1, e] at this; cases this))
       have hyes := am_ (fun e : b1 = true => show (l0_6.take (m.toNat + 1)).all (staticB a0_5) = true by rw [htk, List.all_append, HM.out, List.all_cons, hb1, e]; rfl)
       clear hb1 htk hmem hsz
       go_wp2_with fail
       have HB1 := am_ (below_drew HB.out)
       have BK1 := am_ (k3_ BK.out)
       refine seqS (S := confMayS ad (ad.add (m.toNat * 7)) ⟨(ad.add (m.toNat * 7)).block, (ad.add (m.toNat * 7)).off + 1, none⟩ ⟨(ad.add (m.toNat * 7)).block, (ad.add (m.toNat * 7)).off + 2, none⟩ ⟨(ad.add (m.toNat * 7)).block, (ad.add (m.toNat * 7)).off + 3, none⟩ ⟨(ad.add (m.toNat * 7)).block, (ad.add (m.toNat * 7)).off + 4, none⟩ ⟨(ad.add (m.toNat * 7)).block, (ad.add (m.toNat * 7)).off + 5, none⟩ ⟨(ad.add (m.toNat * 7)).block, (ad.add (m.toNat * 7)).off + 6, none⟩ f0 f1 f2 f3 f4 f5 f6 w.heap.size a0_5 (.slice (some ad) l0_6.length c0_6)) 9 (by kernel_rfl) rfl rfl ⟨hx0, hx1, hx2, hx3, hx4, hx5, hx6, u5, u6⟩ ?_
       intro hHeld
       iterate 7 first | (refine seqP (v := ?_) (a' := ?_) rfl rfl (by kernel_rfl) (fun _ _ _ h => h) (Or.inl ⟨by kernel_rfl, ?_⟩) ?_ ?_; rotate_left; (intro w'; go_simp; with_reducible rfl); rotate_left; (simp only [Act.put, sa_, sb_, sc_, i64_w, i32_w]; rfl)) | (refine seqL (v := ?_) (a' := ?_) rfl rfl (by kernel_rfl) (fun _ _ _ h => h) (Or.inl ⟨by kernel_rfl, ?_⟩) hHeld ?_ ?_; rotate_left; (rintro w' ⟨s0, s1, s2, s3, s4, s5, s6, s7, s8⟩; go_simp; with_reducible rfl); rotate_left; (simp only [Act.put, sa_, sb_, sc_, i64_w, i32_w]; rfl))
       refine seqG (fn := Try.f90) rfl rfl (by kernel_rfl) rfl Try.func90 (by kernel_rfl) (by kernel_rfl) #[.agg #[.string f0, .int .i64 f1, .int .i64 f2, .int .i64 f3, .string f4, .string f5, .int .i64 f6], .string a0_5] (by kernel_rfl) (by (try simp only [List.map_toArray, List.map_cons, List.map_nil]); first | done | rfl) ?_
       with_reducible refine (CS.out _).mono ?_
       rintro e w3 ⟨rfl, hb2⟩
       replace HB := am_ (bt_ HB1.out hb2)
       replace BK := am_ (kb_ BK1.out hb2)
       refine ⟨_, rfl, confMayS_below hHeld hb2, fun hHeld => ⟨?_, ?_, ?_⟩⟩
       rotate_left
       ·simp only [Act.put, sa_, sb_, sc_, i64_w, i32_w]
        rfl
       iterate 1 first | (refine seqP (v := ?_) (a' := ?_) rfl rfl (by kernel_rfl) (fun _ _ _ h => h) (Or.inl ⟨by kernel_rfl, ?_⟩) ?_ ?_; rotate_left; (intro w'; go_simp; with_reducible rfl); rotate_left; (simp only [Act.put, sa_, sb_, sc_, i64_w, i32_w]; rfl)) | (refine seqL (v := ?_) (a' := ?_) rfl rfl (by kernel_rfl) (fun _ _ _ h => h) (Or.inl ⟨by kernel_rfl, ?_⟩) hHeld ?_ ?_; rotate_left; (rintro w' ⟨s0, s1, s2, s3, s4, s5, s6, s7, s8⟩; go_simp; with_reducible rfl); rotate_left; (simp only [Act.put, sa_, sb_, sc_, i64_w, i32_w]; rfl))
       refine seqE (by kernel_rfl) ?_
       cases b1 with
       | false =>
        have hf := am_ (hno.out rfl)
        clear q2 HR2 HR3 HR6 HF HM HI2 HK2 hno hyes CS
        go_wp2
        go_ret
        exact ⟨ret_bool hf.out, HB.out⟩
       | true =>
        have HN := am_ (hyes.out rfl)
        clear hno hyes CS
        go_wp2
        go_roundg (l0_6.length - (m.toNat + 1))
        case measure => first | omega | (simp; omega)
        case rel =>
         have e2 : (m + 1).toNat = m.toNat + 1 := by omega
         exact ⟨m + 1, by omega, by omega, by go_num, HB, BK, ⟨by rw [e2]; exact HN.out⟩⟩
      ·have hr := am_ (show true = r from (q2.out.2 ⟨HI2.out, HK2.out, by have h1 := HM.out; rw [List.take_of_length_le (by omega)] at h1; exact h1⟩).symm)
       clear q2 HR2 HR3 HR6 HF HM HI2 HK2
       have u0 := (bc_ BK.out 0).trans (show _ = some _ from rfl); have u1 := (bc_ BK.out 1).trans (show _ = some _ from rfl); have u2 := (bc_ BK.out 2).trans (show _ = some _ from rfl); have u3 := (bc_ BK.out 3).trans (show _ = some _ from rfl); have u4 := (bc_ BK.out 4).trans (show _ = some _ from rfl); have u5 := (bc_ BK.out 5).trans (show _ = some _ from rfl); have u6 := (bc_ BK.out 6).trans (show _ = some _ from rfl)
       go_wp2
       go_ret
       exact ⟨ret_bool hr.out, (by repeat (with_reducible first | exact HB.out | apply p3_ | apply p1_ | apply p2_))⟩

/-! ### pinfoldref11_asked: function 45 -/
-- BY HAND
-- 75 26 76
def pinfoldref11_asked_c.f (a0_0 : Int) (a0_1 : Int) (l0_2 : List Int) (l0_3 : List S118) (a0_4 : Int) (a0_5 : ByteArray) (l0_6 : List S139) (l1 : List S37) (a2 : Int) (a3 : ByteArray) (a4 : Int) : Option Bool := if confFitR l0_2 l0_3 a0_5 l0_6 ∧ tabFitR l1 then some (askedB a0_0 a0_1 l0_2 l0_3 a0_4 a0_5 l0_6 l1 a2 a3 a4) else none
set_option maxHeartbeats 8000000 in
set_option maxRecDepth 100000 in
theorem pinfoldref11_asked_c.calls (a0_0 : Int) (a0_1 : Int) (A0_2 : Option Addr) (c0_2 : Nat) (l0_2 : List Int) (A0_3 : Option Addr) (c0_3 : Nat) (l0_3 : List S118) (a0_4 : Int) (a0_5 : ByteArray) (A0_6 : Option Addr) (c0_6 : Nat) (l0_6 : List S139) (A1 : Option Addr) (c1 : Nat) (l1 : List S37) (a2 : Int) (a3 : ByteArray) (a4 : Int) (r : Bool) (w : World) (hr0_2 : Kd.C (Kd.int .i64) w A0_2 l0_2.length l0_2) (hc0_2 : l0_2.length ≤ c0_2) (hr0_3 : Kd.C k118 w A0_3 l0_3.length l0_3) (hc0_3 : l0_3.length ≤ c0_3) (hr0_6 : Kd.C k139 w A0_6 l0_6.length l0_6) (hc0_6 : l0_6.length ≤ c0_6) (hr1 : Kd.C k37 w A1 l1.length l1) (hc1 : l1.length ≤ c1) (h : pinfoldref11_asked_c.f a0_0 a0_1 l0_2 l0_3 a0_4 a0_5 l0_6 l1 a2 a3 a4 = some r) :
  Calls Try.prog 45 #[.agg #[.int .i64 a0_0, .int .i64 a0_1, .slice A0_2 l0_2.length c0_2, .slice A0_3 l0_3.length c0_3, .int .i64 a0_4, .string a0_5, .slice A0_6 l0_6.length c0_6], .slice A1 l1.length c1, .int .i64 a2, .string a3, .int .i64 a4] w fun e w' => e = .returned (.bool r) ∧ Below w.heap.size w w' := by
 unfold pinfoldref11_asked_c.f at h
 by_cases hs : confFitR l0_2 l0_3 a0_5 l0_6 ∧ tabFitR l1
 rotate_left
 ·rw [if_neg hs] at h
  cases h
 rw [if_pos hs] at h
 replace h := e5_ h
 unfold askedB at h
 obtain ⟨b1, h1⟩ : ∃ b, confB a0_0 a0_1 l0_2 l0_3 a0_4 a0_5 l0_6 = b := ⟨_, rfl⟩
 obtain ⟨b2, h2⟩ : ∃ b, tableB l1 = b := ⟨_, rfl⟩
 obtain ⟨b3, h3⟩ : ∃ b, clientB a3 = b := ⟨_, rfl⟩
 rw [h1, h2, h3] at h
 have C1 := am_ (fun W (hb : Below w.heap.size w W) => pinfoldref11_ConfMay.calls a0_0 a0_1 A0_2 c0_2 l0_2 A0_3 c0_3 l0_3 a0_4 a0_5 A0_6 c0_6 l0_6 b1 W (c4_ hr0_2 hb) hc0_2 (c4_ hr0_3 hb) hc0_3 (c4_ hr0_6 hb) hc0_6 (by unfold pinfoldref11_ConfMay.f; rw [if_pos hs.1, h1]))
 have C2 := am_ (fun W (hb : Below w.heap.size w W) => pinfoldref11_TableMay_c.calls A1 c1 l1 b2 W (c4_ hr1 hb) hc1 (by unfold pinfoldref11_TableMay_c.f; rw [if_pos hs.2, h2]))
 have C3 := am_ (fun W => pinfoldref11_clientMay_c.calls a3 b3 W (by unfold pinfoldref11_clientMay_c.f; rw [h3]))
 have HB := am_ (Below.refl w.heap.size w)
 have BK := am_ (blk_new w (.cells #[.int .i64 a0_0, .int .i64 a0_1, .slice A0_2 l0_2.length c0_2, .slice A0_3 l0_3.length c0_3, .int .i64 a0_4, .string a0_5, .slice A0_6 l0_6.length c0_6] 26))
 have u0 := bc_ BK.out 0; have u1 := bc_ BK.out 1; have u2 := bc_ BK.out 2; have u3 := bc_ BK.out 3; have u4 := bc_ BK.out 4; have u5 := bc_ BK.out 5; have u6 := bc_ BK.out 6
 clear h1 h2 h3 hs hr0_2 hr0_3 hr0_6 hc0_2 hc0_3 hc0_6 hr1 hc1
 obtain ⟨g1, hg1⟩ : ∃ c, decide (0 ≤ a2) = c := ⟨_, rfl⟩
 obtain ⟨g2, hg2⟩ : ∃ c, decide (a2 ≤ a4) = c := ⟨_, rfl⟩
 have hg : decide (0 ≤ a2 ∧ a2 ≤ a4) = (g1 && g2) := by rw [← hg1, ← hg2]; exact Bool.decide_and _ _
 rw [hg] at h
 clear hg
 have HR := am_ h
 clear h
 cases b1 <;> cases b2 <;> cases g1 <;> cases g2
 all_goals (go_enter Try.func45, Try.ntmps45; go_wp2_with (first | (go_at_call 75; (with_reducible refine (C1.out _ (by repeat (with_reducible first | exact HB.out | apply p3_ | apply p1_ | apply p2_))).mono ?_); rintro e w1 ⟨rfl, hb2⟩; replace HB := am_ (bt_ (show Below w.heap.size w _ from (by repeat (with_reducible first | exact HB.out | apply p3_ | apply p1_ | apply p2_))) hb2); clear hb2; clear u0 u1 u2 u3 u4 u5 u6) | (go_at_call 26; (with_reducible refine (C2.out _ (by repeat (with_reducible first | exact HB.out | apply p3_ | apply p1_ | apply p2_))).mono ?_); rintro e w2 ⟨rfl, hb2⟩; replace HB := am_ (bt_ (show Below w.heap.size w _ from (by repeat (with_reducible first | exact HB.out | apply p3_ | apply p1_ | apply p2_))) hb2); clear hb2) | (go_at_call 76; (with_reducible refine (C3.out _).mono ?_); rintro e w3 ⟨rfl, ⟨nd, rfl⟩⟩)))
 all_goals (try go_ret)
 all_goals exact ⟨ret_bool (by rw [← HR.out]; simp), (by repeat (with_reducible first | exact HB.out | apply p3_ | apply p1_ | apply p2_))⟩

/-! ### pinfoldref11_Owner: function 91 -/
-- BY HAND
-- 75
def pinfoldref11_Owner_c.f (a0_0 : Int) (a0_1 : Int) (l0_2 : List Int) (l0_3 : List S118) (a0_4 : Int) (a0_5 : ByteArray) (l0_6 : List S139) (a1 : Int) : Option (ByteArray × Bool) := if confFitR l0_2 l0_3 a0_5 l0_6 then some (foundN (ownerR a0_0 a0_1 l0_2 l0_3 a0_4 a0_5 l0_6 a1), foundIs (ownerR a0_0 a0_1 l0_2 l0_3 a0_4 a0_5 l0_6 a1)) else none
set_option maxHeartbeats 8000000 in
set_option maxRecDepth 100000 in
theorem pinfoldref11_Owner_c.calls (a0_0 : Int) (a0_1 : Int) (A0_2 : Option Addr) (c0_2 : Nat) (l0_2 : List Int) (A0_3 : Option Addr) (c0_3 : Nat) (l0_3 : List S118) (a0_4 : Int) (a0_5 : ByteArray) (A0_6 : Option Addr) (c0_6 : Nat) (l0_6 : List S139) (a1 : Int) (r1 : ByteArray) (r2 : Bool) (w : World) (hr0_2 : Kd.C (Kd.int .i64) w A0_2 l0_2.length l0_2) (hc0_2 : l0_2.length ≤ c0_2) (hr0_3 : Kd.C k118 w A0_3 l0_3.length l0_3) (hc0_3 : l0_3.length ≤ c0_3) (hr0_6 : Kd.C k139 w A0_6 l0_6.length l0_6) (hc0_6 : l0_6.length ≤ c0_6) (h : pinfoldref11_Owner_c.f a0_0 a0_1 l0_2 l0_3 a0_4 a0_5 l0_6 a1 = some (r1, r2)) :
  Calls Try.prog 91 #[.agg #[.int .i64 a0_0, .int .i64 a0_1, .slice A0_2 l0_2.length c0_2, .slice A0_3 l0_3.length c0_3, .int .i64 a0_4, .string a0_5, .slice A0_6 l0_6.length c0_6], .int .i64 a1] w fun e w' => e = .returned (.tuple #[.string r1, .bool r2]) ∧ Below w.heap.size w w' := by
 unfold pinfoldref11_Owner_c.f at h
 by_cases hs : confFitR l0_2 l0_3 a0_5 l0_6
 rotate_left
 ·rw [if_neg hs] at h
  cases h
 rw [if_pos hs] at h
 simp only [Option.some.injEq, Prod.mk.injEq] at h
 obtain ⟨hR1, hR2⟩ := h
 obtain ⟨b1, h1⟩ : ∃ b, confB a0_0 a0_1 l0_2 l0_3 a0_4 a0_5 l0_6 = b := ⟨_, rfl⟩
 have C1 := am_ (fun W (hb : Below w.heap.size w W) => pinfoldref11_ConfMay.calls a0_0 a0_1 A0_2 c0_2 l0_2 A0_3 c0_3 l0_3 a0_4 a0_5 A0_6 c0_6 l0_6 b1 W (c4_ hr0_2 hb) hc0_2 (c4_ hr0_3 hb) hc0_3 (c4_ hr0_6 hb) hc0_6 (by unfold pinfoldref11_ConfMay.f; rw [if_pos hs, h1]))
 obtain ⟨o, ho⟩ : ∃ o, findS (fun x => x.f1 == a1) b1 l0_3 = o := ⟨_, rfl⟩
 have ho2 : ownerR a0_0 a0_1 l0_2 l0_3 a0_4 a0_5 l0_6 a1 = o := by rw [← ho, ← h1]; rfl
 rw [ho2] at hR1 hR2
 replace HR1 := am_ hR1
 replace HR2 := am_ hR2
 have HO := am_ (show findS (fun x => x.f1 == a1) b1 (l0_3.drop (0 : Int).toNat) = o from ho)
 have hl := hs.2.1
 have HK3 := am_ hr0_3
 have HB := am_ (Below.refl w.heap.size w)
 have BK := am_ (blk_new w (.cells #[.int .i64 a0_0, .int .i64 a0_1, .slice A0_2 l0_2.length c0_2, .slice A0_3 l0_3.length c0_3, .int .i64 a0_4, .string a0_5, .slice A0_6 l0_6.length c0_6] 26))
 clear hR1 hR2 ho ho2 hs h1 hr0_2 hr0_3 hr0_6 hc0_2 hc0_3 hc0_6
 go_enter Try.func91, Try.ntmps91
 go_wp2
 replace HB := am_ (p3_ HB.out (.cells #[.int .i64 a0_0, .int .i64 a0_1, .slice A0_2 l0_2.length c0_2, .slice A0_3 l0_3.length c0_3, .int .i64 a0_4, .string a0_5, .slice A0_6 l0_6.length c0_6] 26))
 go_loopg [6] l0_3.length (fun d v w' => ∃ i : Int, 0 ≤ i ∧ i.toNat + d = l0_3.length ∧ v = .int .i64 i ∧ Aside0 (Below w.heap.size w w') ∧ Aside0 (w'.heap[w.heap.size]? = some (.cells #[.int .i64 a0_0, .int .i64 a0_1, .slice A0_2 l0_2.length c0_2, .slice A0_3 l0_3.length c0_3, .int .i64 a0_4, .string a0_5, .slice A0_6 l0_6.length c0_6] 26)) ∧ Aside0 (findS (fun x => x.f1 == a1) b1 (l0_3.drop i.toNat) = o))
 case atStart => exact ⟨0, by omega, by simp, rfl, HB, BK, HO⟩
 case round =>
  clear HB BK HO
  obtain ⟨i, hi0, hd, rfl, HB, BK, HO⟩ := hrel
  have u0 := bc_ BK.out 0
  have u1 := bc_ BK.out 1
  have u2 := bc_ BK.out 2
  have u3 := bc_ BK.out 3
  have u4 := bc_ BK.out 4
  have u5 := bc_ BK.out 5
  have u6 := bc_ BK.out 6
  by_cases hlt : i < (l0_3.length : Int)
  ·cases b1 with
   | false =>
    have e1 := am_ (show (⟨#[]⟩ : ByteArray) = r1 by rw [← HR1.out, ← HO.out]; rfl)
    have e2 := am_ (show false = r2 by rw [← HR2.out, ← HO.out]; rfl)
    clear HR1 HR2 HO HK3
    go_wp2_with (first | (go_at_call 75; (with_reducible refine (C1.out _ (by repeat (with_reducible first | exact HB.out | apply p3_ | apply p1_ | apply p2_))).mono ?_); rintro e w1 ⟨rfl, hb2⟩; replace BK := am_ (kb_ (show _ from (by (with_reducible repeat (first | exact BK.out | refine k2_ ?_ _ | refine k3_ ?_ | refine k1_ ?_ _)))) hb2); replace HB := am_ (bt_ (show Below w.heap.size w _ from (by repeat (with_reducible first | exact HB.out | apply p3_ | apply p1_ | apply p2_))) hb2); clear hb2; clear u0 u1 u2 u3 u4 u5 u6))
    go_ret2
    exact ⟨by rw [← e1.out, ← e2.out] <;> rfl, HB.out⟩
   | true =>
   obtain ⟨ad, e1, hx0, hx1⟩ := at_T118 HK3.out i hi0 hlt
   cases e1
   have ho := HO.out
   rw [dropRs_ l0_3 i hi0 hlt] at ho
   clear HO
   generalize rd_T118 l0_3 i = x at hx0 hx1 ho
   obtain ⟨x0, x1⟩ := x
   simp only at hx0 hx1
   unfold findS at ho
   rw [if_pos rfl, List.find?_cons] at ho
   replace hx0 := am_ hx0
   replace hx1 := am_ hx1
   by_cases q : x1 = a1
   ·have qb : (x1 == a1) = true := by simpa using q
    simp only [qb] at ho
    have e1 := am_ (show x0 = r1 by rw [← HR1.out, ← ho]; rfl)
    have e2 := am_ (show true = r2 by rw [← HR2.out, ← ho]; rfl)
    clear HR1 HR2 ho q HK3
    go_wp2_with (first | (go_at_call 75; (with_reducible refine (C1.out _ (by repeat (with_reducible first | exact HB.out | apply p3_ | apply p1_ | apply p2_))).mono ?_); rintro e w1 ⟨rfl, hb2⟩; replace BK := am_ (kb_ (show _ from (by (with_reducible repeat (first | exact BK.out | refine k2_ ?_ _ | refine k3_ ?_ | refine k1_ ?_ _)))) hb2); replace HB := am_ (bt_ (show Below w.heap.size w _ from (by repeat (with_reducible first | exact HB.out | apply p3_ | apply p1_ | apply p2_))) hb2); clear hb2; clear u0 u1 u2 u3 u4 u5 u6; have u0 := bc_ BK.out 0; have u1 := bc_ BK.out 1; have u2 := bc_ BK.out 2; have u3 := bc_ BK.out 3; have u4 := bc_ BK.out 4; have u5 := bc_ BK.out 5; have u6 := bc_ BK.out 6; have y0 := (HB.out.cell (wb_ w _ hx0.out)).trans hx0.out; have y1 := (HB.out.cell (wb_ w _ hx1.out)).trans hx1.out))
    go_ret2
    exact ⟨by rw [← e1.out, ← e2.out] <;> rfl, HB.out⟩
   ·have qb : (x1 == a1) = false := by simpa using q
    simp only [qb] at ho
    have HN := am_ (show findS (fun x => x.f1 == a1) true (l0_3.drop (i + 1).toNat) = o by rw [show (i + 1).toNat = i.toNat + 1 by omega]; unfold findS; rw [if_pos rfl]; exact ho)
    clear ho q
    go_wp2_with (first | (go_at_call 75; (with_reducible refine (C1.out _ (by repeat (with_reducible first | exact HB.out | apply p3_ | apply p1_ | apply p2_))).mono ?_); rintro e w1 ⟨rfl, hb2⟩; replace BK := am_ (kb_ (show _ from (by (with_reducible repeat (first | exact BK.out | refine k2_ ?_ _ | refine k3_ ?_ | refine k1_ ?_ _)))) hb2); replace HB := am_ (bt_ (show Below w.heap.size w _ from (by repeat (with_reducible first | exact HB.out | apply p3_ | apply p1_ | apply p2_))) hb2); clear hb2; clear u0 u1 u2 u3 u4 u5 u6; have u0 := bc_ BK.out 0; have u1 := bc_ BK.out 1; have u2 := bc_ BK.out 2; have u3 := bc_ BK.out 3; have u4 := bc_ BK.out 4; have u5 := bc_ BK.out 5; have u6 := bc_ BK.out 6; have y0 := (HB.out.cell (wb_ w _ hx0.out)).trans hx0.out; have y1 := (HB.out.cell (wb_ w _ hx1.out)).trans hx1.out))
    go_roundg (l0_3.length - (i.toNat + 1))
    case measure => first | omega | (simp; omega)
    case rel => exact ⟨i + 1, by omega, by omega, by go_num, HB, BK, HN⟩
  ·have ho := HO.out
   rw [List.drop_eq_nil_of_le (by omega)] at ho
   have e1 := am_ (show (⟨#[]⟩ : ByteArray) = r1 by rw [← HR1.out, ← ho]; cases b1 <;> rfl)
   have e2 := am_ (show false = r2 by rw [← HR2.out, ← ho]; cases b1 <;> rfl)
   clear HR1 HR2 ho HO HK3
   go_wp2
   go_ret2
   exact ⟨by rw [← e1.out, ← e2.out] <;> rfl, HB.out⟩

/-! ### pinfoldref11_Usable: function 92 -/
-- BY HAND
-- 75
def pinfoldref11_Usable_c.f (a0_0 : Int) (a0_1 : Int) (l0_2 : List Int) (l0_3 : List S118) (a0_4 : Int) (a0_5 : ByteArray) (l0_6 : List S139) (a1 : Int) : Option Bool := if confFitR l0_2 l0_3 a0_5 l0_6 then some (usableB a0_0 a0_1 l0_2 l0_3 a0_4 a0_5 l0_6 a1) else none
set_option maxHeartbeats 8000000 in
set_option maxRecDepth 100000 in
theorem pinfoldref11_Usable_c.calls (a0_0 : Int) (a0_1 : Int) (A0_2 : Option Addr) (c0_2 : Nat) (l0_2 : List Int) (A0_3 : Option Addr) (c0_3 : Nat) (l0_3 : List S118) (a0_4 : Int) (a0_5 : ByteArray) (A0_6 : Option Addr) (c0_6 : Nat) (l0_6 : List S139) (a1 : Int) (r : Bool) (w : World) (hr0_2 : Kd.C (Kd.int .i64) w A0_2 l0_2.length l0_2) (hc0_2 : l0_2.length ≤ c0_2) (hr0_3 : Kd.C k118 w A0_3 l0_3.length l0_3) (hc0_3 : l0_3.length ≤ c0_3) (hr0_6 : Kd.C k139 w A0_6 l0_6.length l0_6) (hc0_6 : l0_6.length ≤ c0_6) (h : pinfoldref11_Usable_c.f a0_0 a0_1 l0_2 l0_3 a0_4 a0_5 l0_6 a1 = some r) :
  Calls Try.prog 92 #[.agg #[.int .i64 a0_0, .int .i64 a0_1, .slice A0_2 l0_2.length c0_2, .slice A0_3 l0_3.length c0_3, .int .i64 a0_4, .string a0_5, .slice A0_6 l0_6.length c0_6], .int .i64 a1] w fun e w' => e = .returned (.bool r) ∧ Below w.heap.size w w' := by
 unfold pinfoldref11_Usable_c.f at h
 by_cases hs : confFitR l0_2 l0_3 a0_5 l0_6
 rotate_left
 ·rw [if_neg hs] at h
  cases h
 rw [if_pos hs] at h
 have HR : (decide (a1 ∉ l0_2) && (confB a0_0 a0_1 l0_2 l0_3 a0_4 a0_5 l0_6 && decide (a0_0 ≤ a1 ∧ a1 ≤ a0_1))) = r := e5_ h
 obtain ⟨b1, h1⟩ : ∃ b, confB a0_0 a0_1 l0_2 l0_3 a0_4 a0_5 l0_6 = b := ⟨_, rfl⟩
 rw [h1] at HR
 have C1 := am_ (fun W (hb : Below w.heap.size w W) => pinfoldref11_ConfMay.calls a0_0 a0_1 A0_2 c0_2 l0_2 A0_3 c0_3 l0_3 a0_4 a0_5 A0_6 c0_6 l0_6 b1 W (c4_ hr0_2 hb) hc0_2 (c4_ hr0_3 hb) hc0_3 (c4_ hr0_6 hb) hc0_6 (by unfold pinfoldref11_ConfMay.f; rw [if_pos hs, h1]))
 have hl := hs.1
 have HK2 := am_ hr0_2
 have HB := am_ (Below.refl w.heap.size w)
 have BK := am_ (blk_new w (.cells #[.int .i64 a0_0, .int .i64 a0_1, .slice A0_2 l0_2.length c0_2, .slice A0_3 l0_3.length c0_3, .int .i64 a0_4, .string a0_5, .slice A0_6 l0_6.length c0_6] 26))
 have u0 := bc_ BK.out 0
 have u1 := bc_ BK.out 1
 have u2 := bc_ BK.out 2
 have u3 := bc_ BK.out 3
 have u4 := bc_ BK.out 4
 have u5 := bc_ BK.out 5
 have u6 := bc_ BK.out 6
 clear h hs h1 hr0_2 hr0_3 hr0_6 hc0_2 hc0_3 hc0_6
 by_cases hin : b1 = true ∧ a0_0 ≤ a1 ∧ a1 ≤ a0_1
 rotate_left
 ·have HF := am_ (show false = r by
   rw [← HR, show (b1 && decide (a0_0 ≤ a1 ∧ a1 ≤ a0_1)) = false by
    rw [Bool.eq_false_iff]
    intro e
    rw [Bool.and_eq_true, decide_eq_true_eq] at e
    exact hin e, Bool.and_false])
  clear HR HK2
  cases b1 with
  | false =>
   clear hin
   go_enter Try.func92, Try.ntmps92
   go_wp2_with (first | (go_at_call 75; (with_reducible refine (C1.out _ (by repeat (with_reducible first | exact HB.out | apply p3_ | apply p1_ | apply p2_))).mono ?_); rintro e w1 ⟨rfl, hb2⟩; replace BK := am_ (kb_ (show _ from (by (with_reducible repeat (first | exact BK.out | refine k2_ ?_ _ | refine k3_ ?_ | refine k1_ ?_ _)))) hb2); replace HB := am_ (bt_ (show Below w.heap.size w _ from (by repeat (with_reducible first | exact HB.out | apply p3_ | apply p1_ | apply p2_))) hb2); clear hb2; clear u0 u1 u2 u3 u4 u5 u6; have u0 := bc_ BK.out 0; have u1 := bc_ BK.out 1; have u2 := bc_ BK.out 2; have u3 := bc_ BK.out 3; have u4 := bc_ BK.out 4; have u5 := bc_ BK.out 5; have u6 := bc_ BK.out 6))
   go_ret
   exact ⟨ret_bool HF.out, HB.out⟩
  | true =>
   by_cases q1 : a1 < a0_0
   ·have q1b : decide (a1 < a0_0) = true := decide_eq_true q1
    clear hin q1
    go_enter Try.func92, Try.ntmps92
    go_wp2_with (first | (go_at_call 75; (with_reducible refine (C1.out _ (by repeat (with_reducible first | exact HB.out | apply p3_ | apply p1_ | apply p2_))).mono ?_); rintro e w1 ⟨rfl, hb2⟩; replace BK := am_ (kb_ (show _ from (by (with_reducible repeat (first | exact BK.out | refine k2_ ?_ _ | refine k3_ ?_ | refine k1_ ?_ _)))) hb2); replace HB := am_ (bt_ (show Below w.heap.size w _ from (by repeat (with_reducible first | exact HB.out | apply p3_ | apply p1_ | apply p2_))) hb2); clear hb2; clear u0 u1 u2 u3 u4 u5 u6; have u0 := bc_ BK.out 0; have u1 := bc_ BK.out 1; have u2 := bc_ BK.out 2; have u3 := bc_ BK.out 3; have u4 := bc_ BK.out 4; have u5 := bc_ BK.out 5; have u6 := bc_ BK.out 6))
    go_ret
    exact ⟨ret_bool HF.out, HB.out⟩
   ·have q1b : decide (a1 < a0_0) = false := decide_eq_false q1
    have q2b : decide (a0_1 < a1) = true := decide_eq_true (by
     refine Int.not_le.1 (fun e => hin ⟨rfl, by omega, e⟩))
    clear hin q1
    go_enter Try.func92, Try.ntmps92
    go_wp2_with (first | (go_at_call 75; (with_reducible refine (C1.out _ (by repeat (with_reducible first | exact HB.out | apply p3_ | apply p1_ | apply p2_))).mono ?_); rintro e w1 ⟨rfl, hb2⟩; replace BK := am_ (kb_ (show _ from (by (with_reducible repeat (first | exact BK.out | refine k2_ ?_ _ | refine k3_ ?_ | refine k1_ ?_ _)))) hb2); replace HB := am_ (bt_ (show Below w.heap.size w _ from (by repeat (with_reducible first | exact HB.out | apply p3_ | apply p1_ | apply p2_))) hb2); clear hb2; clear u0 u1 u2 u3 u4 u5 u6; have u0 := bc_ BK.out 0; have u1 := bc_ BK.out 1; have u2 := bc_ BK.out 2; have u3 := bc_ BK.out 3; have u4 := bc_ BK.out 4; have u5 := bc_ BK.out 5; have u6 := bc_ BK.out 6))
    go_ret
    exact ⟨ret_bool HF.out, HB.out⟩
 obtain ⟨rfl, q1, q2⟩ := hin
 have q1b : decide (a1 < a0_0) = false := decide_eq_false (by omega)
 have q2b : decide (a0_1 < a1) = false := decide_eq_false (by omega)
 have HN := am_ (show decide (a1 ∉ l0_2.drop (0 : Int).toNat) = r by rw [← HR, decide_eq_true (show a0_0 ≤ a1 ∧ a1 ≤ a0_1 from ⟨q1, q2⟩), Bool.and_self, Bool.and_true]; rfl)
 clear HR q1 q2
 go_enter Try.func92, Try.ntmps92
 go_wp2_with (first | (go_at_call 75; (with_reducible refine (C1.out _ (by repeat (with_reducible first | exact HB.out | apply p3_ | apply p1_ | apply p2_))).mono ?_); rintro e w1 ⟨rfl, hb2⟩; replace BK := am_ (kb_ (show _ from (by (with_reducible repeat (first | exact BK.out | refine k2_ ?_ _ | refine k3_ ?_ | refine k1_ ?_ _)))) hb2); replace HB := am_ (bt_ (show Below w.heap.size w _ from (by repeat (with_reducible first | exact HB.out | apply p3_ | apply p1_ | apply p2_))) hb2); clear hb2; clear u0 u1 u2 u3 u4 u5 u6; have u0 := bc_ BK.out 0; have u1 := bc_ BK.out 1; have u2 := bc_ BK.out 2; have u3 := bc_ BK.out 3; have u4 := bc_ BK.out 4; have u5 := bc_ BK.out 5; have u6 := bc_ BK.out 6))
 clear u0 u1 u2 u3 u4 u5 u6 C1 q1b q2b
 go_loopg [5] l0_2.length (fun d v w' => ∃ i : Int, 0 ≤ i ∧ i.toNat + d = l0_2.length ∧ v = .int .i64 i ∧ Aside0 (Below w.heap.size w w') ∧ Aside0 (w'.heap[w.heap.size]? = some (.cells #[.int .i64 a0_0, .int .i64 a0_1, .slice A0_2 l0_2.length c0_2, .slice A0_3 l0_3.length c0_3, .int .i64 a0_4, .string a0_5, .slice A0_6 l0_6.length c0_6] 26)) ∧ Aside0 (decide (a1 ∉ l0_2.drop i.toNat) = r))
 case atStart => exact ⟨0, by omega, by simp, rfl, HB, BK, HN⟩
 case round =>
  clear HB BK HN
  obtain ⟨i, hi0, hd, rfl, HB, BK, HN⟩ := hrel
  have u0 := bc_ BK.out 0
  have u1 := bc_ BK.out 1
  have u2 := bc_ BK.out 2
  have u3 := bc_ BK.out 3
  have u4 := bc_ BK.out 4
  have u5 := bc_ BK.out 5
  have u6 := bc_ BK.out 6
  have hn := HN.out
  clear HN
  by_cases hlt : i < (l0_2.length : Int)
  ·obtain ⟨ad, e1, hx0⟩ := Kd.at_int HK2.out i hi0 hlt
   cases e1
   replace hx0 := (HB.out.cell (wb_ w _ hx0)).trans hx0
   rw [dropIn_ l0_2 i hi0 hlt] at hn
   generalize rd l0_2 i = x at hx0 hn
   by_cases q : x = a1
   ·have qb : (x == a1) = true := by simpa using q
    have HF := am_ (show false = r by rw [← hn, eq_comm, decide_eq_false_iff_not]; exact fun e => e (by rw [q]; exact List.mem_cons_self))
    clear hn q
    go_wp2
    go_ret
    exact ⟨ret_bool HF.out, HB.out⟩
   ·have qb : (x == a1) = false := by simpa using q
    have HN := am_ (show decide (a1 ∉ l0_2.drop (i + 1).toNat) = r by
     rw [← hn, show (i + 1).toNat = i.toNat + 1 by omega, decide_eq_decide, List.mem_cons, not_or]
     exact ⟨fun e => ⟨fun e2 => q e2.symm, e⟩, fun e => e.2⟩)
    clear hn q
    go_wp2
    go_roundg (l0_2.length - (i.toNat + 1))
    case measure => first | omega | (simp; omega)
    case rel => exact ⟨i + 1, by omega, by omega, by go_num, HB, BK, HN⟩
  ·rw [List.drop_eq_nil_of_le (by omega)] at hn
   have HF := am_ (show true = r by rw [← hn]; rfl)
   clear hn
   go_wp2
   go_ret
   exact ⟨ret_bool HF.out, HB.out⟩

/-! ### pinfoldref11_mayHave: function 77 -/
-- BY HAND
-- 91 92
def pinfoldref11_mayHave_c.f (a0_0 : Int) (a0_1 : Int) (l0_2 : List Int) (l0_3 : List S118) (a0_4 : Int) (a0_5 : ByteArray) (l0_6 : List S139) (host : Int) (client : ByteArray) : Option Bool := if confFitR l0_2 l0_3 a0_5 l0_6 then some (lentB a0_0 a0_1 l0_2 l0_3 a0_4 a0_5 l0_6 host client) else none
set_option maxHeartbeats 8000000 in
set_option maxRecDepth 100000 in
theorem pinfoldref11_mayHave_c.calls (a0_0 : Int) (a0_1 : Int) (A0_2 : Option Addr) (c0_2 : Nat) (l0_2 : List Int) (A0_3 : Option Addr) (c0_3 : Nat) (l0_3 : List S118) (a0_4 : Int) (a0_5 : ByteArray) (A0_6 : Option Addr) (c0_6 : Nat) (l0_6 : List S139) (host : Int) (client : ByteArray) (r : Bool) (w : World) (hr0_2 : Kd.C (Kd.int .i64) w A0_2 l0_2.length l0_2) (hc0_2 : l0_2.length ≤ c0_2) (hr0_3 : Kd.C k118 w A0_3 l0_3.length l0_3) (hc0_3 : l0_3.length ≤ c0_3) (hr0_6 : Kd.C k139 w A0_6 l0_6.length l0_6) (hc0_6 : l0_6.length ≤ c0_6) (h : pinfoldref11_mayHave_c.f a0_0 a0_1 l0_2 l0_3 a0_4 a0_5 l0_6 host client = some r) :
  Calls Try.prog 77 #[.agg #[.int .i64 a0_0, .int .i64 a0_1, .slice A0_2 l0_2.length c0_2, .slice A0_3 l0_3.length c0_3, .int .i64 a0_4, .string a0_5, .slice A0_6 l0_6.length c0_6], .int .i64 host, .string client] w fun e w' => e = .returned (.bool r) ∧ Below w.heap.size w w' := by
 unfold pinfoldref11_mayHave_c.f at h
 by_cases hs : confFitR l0_2 l0_3 a0_5 l0_6
 rotate_left
 ·rw [if_neg hs] at h
  cases h
 rw [if_pos hs] at h
 replace h := e5_ h
 unfold lentB at h
 obtain ⟨N, hN⟩ : ∃ v, foundN (ownerR a0_0 a0_1 l0_2 l0_3 a0_4 a0_5 l0_6 host) = v := ⟨_, rfl⟩
 obtain ⟨I, hI⟩ : ∃ v, foundIs (ownerR a0_0 a0_1 l0_2 l0_3 a0_4 a0_5 l0_6 host) = v := ⟨_, rfl⟩
 obtain ⟨U, hU⟩ : ∃ v, usableB a0_0 a0_1 l0_2 l0_3 a0_4 a0_5 l0_6 host = v := ⟨_, rfl⟩
 rw [hN, hI, hU] at h
 have C1 := am_ (fun W (hb : Below w.heap.size w W) => pinfoldref11_Owner_c.calls a0_0 a0_1 A0_2 c0_2 l0_2 A0_3 c0_3 l0_3 a0_4 a0_5 A0_6 c0_6 l0_6 host N I W (c4_ hr0_2 hb) hc0_2 (c4_ hr0_3 hb) hc0_3 (c4_ hr0_6 hb) hc0_6 (by unfold pinfoldref11_Owner_c.f; rw [if_pos hs, hN, hI]))
 have C2 := am_ (fun W (hb : Below w.heap.size w W) => pinfoldref11_Usable_c.calls a0_0 a0_1 A0_2 c0_2 l0_2 A0_3 c0_3 l0_3 a0_4 a0_5 A0_6 c0_6 l0_6 host U W (c4_ hr0_2 hb) hc0_2 (c4_ hr0_3 hb) hc0_3 (c4_ hr0_6 hb) hc0_6 (by unfold pinfoldref11_Usable_c.f; rw [if_pos hs, hU]))
 have HR := am_ h
 have HB := am_ (Below.refl w.heap.size w)
 have BK := am_ (blk_new w (.cells #[.int .i64 a0_0, .int .i64 a0_1, .slice A0_2 l0_2.length c0_2, .slice A0_3 l0_3.length c0_3, .int .i64 a0_4, .string a0_5, .slice A0_6 l0_6.length c0_6] 26))
 have u0 := bc_ BK.out 0
 have u1 := bc_ BK.out 1
 have u2 := bc_ BK.out 2
 have u3 := bc_ BK.out 3
 have u4 := bc_ BK.out 4
 have u5 := bc_ BK.out 5
 have u6 := bc_ BK.out 6
 clear h hN hI hU hr0_2 hr0_3 hr0_6 hc0_2 hc0_3 hc0_6 hs
 go_enter Try.func77, Try.ntmps77
 go_wp2_with (first
  | (go_at_call 91; (with_reducible refine (C1.out _ (by repeat (with_reducible first | exact HB.out | apply p3_ | apply p1_ | apply p2_))).mono ?_); rintro e w1 ⟨rfl, hb2⟩; replace BK := am_ (kb_ (show _ from (by (with_reducible repeat (first | exact BK.out | refine k2_ ?_ _ | refine k3_ ?_ | refine k1_ ?_ _)))) hb2); replace HB := am_ (bt_ (show Below w.heap.size w _ from (by repeat (with_reducible first | exact HB.out | apply p3_ | apply p1_ | apply p2_))) hb2); clear hb2; clear u0 u1 u2 u3 u4 u5 u6; have u0 := bc_ BK.out 0; have u1 := bc_ BK.out 1; have u2 := bc_ BK.out 2; have u3 := bc_ BK.out 3; have u4 := bc_ BK.out 4; have u5 := bc_ BK.out 5; have u6 := bc_ BK.out 6)
  | (go_at_call 92; (with_reducible refine (C2.out _ (by repeat (with_reducible first | exact HB.out | apply p3_ | apply p1_ | apply p2_))).mono ?_); rintro e w2 ⟨rfl, hb2⟩; replace HB := am_ (bt_ (show Below w.heap.size w _ from (by repeat (with_reducible first | exact HB.out | apply p3_ | apply p1_ | apply p2_))) hb2); clear hb2; clear u0 u1 u2 u3 u4 u5 u6))
 all_goals (try go_ret)
 all_goals refine ⟨ret_bool ?_, ?_⟩
 all_goals first
  | ((repeat (with_reducible first | exact HB.out | apply p3_ | apply p1_ | apply p2_)); done)
  | (rw [← HR.out]; clear HR HB C1 C2 BK; rw [Bool.eq_iff_iff]; (simp_all; done))
  | (rw [← HR.out]; clear HR HB C1 C2 BK; simp_all)

/-! ### pinfoldref11_open: function 46 -/
-- BY HAND
-- 21 77 48 58
def pinfoldref11_open_c.f (a0_0 : Int) (a0_1 : Int) (l0_2 : List Int) (l0_3 : List S118) (a0_4 : Int) (a0_5 : ByteArray) (l0_6 : List S139) (l1 : List S37) (now : Int) (client : ByteArray) (host : Int) : Option Bool := if confFitR l0_2 l0_3 a0_5 l0_6 ∧ tabFitR l1 then some (openB a0_0 a0_1 l0_2 l0_3 a0_4 a0_5 l0_6 l1 now client host) else none
set_option maxHeartbeats 8000000 in
set_option maxRecDepth 100000 in
theorem pinfoldref11_open_c.calls (a0_0 : Int) (a0_1 : Int) (A0_2 : Option Addr) (c0_2 : Nat) (l0_2 : List Int) (A0_3 : Option Addr) (c0_3 : Nat) (l0_3 : List S118) (a0_4 : Int) (a0_5 : ByteArray) (A0_6 : Option Addr) (c0_6 : Nat) (l0_6 : List S139) (A1 : Option Addr) (c1 : Nat) (l1 : List S37) (now : Int) (client : ByteArray) (host : Int) (r : Bool) (w : World) (hr0_2 : Kd.C (Kd.int .i64) w A0_2 l0_2.length l0_2) (hc0_2 : l0_2.length ≤ c0_2) (hr0_3 : Kd.C k118 w A0_3 l0_3.length l0_3) (hc0_3 : l0_3.length ≤ c0_3) (hr0_6 : Kd.C k139 w A0_6 l0_6.length l0_6) (hc0_6 : l0_6.length ≤ c0_6) (hr1 : Kd.C k37 w A1 l1.length l1) (hc1 : l1.length ≤ c1) (h : pinfoldref11_open_c.f a0_0 a0_1 l0_2 l0_3 a0_4 a0_5 l0_6 l1 now client host = some r) :
  Calls Try.prog 46 #[.agg #[.int .i64 a0_0, .int .i64 a0_1, .slice A0_2 l0_2.length c0_2, .slice A0_3 l0_3.length c0_3, .int .i64 a0_4, .string a0_5, .slice A0_6 l0_6.length c0_6], .slice A1 l1.length c1, .int .i64 now, .string client, .int .i64 host] w fun e w' => e = .returned (.bool r) ∧ Below w.heap.size w w' := by
 unfold pinfoldref11_open_c.f at h
 by_cases hs : confFitR l0_2 l0_3 a0_5 l0_6 ∧ tabFitR l1
 rotate_left
 ·rw [if_neg hs] at h
  cases h
 rw [if_pos hs] at h
 replace h := e5_ h
 unfold openB at h
 obtain ⟨M, hM⟩ : ∃ v, lentB a0_0 a0_1 l0_2 l0_3 a0_4 a0_5 l0_6 host client = v := ⟨_, rfl⟩
 rw [hM] at h
 have C2 := am_ (fun W (hb : Below w.heap.size w W) => pinfoldref11_mayHave_c.calls a0_0 a0_1 A0_2 c0_2 l0_2 A0_3 c0_3 l0_3 a0_4 a0_5 A0_6 c0_6 l0_6 host client M W (c4_ hr0_2 hb) hc0_2 (c4_ hr0_3 hb) hc0_3 (c4_ hr0_6 hb) hc0_6 (by unfold pinfoldref11_mayHave_c.f; rw [if_pos hs.1, hM]))
 have HB := am_ (Below.refl w.heap.size w)
 have BK := am_ (blk_new w (.cells #[.int .i64 a0_0, .int .i64 a0_1, .slice A0_2 l0_2.length c0_2, .slice A0_3 l0_3.length c0_3, .int .i64 a0_4, .string a0_5, .slice A0_6 l0_6.length c0_6] 26))
 have u0 := bc_ BK.out 0
 have u1 := bc_ BK.out 1
 have u2 := bc_ BK.out 2
 have u3 := bc_ BK.out 3
 have u4 := bc_ BK.out 4
 have u5 := bc_ BK.out 5
 have u6 := bc_ BK.out 6
 have hm : ∀ x, findL l1 host = some x → x.f4.size ≤ 8796093022000 := fun x e => hs.2.2 x (List.mem_of_find?_eq_some e)
 have CFg := fun x0 x1 x2 x3 x4 x5 b (e : findL l1 host = none ∧ x0 = 0 ∧ x1 = 0 ∧ x2 = (⟨#[]⟩ : ByteArray) ∧ x3 = 0 ∧ x4 = (⟨#[]⟩ : ByteArray) ∧ x5 = false ∧ b = false ∨ findL l1 host = some ⟨x0, x1, x2, x3, x4, x5⟩ ∧ b = true) W (hb : Below w.heap.size w W) => pinfoldref11_FindLease_c.calls A1 c1 l1 host x0 x1 x2 x3 x4 x5 b W (c4_ hr1 hb) hc1 (by unfold pinfoldref11_FindLease_c.f; rw [if_pos hs.2.1]; rcases e with ⟨e, rfl, rfl, rfl, rfl, rfl, rfl, rfl⟩ | ⟨e, rfl⟩ <;> rw [e] <;> rfl)
 cases hf : findL l1 host with
 | none =>
  have C1 := am_ (CFg 0 0 ⟨#[]⟩ 0 ⟨#[]⟩ false false (.inl ⟨hf, rfl, rfl, rfl, rfl, rfl, rfl, rfl⟩))
  rw [hf] at h
  have HR := am_ (show (M && true) = r from h)
  clear h hM hm CFg hf hr0_2 hr0_3 hr0_6 hc0_2 hc0_3 hc0_6 hr1 hc1 hs
  go_enter Try.func46, Try.ntmps46
  go_wp2_with (first
   | (go_at_call 21; (with_reducible refine (C1.out _ (by repeat (with_reducible first | exact HB.out | apply p3_ | apply p1_ | apply p2_))).mono ?_); rintro e w1 ⟨rfl, hb2⟩; replace BK := am_ (kb_ (show _ from (by (with_reducible repeat (first | exact BK.out | refine k2_ ?_ _ | refine k3_ ?_ | refine k1_ ?_ _)))) hb2); replace HB := am_ (bt_ (show Below w.heap.size w _ from (by repeat (with_reducible first | exact HB.out | apply p3_ | apply p1_ | apply p2_))) hb2); clear hb2; clear u0 u1 u2 u3 u4 u5 u6; have u0 := bc_ (k1_ BK.out (.cells #[.int .i64 0, .int .i64 0, .string (⟨#[]⟩ : ByteArray), .int .i64 0, .string (⟨#[]⟩ : ByteArray), .bool false] 37)) 0; have u1 := bc_ (k1_ BK.out (.cells #[.int .i64 0, .int .i64 0, .string (⟨#[]⟩ : ByteArray), .int .i64 0, .string (⟨#[]⟩ : ByteArray), .bool false] 37)) 1; have u2 := bc_ (k1_ BK.out (.cells #[.int .i64 0, .int .i64 0, .string (⟨#[]⟩ : ByteArray), .int .i64 0, .string (⟨#[]⟩ : ByteArray), .bool false] 37)) 2; have u3 := bc_ (k1_ BK.out (.cells #[.int .i64 0, .int .i64 0, .string (⟨#[]⟩ : ByteArray), .int .i64 0, .string (⟨#[]⟩ : ByteArray), .bool false] 37)) 3; have u4 := bc_ (k1_ BK.out (.cells #[.int .i64 0, .int .i64 0, .string (⟨#[]⟩ : ByteArray), .int .i64 0, .string (⟨#[]⟩ : ByteArray), .bool false] 37)) 4; have u5 := bc_ (k1_ BK.out (.cells #[.int .i64 0, .int .i64 0, .string (⟨#[]⟩ : ByteArray), .int .i64 0, .string (⟨#[]⟩ : ByteArray), .bool false] 37)) 5; have u6 := bc_ (k1_ BK.out (.cells #[.int .i64 0, .int .i64 0, .string (⟨#[]⟩ : ByteArray), .int .i64 0, .string (⟨#[]⟩ : ByteArray), .bool false] 37)) 6)
   | (go_at_call 77; (with_reducible refine (C2.out _ (by repeat (with_reducible first | exact HB.out | apply p3_ | apply p1_ | apply p2_))).mono ?_); rintro e w2 ⟨rfl, hb2⟩; replace HB := am_ (bt_ (show Below w.heap.size w _ from (by repeat (with_reducible first | exact HB.out | apply p3_ | apply p1_ | apply p2_))) hb2); clear hb2; clear u0 u1 u2 u3 u4 u5 u6))
  all_goals (try go_ret)
  all_goals exact ⟨ret_bool (by rw [← HR.out]; simp_all), (by repeat (with_reducible first | exact HB.out | apply p3_ | apply p1_ | apply p2_))⟩
 | some x =>
  have hsz := hm x hf
  obtain ⟨x0, x1, x2, x3, x4, x5⟩ := x
  simp only at hsz
  have C1 := am_ (CFg x0 x1 x2 x3 x4 x5 true (.inr ⟨hf, rfl⟩))
  obtain ⟨b1, h1⟩ : ∃ b, liveB x0 x1 x2 x3 x4 x5 now = b := ⟨_, rfl⟩
  obtain ⟨b2, h2⟩ : ∃ b, holdsB x0 x1 x2 x3 x4 x5 client now = b := ⟨_, rfl⟩
  have C3 := am_ (fun W => pinfoldref11_Live_c.calls x0 x1 x2 x3 x4 x5 now b1 W (by unfold pinfoldref11_Live_c.f; rw [if_pos hsz, h1]))
  have C4 := am_ (fun W => pinfoldref11_his_c.calls x0 x1 x2 x3 x4 x5 client now b2 W (by unfold pinfoldref11_his_c.f; rw [if_pos hsz, h2]))
  rw [hf] at h
  have HR := am_ (show (M && (!b1 || b2)) = r by rw [← h, ← h1, ← h2]; rfl)
  clear h hM hm CFg hf hr0_2 hr0_3 hr0_6 hc0_2 hc0_3 hc0_6 hr1 hc1 hs h1 h2 hsz
  go_enter Try.func46, Try.ntmps46
  go_wp2_with (first
   | (go_at_call 21; (with_reducible refine (C1.out _ (by repeat (with_reducible first | exact HB.out | apply p3_ | apply p1_ | apply p2_))).mono ?_); rintro e w1 ⟨rfl, hb2⟩; replace BK := am_ (kb_ (show _ from (by (with_reducible repeat (first | exact BK.out | refine k2_ ?_ _ | refine k3_ ?_ | refine k1_ ?_ _)))) hb2); replace HB := am_ (bt_ (show Below w.heap.size w _ from (by repeat (with_reducible first | exact HB.out | apply p3_ | apply p1_ | apply p2_))) hb2); clear hb2; clear u0 u1 u2 u3 u4 u5 u6; have u0 := bc_ (k1_ BK.out (.cells #[.int .i64 x0, .int .i64 x1, .string x2, .int .i64 x3, .string x4, .bool x5] 37)) 0; have u1 := bc_ (k1_ BK.out (.cells #[.int .i64 x0, .int .i64 x1, .string x2, .int .i64 x3, .string x4, .bool x5] 37)) 1; have u2 := bc_ (k1_ BK.out (.cells #[.int .i64 x0, .int .i64 x1, .string x2, .int .i64 x3, .string x4, .bool x5] 37)) 2; have u3 := bc_ (k1_ BK.out (.cells #[.int .i64 x0, .int .i64 x1, .string x2, .int .i64 x3, .string x4, .bool x5] 37)) 3; have u4 := bc_ (k1_ BK.out (.cells #[.int .i64 x0, .int .i64 x1, .string x2, .int .i64 x3, .string x4, .bool x5] 37)) 4; have u5 := bc_ (k1_ BK.out (.cells #[.int .i64 x0, .int .i64 x1, .string x2, .int .i64 x3, .string x4, .bool x5] 37)) 5; have u6 := bc_ (k1_ BK.out (.cells #[.int .i64 x0, .int .i64 x1, .string x2, .int .i64 x3, .string x4, .bool x5] 37)) 6)
   | (go_at_call 77; (with_reducible refine (C2.out _ (by repeat (with_reducible first | exact HB.out | apply p3_ | apply p1_ | apply p2_))).mono ?_); rintro e w2 ⟨rfl, hb2⟩; have BX := am_ (kb_ (blk_new w1 (.cells #[.int .i64 x0, .int .i64 x1, .string x2, .int .i64 x3, .string x4, .bool x5] 37)) hb2); have v0 := bc_ BX.out 0; have v1 := bc_ BX.out 1; have v2 := bc_ BX.out 2; have v3 := bc_ BX.out 3; have v4 := bc_ BX.out 4; have v5 := bc_ BX.out 5; replace HB := am_ (bt_ (show Below w.heap.size w _ from (by repeat (with_reducible first | exact HB.out | apply p3_ | apply p1_ | apply p2_))) hb2); clear hb2 u0 u1 u2 u3 u4 u5 u6)
   | (go_at_call 48; (with_reducible refine (C3.out _).mono ?_); rintro e w3 ⟨rfl, hb2⟩; replace BX := am_ (kb_ BX.out hb2); clear v0 v1 v2 v3 v4 v5; have v0 := bc_ BX.out 0; have v1 := bc_ BX.out 1; have v2 := bc_ BX.out 2; have v3 := bc_ BX.out 3; have v4 := bc_ BX.out 4; have v5 := bc_ BX.out 5; replace HB := am_ (bt_ HB.out hb2); clear hb2)
   | (go_at_call 58; (with_reducible refine (C4.out _).mono ?_); rintro e w4 ⟨rfl, hb2⟩; replace HB := am_ (bt_ HB.out hb2); clear hb2))
  all_goals (try go_ret)
  all_goals exact ⟨ret_bool (by rw [← HR.out]; simp_all), HB.out⟩

end Go.Proofs.Ytibmakpghbinbaa.PS
