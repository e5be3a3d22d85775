-- Made by wip/pr.py out of the translation (a turned copy of the kit's print; contracts by hand where said).
import Derived.Test.YtmoobaehoccihaaDoorPKx0
import Derived.Test.YtmoobaehoccihaaDoorPKx2
import Derived.Test.YtmoobaehoccihaaDoorPKx6
import Derived.Test.YtmoobaehoccihaaDoorPKx7
import Derived.Test.YtmoobaehoccihaaDoorPKx8
namespace Go.Proofs.YtmoobaehoccihaaDoor.PK
open Go.RowKit Go.Proofs.YtmoobaehoccihaaDoorW.PrintWords Go.Proofs.YtmoobaehoccihaaDoorW.PrintLast Go.Proofs.YtmoobaehoccihaaDoorW.PrintMore
-- shrunk
attribute [local go_sem] max2_int min2_int max_two min_two max_three min_three max_four min_four   -- for this text's walks alone
set_option linter.unusedVariables false
set_option linter.unusedSimpArgs false

/-! ### pinfoldlaw18_DropOwn: function 4 -/
-- BY HAND
-- 24 15 17 20 25
theorem pinfoldlaw18_DropOwn.aw : pinfoldlaw18_awake.f 20 = some true := by kernel_rfl
theorem pinfoldlaw18_DropOwn.at_ (ls : List S42) (host : Int) (p : S42 → Bool) (t x : S42) (i : Int) (hs : ls.Pairwise (fun a b => a.f0 < b.f0)) (h0 : 0 ≤ i) (h1 : i < ls.length) (hx : rd_T42 ls i = x) :
  rd_T42 (swapL ls host (thenL p ls host t)) i = if x.f0 = host then (if p x = true then ⟨host, t.f1, t.f2, t.f3, t.f4, t.f5⟩ else x) else x := by
 have h : i.toNat < ls.length := by omega
 have e0 : rd_T42 ls i = ls[i.toNat] := by
  unfold rd_T42
  rw [List.getD_eq_getElem?_getD, List.getElem?_eq_getElem h]
  rfl
 have e1 : rd_T42 (swapL ls host (thenL p ls host t)) i = if ls[i.toNat].f0 = host then thenL p ls host t else ls[i.toNat] := by
  unfold rd_T42 swapL
  rw [List.getD_eq_getElem?_getD, List.getElem?_map, List.getElem?_eq_getElem h]
  rfl
 rw [e0] at hx
 rw [e1, hx]
 by_cases q : x.f0 = host
 ·rw [if_pos q, if_pos q]
  have hm : x ∈ ls := by rw [← hx]; exact List.getElem_mem h
  have hf : findL ls host = some x := by
   cases e : findL ls host with
   | none => exact absurd q (find_none e x hm)
   | some y =>
    obtain ⟨hy, he⟩ := find_some e
    rw [host_once hs y hy x hm (by rw [he, q])]
  unfold thenL
  rw [hf]
 ·rw [if_neg q, if_neg q]
def pinfoldlaw18_DropOwn.T13 : Bool × List (List Nat × List Nat) := (true, [([], []), ([0], [0]), ([1], [1]), ([2], [2]), ([2], [2]), ([3, 4, 2], [2, 3, 4]), ([5, 2], [2, 5]), ([2], [2]), ([2], [2]), ([7, 8, 2], [2, 7, 8]), ([9, 2], [2, 9]), ([6, 10, 2], [2, 6, 10]), ([11, 2, 2], [2, 11]), ([12], [12]), ([12], [12]), ([13, 14, 12], [12, 13, 14]), ([15, 12], [12, 15]), ([12], [12]), ([12], [12]), ([17, 18, 12], [12, 17, 18]), ([19, 12], [12, 19]), ([16, 20, 12], [12, 16, 20]), ([12, 21, 2], [2, 12, 21]), ([2, 22], [2, 22]), ([23, 12], [23]), ([24], [24]), ([25, 24, 24], [24, 25]), ([26], [26]), ([26], [26]), ([27, 28, 26], [26, 27, 28]), ([29, 26], [26, 29]), ([26], [26]), ([30, 31, 26, 26], [26, 30, 31]), ([26, 32, 24], [24, 26, 32]), ([33, 32, 24], [24, 33]), ([34], [34]), ([34], [34]), ([35, 36, 34], [34, 35, 36]), ([37, 34], [34, 37]), ([34], [34]), ([34], [34]), ([39, 40, 34], [34, 39, 40]), ([41, 34], [34, 41]), ([38, 42, 34], [34, 38, 42]), ([34, 43, 24], [24, 34, 43]), ([24, 44], [24, 44]), ([45, 34], [45]), ([46], [46]), ([46], [46]), ([47, 48, 46], [46, 47, 48]), ([49, 46], [46, 49]), ([46], [46]), ([46], [46]), ([51, 52, 46], [46, 51, 52]), ([53, 46], [46, 53]), ([50, 54, 46], [46, 50, 54]), ([55, 46, 46], [46, 55]), ([56], [56]), ([56], [56]), ([57, 58, 56], [56, 57, 58]), ([59, 56], [56, 59]), ([60, 56], [56, 60]), ([61, 56], [56, 61]), ([56, 62, 46], [46, 56, 62]), ([46, 63], [46, 63])])
def pinfoldlaw18_DropOwn.B13 : List Nat := [0, 1, 3, 7, 7, 31, 63, 7, 7, 391, 903, 2047, 4095, 8191, 8191, 32767, 65535, 8191, 8191, 401407, 925695, 2097151, 4194303, 8388607, 16777215, 33554431, 67108863, 134217727, 134217727, 536870911, 1073741823, 134217727, 4294967295, 8589934591, 17179869183, 34359738367, 34359738367, 137438953471, 274877906943, 34359738367, 34359738367, 1683627180031, 3882650435583, 8796093022207, 17592186044415, 35184372088831, 70368744177663, 140737488355327, 140737488355327, 562949953421311, 1125899906842623, 140737488355327, 140737488355327, 6896136929411071, 15903336184152063, 36028797018963967, 72057594037927935, 144115188075855871, 144115188075855871, 576460752303423487, 1152921504606846975, 2305843009213693951, 4611686018427387903, 9223372036854775807, 18446744073709551615]
theorem pinfoldlaw18_DropOwn.tab13 : rtab .any (opsOf Tryd.f4 13) = pinfoldlaw18_DropOwn.T13 := by kernel_rfl
theorem pinfoldlaw18_DropOwn.bits13 : waitsOk pinfoldlaw18_DropOwn.T13.2 pinfoldlaw18_DropOwn.B13 = true := by kernel_rfl
def pinfoldlaw18_DropOwn.S (pa pA pD : Addr) (x0 x1 : Int) (x2 : ByteArray) (x3 : Int) (x4 : ByteArray) (x5 : Bool) (g0 g1 : Int) (g2 : ByteArray) (g3 : Int) (g4 : ByteArray) (g5 : Bool) (d0 d1 : Int) (d2 : ByteArray) (d3 : Int) (d4 : ByteArray) (d5 : Bool) (w' : World) : Prop := w'.cell? pa = some (.int .i64 x0) ∧ w'.cell? ⟨pa.block, pa.off + 1, none⟩ = some (.int .i64 x1) ∧ w'.cell? ⟨pa.block, pa.off + 2, none⟩ = some (.string x2) ∧ w'.cell? ⟨pa.block, pa.off + 3, none⟩ = some (.int .i64 x3) ∧ w'.cell? ⟨pa.block, pa.off + 4, none⟩ = some (.string x4) ∧ w'.cell? ⟨pa.block, pa.off + 5, none⟩ = some (.bool x5) ∧ w'.cell? pA = some (.int .i64 g0) ∧ w'.cell? ⟨pA.block, pA.off + 1, none⟩ = some (.int .i64 g1) ∧ w'.cell? ⟨pA.block, pA.off + 2, none⟩ = some (.string g2) ∧ w'.cell? ⟨pA.block, pA.off + 3, none⟩ = some (.int .i64 g3) ∧ w'.cell? ⟨pA.block, pA.off + 4, none⟩ = some (.string g4) ∧ w'.cell? ⟨pA.block, pA.off + 5, none⟩ = some (.bool g5) ∧ w'.cell? pD = some (.int .i64 d0) ∧ w'.cell? ⟨pD.block, pD.off + 1, none⟩ = some (.int .i64 d1) ∧ w'.cell? ⟨pD.block, pD.off + 2, none⟩ = some (.string d2) ∧ w'.cell? ⟨pD.block, pD.off + 3, none⟩ = some (.int .i64 d3) ∧ w'.cell? ⟨pD.block, pD.off + 4, none⟩ = some (.string d4) ∧ w'.cell? ⟨pD.block, pD.off + 5, none⟩ = some (.bool d5)
theorem pinfoldlaw18_DropOwn.S_below {w w2 : World} {pa pA pD : Addr} {x0 x1 : Int} {x2 : ByteArray} {x3 : Int} {x4 : ByteArray} {x5 : Bool} {g0 g1 : Int} {g2 : ByteArray} {g3 : Int} {g4 : ByteArray} {g5 : Bool} {d0 d1 : Int} {d2 : ByteArray} {d3 : Int} {d4 : ByteArray} {d5 : Bool} (h : pinfoldlaw18_DropOwn.S pa pA pD x0 x1 x2 x3 x4 x5 g0 g1 g2 g3 g4 g5 d0 d1 d2 d3 d4 d5 w) (hb : Below w.heap.size w w2) : pinfoldlaw18_DropOwn.S pa pA pD x0 x1 x2 x3 x4 x5 g0 g1 g2 g3 g4 g5 d0 d1 d2 d3 d4 d5 w2 := by
 obtain ⟨s0, s1, s2, s3, s4, s5, s6, s7, s8, s9, s10, s11, s12, s13, s14, s15, s16, s17⟩ := h
 exact ⟨(hb.cell (wb_ _ _ s0)).trans s0, (hb.cell (wb_ _ _ s1)).trans s1, (hb.cell (wb_ _ _ s2)).trans s2, (hb.cell (wb_ _ _ s3)).trans s3, (hb.cell (wb_ _ _ s4)).trans s4, (hb.cell (wb_ _ _ s5)).trans s5, (hb.cell (wb_ _ _ s6)).trans s6, (hb.cell (wb_ _ _ s7)).trans s7, (hb.cell (wb_ _ _ s8)).trans s8, (hb.cell (wb_ _ _ s9)).trans s9, (hb.cell (wb_ _ _ s10)).trans s10, (hb.cell (wb_ _ _ s11)).trans s11, (hb.cell (wb_ _ _ s12)).trans s12, (hb.cell (wb_ _ _ s13)).trans s13, (hb.cell (wb_ _ _ s14)).trans s14, (hb.cell (wb_ _ _ s15)).trans s15, (hb.cell (wb_ _ _ s16)).trans s16, (hb.cell (wb_ _ _ s17)).trans s17⟩
def pinfoldlaw18_DropOwn.f (a0_0 : Int) (a0_1 : Int) (l0_2 : List Int) (l0_3 : List S72) (a0_4 : Int) (a0_5 : ByteArray) (l0_6 : List S74) (l1 : List S42) (_a2 : Int) (_a3 : ByteArray) (_a4 : Int) : Option Bool := if pickFit l0_2 l0_3 a0_5 l0_6 l1 then some true else none
set_option maxHeartbeats 8000000 in
set_option maxRecDepth 100000 in
theorem pinfoldlaw18_DropOwn.calls_f (a0_0 : Int) (a0_1 : Int) (A0_2 : Option Addr) (c0_2 : Nat) (l0_2 : List Int) (A0_3 : Option Addr) (c0_3 : Nat) (l0_3 : List S72) (a0_4 : Int) (a0_5 : ByteArray) (A0_6 : Option Addr) (c0_6 : Nat) (l0_6 : List S74) (A1 : Option Addr) (c1 : Nat) (l1 : List S42) (a2 : Int) (a3 : ByteArray) (a4 : Int) (w : World) (hr0_2 : Kd.C (Kd.int .i64) w A0_2 l0_2.length l0_2) (hc0_2 : l0_2.length ≤ c0_2) (hr0_3 : Kd.C k72 w A0_3 l0_3.length l0_3) (hc0_3 : l0_3.length ≤ c0_3) (hr0_6 : Kd.C k74 w A0_6 l0_6.length l0_6) (hc0_6 : l0_6.length ≤ c0_6) (hr1 : Kd.C k42 w A1 l1.length l1) (hc1 : l1.length ≤ c1) (hs : pickFit l0_2 l0_3 a0_5 l0_6 l1) (h1 : (pickMayB a0_0 a0_1 l0_2 l0_3 a0_4 a0_5 l0_6 l1 a2 a3 && decide (0 ≤ a2 ∧ a2 ≤ 1099510579200)) = false) :
  Calls Tryd.prog 4 #[.agg #[.int .i64 a0_0, .int .i64 a0_1, .slice A0_2 l0_2.length c0_2, .slice A0_3 l0_3.length c0_3, .int .i64 a0_4, .string a0_5, .slice A0_6 l0_6.length c0_6], .slice A1 l1.length c1, .int .i64 a2, .string a3, .int .i64 a4] w fun e w' => e = .returned (.bool true) ∧ Below w.heap.size w w' := by
 have Cw := am_ (fun W => pinfoldlaw18_awake.calls 20 true W pinfoldlaw18_DropOwn.aw)
 have Cn := am_ (fun x W => pinfoldlaw0_Num.calls x x W rfl)
 have Crg := fun l e (h : otherV (boundX a3 a2) a0_0 a0_1 l0_2 l0_3 a0_4 a0_5 l0_6 l1 a2 a3 a4 ⟨0, 0, a3, a2, (⟨#[]⟩ : ByteArray), false⟩ = (l, e)) W (hb : Below w.heap.size w W) => drop_Release.calls a0_0 a0_1 A0_2 c0_2 l0_2 A0_3 c0_3 l0_3 a0_4 a0_5 A0_6 c0_6 l0_6 A1 c1 l1 a2 a3 a4 l e W (c4_ hr0_2 hb) hc0_2 (c4_ hr0_3 hb) hc0_3 (c4_ hr0_6 hb) hc0_6 (c4_ hr1 hb) hc1 (by unfold drop_Release.f; rw [if_pos hs, h])
 have Cdg := fun l e (h : otherV (holdsX a3 a2) a0_0 a0_1 l0_2 l0_3 a0_4 a0_5 l0_6 l1 a2 a3 a4 ⟨0, 3, (⟨#[]⟩ : ByteArray), wrap64 (a2 + 64), (⟨#[]⟩ : ByteArray), false⟩ = (l, e)) W (hb : Below w.heap.size w W) => drop_Decline.calls a0_0 a0_1 A0_2 c0_2 l0_2 A0_3 c0_3 l0_3 a0_4 a0_5 A0_6 c0_6 l0_6 A1 c1 l1 a2 a3 a4 l e W (c4_ hr0_2 hb) hc0_2 (c4_ hr0_3 hb) hc0_3 (c4_ hr0_6 hb) hc0_6 (c4_ hr1 hb) hc1 (by unfold drop_Decline.f; rw [if_pos hs, h])
 have HR1 := am_ hr1
 have HB := am_ (Below.refl w.heap.size w)
 have BK := am_ (blk_new w (.cells #[.int .i64 a0_0, .int .i64 a0_1, .slice A0_2 l0_2.length c0_2, .slice A0_3 l0_3.length c0_3, .int .i64 a0_4, .string a0_5, .slice A0_6 l0_6.length c0_6] 26))
 have u0 := bc_ BK.out 0
 have u1 := bc_ BK.out 1
 have u2 := bc_ BK.out 2
 have u3 := bc_ BK.out 3
 have u4 := bc_ BK.out 4
 have u5 := bc_ BK.out 5
 have u6 := bc_ BK.out 6
 have Cr := am_ (Crg [] 1800 (by unfold otherV; rw [h1, if_neg (by decide)]))
 have Cd := am_ (Cdg [] 1800 (by unfold otherV; rw [h1, if_neg (by decide)]))
 clear Crg Cdg h1 hs hr0_2 hr0_3 hr0_6 hc0_2 hc0_3 hc0_6 hr1 hc1
 go_enter Tryd.func4, Tryd.ntmps4
 go_wp2_with (first | (go_at_call 24; (with_reducible refine (Cw.out _).mono ?_); rintro e w1 ⟨rfl, hb2⟩; replace BK := am_ (kb_ (show _ from (by (with_reducible repeat (first | exact BK.out | refine k2_ ?_ _ | refine k3_ ?_ | refine k1_ ?_ _)))) hb2); replace HB := am_ (bt_ (show Below w.heap.size w _ from (by repeat (with_reducible first | exact HB.out | apply p3_ | apply p1_ | apply p2_))) hb2); clear hb2; clear u0 u1 u2 u3 u4 u5 u6; have u0 := bc_ BK.out 0; have u1 := bc_ BK.out 1; have u2 := bc_ BK.out 2; have u3 := bc_ BK.out 3; have u4 := bc_ BK.out 4; have u5 := bc_ BK.out 5; have u6 := bc_ BK.out 6) | (go_at_call 15; (with_reducible refine (Cr.out _ (by repeat (with_reducible first | exact HB.out | apply p3_ | apply p1_ | apply p2_))).mono ?_); rintro e w2 ⟨va, rfl, HA, hb2⟩; replace BK := am_ (kb_ (show _ from (by (with_reducible repeat (first | exact BK.out | refine k2_ ?_ _ | refine k3_ ?_ | refine k1_ ?_ _)))) hb2); replace HB := am_ (bt_ (show Below w.heap.size w _ from (by repeat (with_reducible first | exact HB.out | apply p3_ | apply p1_ | apply p2_))) hb2); clear hb2; obtain ⟨AA, ca, eA, hca, HA2⟩ := Kd.R_reads HA; replace eA : va = .slice AA 0 ca := eA; subst eA; replace HA2 := am_ HA2; clear HA; clear u0 u1 u2 u3 u4 u5 u6; have u0 := bc_ BK.out 0; have u1 := bc_ BK.out 1; have u2 := bc_ BK.out 2; have u3 := bc_ BK.out 3; have u4 := bc_ BK.out 4; have u5 := bc_ BK.out 5; have u6 := bc_ BK.out 6) | (go_at_call 17; (with_reducible refine (Cd.out _ (by repeat (with_reducible first | exact HB.out | apply p3_ | apply p1_ | apply p2_))).mono ?_); rintro e w3 ⟨vb, rfl, HD, hb2⟩; have HA3 := am_ (c4_ HA2.out hb2); replace BK := am_ (kb_ (show _ from (by (with_reducible repeat (first | exact BK.out | refine k2_ ?_ _ | refine k3_ ?_ | refine k1_ ?_ _)))) hb2); replace HB := am_ (bt_ (show Below w.heap.size w _ from (by repeat (with_reducible first | exact HB.out | apply p3_ | apply p1_ | apply p2_))) hb2); clear hb2; obtain ⟨AB, cb, eB, hcb, HD2⟩ := Kd.R_reads HD; replace eB : vb = .slice AB 0 cb := eB; subst eB; replace HD2 := am_ HD2; clear HD HA2; clear u0 u1 u2 u3 u4 u5 u6; have u0 := bc_ BK.out 0; have u1 := bc_ BK.out 1; have u2 := bc_ BK.out 2; have u3 := bc_ BK.out 3; have u4 := bc_ BK.out 4; have u5 := bc_ BK.out 5; have u6 := bc_ BK.out 6) | (go_at_call 20; (with_reducible refine (Cn.out _ _).mono ?_); rintro e wq ⟨rfl, ⟨nd, rfl⟩⟩))
 go_ret
 exact ⟨rfl, (by repeat (with_reducible first | exact HB.out | apply p3_ | apply p1_ | apply p2_))⟩
set_option maxHeartbeats 8000000 in
set_option maxRecDepth 100000 in
theorem pinfoldlaw18_DropOwn.calls_no (a0_0 : Int) (a0_1 : Int) (A0_2 : Option Addr) (c0_2 : Nat) (l0_2 : List Int) (A0_3 : Option Addr) (c0_3 : Nat) (l0_3 : List S72) (a0_4 : Int) (a0_5 : ByteArray) (A0_6 : Option Addr) (c0_6 : Nat) (l0_6 : List S74) (A1 : Option Addr) (c1 : Nat) (l1 : List S42) (a2 : Int) (a3 : ByteArray) (a4 : Int) (w : World) (hr0_2 : Kd.C (Kd.int .i64) w A0_2 l0_2.length l0_2) (hc0_2 : l0_2.length ≤ c0_2) (hr0_3 : Kd.C k72 w A0_3 l0_3.length l0_3) (hc0_3 : l0_3.length ≤ c0_3) (hr0_6 : Kd.C k74 w A0_6 l0_6.length l0_6) (hc0_6 : l0_6.length ≤ c0_6) (hr1 : Kd.C k42 w A1 l1.length l1) (hc1 : l1.length ≤ c1) (hs : pickFit l0_2 l0_3 a0_5 l0_6 l1) (h1 : (pickMayB a0_0 a0_1 l0_2 l0_3 a0_4 a0_5 l0_6 l1 a2 a3 && decide (0 ≤ a2 ∧ a2 ≤ 1099510579200)) = true) (hno : ∀ x ∈ l1, x.f0 = a4 → ¬ (x.f2.toList = a3.toList ∧ liveX a2 x = true)) :
  Calls Tryd.prog 4 #[.agg #[.int .i64 a0_0, .int .i64 a0_1, .slice A0_2 l0_2.length c0_2, .slice A0_3 l0_3.length c0_3, .int .i64 a0_4, .string a0_5, .slice A0_6 l0_6.length c0_6], .slice A1 l1.length c1, .int .i64 a2, .string a3, .int .i64 a4] w fun e w' => e = .returned (.bool true) ∧ Below w.heap.size w w' := by
 have Cw := am_ (fun W => pinfoldlaw18_awake.calls 20 true W pinfoldlaw18_DropOwn.aw)
 have Cn := am_ (fun x W => pinfoldlaw0_Num.calls x x W rfl)
 have Crg := fun l e (h : otherV (boundX a3 a2) a0_0 a0_1 l0_2 l0_3 a0_4 a0_5 l0_6 l1 a2 a3 a4 ⟨0, 0, a3, a2, (⟨#[]⟩ : ByteArray), false⟩ = (l, e)) W (hb : Below w.heap.size w W) => drop_Release.calls a0_0 a0_1 A0_2 c0_2 l0_2 A0_3 c0_3 l0_3 a0_4 a0_5 A0_6 c0_6 l0_6 A1 c1 l1 a2 a3 a4 l e W (c4_ hr0_2 hb) hc0_2 (c4_ hr0_3 hb) hc0_3 (c4_ hr0_6 hb) hc0_6 (c4_ hr1 hb) hc1 (by unfold drop_Release.f; rw [if_pos hs, h])
 have Cdg := fun l e (h : otherV (holdsX a3 a2) a0_0 a0_1 l0_2 l0_3 a0_4 a0_5 l0_6 l1 a2 a3 a4 ⟨0, 3, (⟨#[]⟩ : ByteArray), wrap64 (a2 + 64), (⟨#[]⟩ : ByteArray), false⟩ = (l, e)) W (hb : Below w.heap.size w W) => drop_Decline.calls a0_0 a0_1 A0_2 c0_2 l0_2 A0_3 c0_3 l0_3 a0_4 a0_5 A0_6 c0_6 l0_6 A1 c1 l1 a2 a3 a4 l e W (c4_ hr0_2 hb) hc0_2 (c4_ hr0_3 hb) hc0_3 (c4_ hr0_6 hb) hc0_6 (c4_ hr1 hb) hc1 (by unfold drop_Decline.f; rw [if_pos hs, h])
 have HR1 := am_ hr1
 have HB := am_ (Below.refl w.heap.size w)
 have BK := am_ (blk_new w (.cells #[.int .i64 a0_0, .int .i64 a0_1, .slice A0_2 l0_2.length c0_2, .slice A0_3 l0_3.length c0_3, .int .i64 a0_4, .string a0_5, .slice A0_6 l0_6.length c0_6] 26))
 have u0 := bc_ BK.out 0
 have u1 := bc_ BK.out 1
 have u2 := bc_ BK.out 2
 have u3 := bc_ BK.out 3
 have u4 := bc_ BK.out 4
 have u5 := bc_ BK.out 5
 have u6 := bc_ BK.out 6
 have h2 := h1
 rw [Bool.and_eq_true] at h2
 have hT : tableB l1 = true := by
  have h3 := h2.1
  unfold pickMayB at h3
  simp only [Bool.and_eq_true] at h3
  exact h3.2.1
 obtain ⟨hok, hsr, h8⟩ := table_sorted hT
 have htr := table_fitr hT
 obtain ⟨LA, hLA⟩ : ∃ l, swapL l1 a4 (thenL (boundX a3 a2) l1 a4 ⟨0, 0, a3, a2, (⟨#[]⟩ : ByteArray), false⟩) = l := ⟨_, rfl⟩
 obtain ⟨LD, hLD⟩ : ∃ l, swapL l1 a4 (thenL (holdsX a3 a2) l1 a4 ⟨0, 3, (⟨#[]⟩ : ByteArray), wrap64 (a2 + 64), (⟨#[]⟩ : ByteArray), false⟩) = l := ⟨_, rfl⟩
 have Cr := am_ (Crg LA 0 (by unfold otherV; rw [h1, if_pos rfl, hLA]))
 have Cd := am_ (Cdg LD 0 (by unfold otherV; rw [h1, if_pos rfl, hLD]))
 have hlA : LA.length = l1.length := by rw [← hLA]; unfold swapL; rw [List.length_map]
 have hlD : LD.length = l1.length := by rw [← hLD]; unfold swapL; rw [List.length_map]
 have HAt := am_ (fun i x (h0 : 0 ≤ i) (h1 : i < (l1.length : Int)) (hx : rd_T42 l1 i = x) => show rd_T42 LA i = (if x.f0 = a4 then (if boundX a3 a2 x = true then (⟨a4, 0, a3, a2, (⟨#[]⟩ : ByteArray), false⟩ : S42) else x) else x) from by rw [← hLA]; exact pinfoldlaw18_DropOwn.at_ l1 a4 (boundX a3 a2) ⟨0, 0, a3, a2, (⟨#[]⟩ : ByteArray), false⟩ x i hsr h0 h1 hx)
 have HDt := am_ (fun i x (h0 : 0 ≤ i) (h1 : i < (l1.length : Int)) (hx : rd_T42 l1 i = x) => show rd_T42 LD i = (if x.f0 = a4 then (if holdsX a3 a2 x = true then (⟨a4, 3, (⟨#[]⟩ : ByteArray), wrap64 (a2 + 64), (⟨#[]⟩ : ByteArray), false⟩ : S42) else x) else x) from by rw [← hLD]; exact pinfoldlaw18_DropOwn.at_ l1 a4 (holdsX a3 a2) ⟨0, 3, (⟨#[]⟩ : ByteArray), wrap64 (a2 + 64), (⟨#[]⟩ : ByteArray), false⟩ x i hsr h0 h1 hx)
 have HX := am_ htr.2
 have CLg := am_ (fun x0 x1 x2 x3 x4 x5 (hx : x4.size ≤ 8796093022000) b (e : liveB x0 x1 x2 x3 x4 x5 a2 = b) W => pinfoldref11_Live_c.calls x0 x1 x2 x3 x4 x5 a2 b W (by unfold pinfoldref11_Live_c.f; rw [if_pos hx, e]))
 have HNO := am_ hno
 clear hno
 clear Crg Cdg h1 h2 hT hok hsr htr hLA hLD hs hr0_2 hr0_3 hr0_6 hc0_2 hc0_3 hc0_6 hr1 hc1
 have hlA' := am_ hlA
 have hlD' := am_ hlD
 clear hlA hlD
 replace h8 := am_ h8
 go_enter Tryd.func4, Tryd.ntmps4
 go_wp2_with (first | (go_at_call 24; (with_reducible refine (Cw.out _).mono ?_); rintro e w1 ⟨rfl, hb2⟩; replace BK := am_ (kb_ (show _ from (by (with_reducible repeat (first | exact BK.out | refine k2_ ?_ _ | refine k3_ ?_ | refine k1_ ?_ _)))) hb2); replace HB := am_ (bt_ (show Below w.heap.size w _ from (by repeat (with_reducible first | exact HB.out | apply p3_ | apply p1_ | apply p2_))) hb2); clear hb2; clear u0 u1 u2 u3 u4 u5 u6; have u0 := bc_ BK.out 0; have u1 := bc_ BK.out 1; have u2 := bc_ BK.out 2; have u3 := bc_ BK.out 3; have u4 := bc_ BK.out 4; have u5 := bc_ BK.out 5; have u6 := bc_ BK.out 6) | (go_at_call 15; (with_reducible refine (Cr.out _ (by repeat (with_reducible first | exact HB.out | apply p3_ | apply p1_ | apply p2_))).mono ?_); rintro e w2 ⟨va, rfl, HA, hb2⟩; replace BK := am_ (kb_ (show _ from (by (with_reducible repeat (first | exact BK.out | refine k2_ ?_ _ | refine k3_ ?_ | refine k1_ ?_ _)))) hb2); replace HB := am_ (bt_ (show Below w.heap.size w _ from (by repeat (with_reducible first | exact HB.out | apply p3_ | apply p1_ | apply p2_))) hb2); clear hb2; obtain ⟨AA, ca, eA, hca, HA2⟩ := Kd.R_reads HA; rw [hlA'.out] at eA hca HA2; subst eA; replace HA2 := am_ HA2; clear HA; clear u0 u1 u2 u3 u4 u5 u6; have u0 := bc_ BK.out 0; have u1 := bc_ BK.out 1; have u2 := bc_ BK.out 2; have u3 := bc_ BK.out 3; have u4 := bc_ BK.out 4; have u5 := bc_ BK.out 5; have u6 := bc_ BK.out 6) | (go_at_call 17; (with_reducible refine (Cd.out _ (by repeat (with_reducible first | exact HB.out | apply p3_ | apply p1_ | apply p2_))).mono ?_); rintro e w3 ⟨vb, rfl, HD, hb2⟩; have HA3 := am_ (c4_ HA2.out hb2); replace BK := am_ (kb_ (show _ from (by (with_reducible repeat (first | exact BK.out | refine k2_ ?_ _ | refine k3_ ?_ | refine k1_ ?_ _)))) hb2); replace HB := am_ (bt_ (show Below w.heap.size w _ from (by repeat (with_reducible first | exact HB.out | apply p3_ | apply p1_ | apply p2_))) hb2); clear hb2; obtain ⟨AB, cb, eB, hcb, HD2⟩ := Kd.R_reads HD; rw [hlD'.out] at eB hcb HD2; subst eB; replace HD2 := am_ HD2; clear HD HA2; clear u0 u1 u2 u3 u4 u5 u6; have u0 := bc_ BK.out 0; have u1 := bc_ BK.out 1; have u2 := bc_ BK.out 2; have u3 := bc_ BK.out 3; have u4 := bc_ BK.out 4; have u5 := bc_ BK.out 5; have u6 := bc_ BK.out 6) | (go_at_call 20; (with_reducible refine (Cn.out _ _).mono ?_); rintro e wq ⟨rfl, ⟨nd, rfl⟩⟩))
 have HW := am_ (show Below w3.heap.size w3 _ from by repeat (with_reducible first | exact Below.refl _ _ | apply p1_ | apply p2_))
 clear u0 u1 u2 u3 u4 u5 u6 Cw Cr Cd Cn BK
 go_loopg [15] l1.length (fun d v w' => ∃ i : Int, 0 ≤ i ∧ i.toNat + d = l1.length ∧ v = .int .i64 i ∧ Aside0 (Below w3.heap.size w3 w'))
 case atStart => exact ⟨0, by omega, by simp, rfl, ⟨by repeat (with_reducible first | exact Below.refl _ _ | apply p1_ | apply p2_)⟩⟩
 case round =>
  clear HW
  obtain ⟨i, hi0, hd, rfl, HW⟩ := hrel
  by_cases hlt : i < (l1.length : Int)
  ·obtain ⟨ad, e1, hx⟩ := at_T42 (c4_ HR1.out HB.out) i hi0 hlt
   cases e1
   obtain ⟨ada, e1, ha⟩ := at_T42 HA3.out i hi0 hlt
   cases e1
   obtain ⟨adb, e1, hb⟩ := at_T42 HD2.out i hi0 hlt
   cases e1
   have hl8 := h8.out
   have hxa := HAt.out i _ hi0 hlt rfl
   have hxd := HDt.out i _ hi0 hlt rfl
   rw [hxa] at ha
   rw [hxd] at hb
   clear hxa hxd
   have hsz : (rd_T42 l1 i).f4.size ≤ 8796093022000 := HX.out _ (dropLease l1 i hi0 hlt).2
   have hxm := (dropLease l1 i hi0 hlt).2
   generalize rd_T42 l1 i = x at hx ha hb hsz hxm
   obtain ⟨x0, x1, x2, x3, x4, x5⟩ := x
   simp only at hx ha hb hsz
   obtain ⟨bl, hbl⟩ : ∃ b, liveB x0 x1 x2 x3 x4 x5 a2 = b := ⟨_, rfl⟩
   have CL := am_ (fun W => CLg.out x0 x1 x2 x3 x4 x5 hsz bl hbl W)
   have eho : holdsX a3 a2 ⟨x0, x1, x2, x3, x4, x5⟩ = (bl && (decide (x1 ≠ 3) && decide (x2.toList = a3.toList))) := by rw [← hbl]; rfl
   have ebo : boundX a3 a2 ⟨x0, x1, x2, x3, x4, x5⟩ = (holdsX a3 a2 ⟨x0, x1, x2, x3, x4, x5⟩ && decide (x1 = 2)) := rfl
   have hst : bl = true → x1 = 1 ∨ x1 = 2 ∨ x1 = 3 := by
    intro e
    have e2 := hbl.trans e
    unfold liveB leaseB stateB at e2
    simp only [Bool.and_eq_true, decide_eq_true_eq] at e2
    obtain ⟨⟨⟨⟨⟨⟨_, h⟩, _⟩, _⟩, _⟩, h0⟩, _⟩ := e2
    by_cases q0 : x1 = 0 ∨ x1 = 3
    ·omega
    rw [if_neg q0] at h
    by_cases q1 : x1 = 1
    ·omega
    rw [if_neg q1] at h
    by_cases q2 : x1 = 2
    ·omega
    rw [if_neg q2] at h
    cases h
   have CZ := am_ (fun W => CLg.out a4 0 a3 a2 (⟨#[]⟩ : ByteArray) false (by decide) false (by unfold liveB; rw [show decide ((0 : Int) ≠ 0) = false from rfl, Bool.and_false, Bool.false_and]) W)
   have M1 := am_ (show 0 ≤ i + 1 by omega)
   have M2 := am_ (show (i + 1).toNat + (l1.length - (i.toNat + 1)) = l1.length by omega)
   have M3 := am_ (show l1.length - (i.toNat + 1) < gk by omega)
   have M4 := am_ (show IntKind.i64.wrap (i + 1) = i + 1 from (i64_w _).trans (by unfold wrap64; omega))
   have clt := decide_eq_true hlt
   have cle := decide_eq_true hi0
   have plt := eq_true hlt
   have ple := eq_true hi0
   have GX := am_ hx
   have hbl0 : liveX a2 ⟨x0, x1, x2, x3, x4, x5⟩ = bl := hbl
   clear hx hbl hsz hd hl8
   replace hi0 := am_ hi0
   clear hlt
   by_cases q0 : x0 = a4
   rotate_left
   ·rw [if_neg q0] at ha hb
    have GA := am_ ha
    have GD := am_ hb
    have c0 : (x0 == a4) = false := by simpa using q0
    clear ha hb q0 eho ebo hst CZ
    have y0 := (HW.out.cell (wb_ w3 _ GX.out.1)).trans GX.out.1; have y1 := (HW.out.cell (wb_ w3 _ GX.out.2.1)).trans GX.out.2.1; have y2 := (HW.out.cell (wb_ w3 _ GX.out.2.2.1)).trans GX.out.2.2.1; have y3 := (HW.out.cell (wb_ w3 _ GX.out.2.2.2.1)).trans GX.out.2.2.2.1; have y4 := (HW.out.cell (wb_ w3 _ GX.out.2.2.2.2.1)).trans GX.out.2.2.2.2.1; have y5 := (HW.out.cell (wb_ w3 _ GX.out.2.2.2.2.2)).trans GX.out.2.2.2.2.2; have z0 := (HW.out.cell (wb_ w3 _ GA.out.1)).trans GA.out.1; have z1 := (HW.out.cell (wb_ w3 _ GA.out.2.1)).trans GA.out.2.1; have z2 := (HW.out.cell (wb_ w3 _ GA.out.2.2.1)).trans GA.out.2.2.1; have z3 := (HW.out.cell (wb_ w3 _ GA.out.2.2.2.1)).trans GA.out.2.2.2.1; have z4 := (HW.out.cell (wb_ w3 _ GA.out.2.2.2.2.1)).trans GA.out.2.2.2.2.1; have z5 := (HW.out.cell (wb_ w3 _ GA.out.2.2.2.2.2)).trans GA.out.2.2.2.2.2; have t0 := (HW.out.cell (wb_ w3 _ GD.out.1)).trans GD.out.1; have t1 := (HW.out.cell (wb_ w3 _ GD.out.2.1)).trans GD.out.2.1; have t2 := (HW.out.cell (wb_ w3 _ GD.out.2.2.1)).trans GD.out.2.2.1; have t3 := (HW.out.cell (wb_ w3 _ GD.out.2.2.2.1)).trans GD.out.2.2.2.1; have t4 := (HW.out.cell (wb_ w3 _ GD.out.2.2.2.2.1)).trans GD.out.2.2.2.2.1; have t5 := (HW.out.cell (wb_ w3 _ GD.out.2.2.2.2.2)).trans GD.out.2.2.2.2.2
    go_wp2_with (first | (go_at_call 25; (with_reducible refine (CL.out _).mono ?_); rintro e w6 ⟨rfl, hb2⟩; replace HW := am_ (bt_ HW.out hb2); clear hb2 y0 y1 y2 y3 y4 y5 z0 z1 z2 z3 z4 z5 t0 t1 t2 t3 t4 t5; have y0 := (HW.out.cell (wb_ w3 _ GX.out.1)).trans GX.out.1; have y1 := (HW.out.cell (wb_ w3 _ GX.out.2.1)).trans GX.out.2.1; have y2 := (HW.out.cell (wb_ w3 _ GX.out.2.2.1)).trans GX.out.2.2.1; have y3 := (HW.out.cell (wb_ w3 _ GX.out.2.2.2.1)).trans GX.out.2.2.2.1; have y4 := (HW.out.cell (wb_ w3 _ GX.out.2.2.2.2.1)).trans GX.out.2.2.2.2.1; have y5 := (HW.out.cell (wb_ w3 _ GX.out.2.2.2.2.2)).trans GX.out.2.2.2.2.2; have z0 := (HW.out.cell (wb_ w3 _ GA.out.1)).trans GA.out.1; have z1 := (HW.out.cell (wb_ w3 _ GA.out.2.1)).trans GA.out.2.1; have z2 := (HW.out.cell (wb_ w3 _ GA.out.2.2.1)).trans GA.out.2.2.1; have z3 := (HW.out.cell (wb_ w3 _ GA.out.2.2.2.1)).trans GA.out.2.2.2.1; have z4 := (HW.out.cell (wb_ w3 _ GA.out.2.2.2.2.1)).trans GA.out.2.2.2.2.1; have z5 := (HW.out.cell (wb_ w3 _ GA.out.2.2.2.2.2)).trans GA.out.2.2.2.2.2; have t0 := (HW.out.cell (wb_ w3 _ GD.out.1)).trans GD.out.1; have t1 := (HW.out.cell (wb_ w3 _ GD.out.2.1)).trans GD.out.2.1; have t2 := (HW.out.cell (wb_ w3 _ GD.out.2.2.1)).trans GD.out.2.2.1; have t3 := (HW.out.cell (wb_ w3 _ GD.out.2.2.2.1)).trans GD.out.2.2.2.1; have t4 := (HW.out.cell (wb_ w3 _ GD.out.2.2.2.2.1)).trans GD.out.2.2.2.2.1; have t5 := (HW.out.cell (wb_ w3 _ GD.out.2.2.2.2.2)).trans GD.out.2.2.2.2.2))
    have HW1 := am_ (below_drew HW.out)
    refine seqS (S := pinfoldlaw18_DropOwn.S (ad.add (i.toNat * 6)) (ada.add (i.toNat * 6)) (adb.add (i.toNat * 6)) x0 x1 x2 x3 x4 x5 x0 x1 x2 x3 x4 x5 x0 x1 x2 x3 x4 x5) 65 (by kernel_rfl) rfl rfl (by unfold pinfoldlaw18_DropOwn.S; exact ⟨(HW1.out.cell (wb_ w3 _ GX.out.1)).trans GX.out.1, (HW1.out.cell (wb_ w3 _ GX.out.2.1)).trans GX.out.2.1, (HW1.out.cell (wb_ w3 _ GX.out.2.2.1)).trans GX.out.2.2.1, (HW1.out.cell (wb_ w3 _ GX.out.2.2.2.1)).trans GX.out.2.2.2.1, (HW1.out.cell (wb_ w3 _ GX.out.2.2.2.2.1)).trans GX.out.2.2.2.2.1, (HW1.out.cell (wb_ w3 _ GX.out.2.2.2.2.2)).trans GX.out.2.2.2.2.2, (HW1.out.cell (wb_ w3 _ GA.out.1)).trans GA.out.1, (HW1.out.cell (wb_ w3 _ GA.out.2.1)).trans GA.out.2.1, (HW1.out.cell (wb_ w3 _ GA.out.2.2.1)).trans GA.out.2.2.1, (HW1.out.cell (wb_ w3 _ GA.out.2.2.2.1)).trans GA.out.2.2.2.1, (HW1.out.cell (wb_ w3 _ GA.out.2.2.2.2.1)).trans GA.out.2.2.2.2.1, (HW1.out.cell (wb_ w3 _ GA.out.2.2.2.2.2)).trans GA.out.2.2.2.2.2, (HW1.out.cell (wb_ w3 _ GD.out.1)).trans GD.out.1, (HW1.out.cell (wb_ w3 _ GD.out.2.1)).trans GD.out.2.1, (HW1.out.cell (wb_ w3 _ GD.out.2.2.1)).trans GD.out.2.2.1, (HW1.out.cell (wb_ w3 _ GD.out.2.2.2.1)).trans GD.out.2.2.2.1, (HW1.out.cell (wb_ w3 _ GD.out.2.2.2.2.1)).trans GD.out.2.2.2.2.1, (HW1.out.cell (wb_ w3 _ GD.out.2.2.2.2.2)).trans GD.out.2.2.2.2.2⟩) ?_
    intro hHeld
    refine with_tabW pinfoldlaw18_DropOwn.tab13 pinfoldlaw18_DropOwn.bits13 (fun HT_ HW_ => ?_)
    clear HW y0 y1 y2 y3 y4 y5 z0 z1 z2 z3 z4 z5 t0 t1 t2 t3 t4 t5
    iterate 27 first | (refine seqPT HT_ (v := ?_) (a' := ?_) rfl rfl (by kernel_rfl) (fun _ _ _ h => h) (Or.inl ⟨by kernel_rfl, ?_⟩) ?_ ?_; rotate_left; (intro w'; go_simp; with_reducible rfl); rotate_left; (simp only [Act.put, sa_, sb_, sc_, i64_w, i32_w]; rfl)) | (refine seqLT HT_ HW_ (v := ?_) (a' := ?_) rfl rfl (by kernel_rfl) (fun _ _ _ h => h) (Or.inl ⟨by kernel_rfl, ?_⟩) hHeld ?_ ?_; rotate_left; (rintro w' ⟨s0, s1, s2, s3, s4, s5, s6, s7, s8, s9, s10, s11, s12, s13, s14, s15, s16, s17⟩; go_simp; with_reducible rfl); rotate_left; (simp only [Act.put, sa_, sb_, sc_, i64_w, i32_w]; rfl))
    iterate 6 (refine seqPT HT_ (v := undef) (a' := ?_) rfl rfl (by kernel_rfl) (fun _ _ _ h => h) (Or.inr ⟨by kernel_rfl, rfl⟩) ?_ ?_; rotate_left; (simp only [Act.put, sa_, sb_, sc_, i64_w, i32_w]; rfl))
    iterate 2 first | (refine seqPT HT_ (v := ?_) (a' := ?_) rfl rfl (by kernel_rfl) (fun _ _ _ h => h) (Or.inl ⟨by kernel_rfl, ?_⟩) ?_ ?_; rotate_left; (intro w'; go_simp; with_reducible rfl); rotate_left; (simp only [Act.put, sa_, sb_, sc_, i64_w, i32_w]; rfl)) | (refine seqLT HT_ HW_ (v := ?_) (a' := ?_) rfl rfl (by kernel_rfl) (fun _ _ _ h => h) (Or.inl ⟨by kernel_rfl, ?_⟩) hHeld ?_ ?_; rotate_left; (rintro w' ⟨s0, s1, s2, s3, s4, s5, s6, s7, s8, s9, s10, s11, s12, s13, s14, s15, s16, s17⟩; go_simp; with_reducible rfl); rotate_left; (simp only [Act.put, sa_, sb_, sc_, i64_w, i32_w]; rfl))
    iterate 9 (refine seqPT HT_ (v := undef) (a' := ?_) rfl rfl (by kernel_rfl) (fun _ _ _ h => h) (Or.inr ⟨by kernel_rfl, rfl⟩) ?_ ?_; rotate_left; (simp only [Act.put, sa_, sb_, sc_, i64_w, i32_w]; rfl))
    iterate 13 first | (refine seqPT HT_ (v := ?_) (a' := ?_) rfl rfl (by kernel_rfl) (fun _ _ _ h => h) (Or.inl ⟨by kernel_rfl, ?_⟩) ?_ ?_; rotate_left; (intro w'; go_simp; with_reducible rfl); rotate_left; (simp only [Act.put, sa_, sb_, sc_, i64_w, i32_w]; rfl)) | (refine seqLT HT_ HW_ (v := ?_) (a' := ?_) rfl rfl (by kernel_rfl) (fun _ _ _ h => h) (Or.inl ⟨by kernel_rfl, ?_⟩) hHeld ?_ ?_; rotate_left; (rintro w' ⟨s0, s1, s2, s3, s4, s5, s6, s7, s8, s9, s10, s11, s12, s13, s14, s15, s16, s17⟩; go_simp; with_reducible rfl); rotate_left; (simp only [Act.put, sa_, sb_, sc_, i64_w, i32_w]; rfl))
    iterate 6 (refine seqPT HT_ (v := undef) (a' := ?_) rfl rfl (by kernel_rfl) (fun _ _ _ h => h) (Or.inr ⟨by kernel_rfl, rfl⟩) ?_ ?_; rotate_left; (simp only [Act.put, sa_, sb_, sc_, i64_w, i32_w]; rfl))
    iterate 2 first | (refine seqPT HT_ (v := ?_) (a' := ?_) rfl rfl (by kernel_rfl) (fun _ _ _ h => h) (Or.inl ⟨by kernel_rfl, ?_⟩) ?_ ?_; rotate_left; (intro w'; go_simp; with_reducible rfl); rotate_left; (simp only [Act.put, sa_, sb_, sc_, i64_w, i32_w]; rfl)) | (refine seqLT HT_ HW_ (v := ?_) (a' := ?_) rfl rfl (by kernel_rfl) (fun _ _ _ h => h) (Or.inl ⟨by kernel_rfl, ?_⟩) hHeld ?_ ?_; rotate_left; (rintro w' ⟨s0, s1, s2, s3, s4, s5, s6, s7, s8, s9, s10, s11, s12, s13, s14, s15, s16, s17⟩; go_simp; with_reducible rfl); rotate_left; (simp only [Act.put, sa_, sb_, sc_, i64_w, i32_w]; rfl))
    refine seqET HT_ (by kernel_rfl) ?_
    go_wp2
    go_roundg (l1.length - (i.toNat + 1))
    case measure => exact M3.out
    case rel => exact ⟨i + 1, M1.out, M2.out, by first | rfl | (rw [show wrap64 (i + 1) = i + 1 from (i64_w _).symm.trans M4.out]), HW1⟩
   subst q0
   have hno2 := HNO.out _ hxm rfl
   rw [if_pos rfl] at ha hb
   have c0 : (x0 == x0) = true := by simp
   by_cases q2 : x2.toList = a3.toList
   rotate_left
   ·rw [decide_eq_false q2, Bool.and_false, Bool.and_false] at eho
    rw [eho, Bool.false_and] at ebo
    rw [ebo, if_neg (by decide)] at ha
    rw [eho, if_neg (by decide)] at hb
    have GA := am_ ha
    have GD := am_ hb
    have c2 : (x2.toList == a3.toList) = false := by simpa using q2
    clear ha hb q2 eho ebo hst CZ
    have y0 := (HW.out.cell (wb_ w3 _ GX.out.1)).trans GX.out.1; have y1 := (HW.out.cell (wb_ w3 _ GX.out.2.1)).trans GX.out.2.1; have y2 := (HW.out.cell (wb_ w3 _ GX.out.2.2.1)).trans GX.out.2.2.1; have y3 := (HW.out.cell (wb_ w3 _ GX.out.2.2.2.1)).trans GX.out.2.2.2.1; have y4 := (HW.out.cell (wb_ w3 _ GX.out.2.2.2.2.1)).trans GX.out.2.2.2.2.1; have y5 := (HW.out.cell (wb_ w3 _ GX.out.2.2.2.2.2)).trans GX.out.2.2.2.2.2; have z0 := (HW.out.cell (wb_ w3 _ GA.out.1)).trans GA.out.1; have z1 := (HW.out.cell (wb_ w3 _ GA.out.2.1)).trans GA.out.2.1; have z2 := (HW.out.cell (wb_ w3 _ GA.out.2.2.1)).trans GA.out.2.2.1; have z3 := (HW.out.cell (wb_ w3 _ GA.out.2.2.2.1)).trans GA.out.2.2.2.1; have z4 := (HW.out.cell (wb_ w3 _ GA.out.2.2.2.2.1)).trans GA.out.2.2.2.2.1; have z5 := (HW.out.cell (wb_ w3 _ GA.out.2.2.2.2.2)).trans GA.out.2.2.2.2.2; have t0 := (HW.out.cell (wb_ w3 _ GD.out.1)).trans GD.out.1; have t1 := (HW.out.cell (wb_ w3 _ GD.out.2.1)).trans GD.out.2.1; have t2 := (HW.out.cell (wb_ w3 _ GD.out.2.2.1)).trans GD.out.2.2.1; have t3 := (HW.out.cell (wb_ w3 _ GD.out.2.2.2.1)).trans GD.out.2.2.2.1; have t4 := (HW.out.cell (wb_ w3 _ GD.out.2.2.2.2.1)).trans GD.out.2.2.2.2.1; have t5 := (HW.out.cell (wb_ w3 _ GD.out.2.2.2.2.2)).trans GD.out.2.2.2.2.2
    go_wp2_with (first | (go_at_call 25; (with_reducible refine (CL.out _).mono ?_); rintro e w6 ⟨rfl, hb2⟩; replace HW := am_ (bt_ HW.out hb2); clear hb2 y0 y1 y2 y3 y4 y5 z0 z1 z2 z3 z4 z5 t0 t1 t2 t3 t4 t5; have y0 := (HW.out.cell (wb_ w3 _ GX.out.1)).trans GX.out.1; have y1 := (HW.out.cell (wb_ w3 _ GX.out.2.1)).trans GX.out.2.1; have y2 := (HW.out.cell (wb_ w3 _ GX.out.2.2.1)).trans GX.out.2.2.1; have y3 := (HW.out.cell (wb_ w3 _ GX.out.2.2.2.1)).trans GX.out.2.2.2.1; have y4 := (HW.out.cell (wb_ w3 _ GX.out.2.2.2.2.1)).trans GX.out.2.2.2.2.1; have y5 := (HW.out.cell (wb_ w3 _ GX.out.2.2.2.2.2)).trans GX.out.2.2.2.2.2; have z0 := (HW.out.cell (wb_ w3 _ GA.out.1)).trans GA.out.1; have z1 := (HW.out.cell (wb_ w3 _ GA.out.2.1)).trans GA.out.2.1; have z2 := (HW.out.cell (wb_ w3 _ GA.out.2.2.1)).trans GA.out.2.2.1; have z3 := (HW.out.cell (wb_ w3 _ GA.out.2.2.2.1)).trans GA.out.2.2.2.1; have z4 := (HW.out.cell (wb_ w3 _ GA.out.2.2.2.2.1)).trans GA.out.2.2.2.2.1; have z5 := (HW.out.cell (wb_ w3 _ GA.out.2.2.2.2.2)).trans GA.out.2.2.2.2.2; have t0 := (HW.out.cell (wb_ w3 _ GD.out.1)).trans GD.out.1; have t1 := (HW.out.cell (wb_ w3 _ GD.out.2.1)).trans GD.out.2.1; have t2 := (HW.out.cell (wb_ w3 _ GD.out.2.2.1)).trans GD.out.2.2.1; have t3 := (HW.out.cell (wb_ w3 _ GD.out.2.2.2.1)).trans GD.out.2.2.2.1; have t4 := (HW.out.cell (wb_ w3 _ GD.out.2.2.2.2.1)).trans GD.out.2.2.2.2.1; have t5 := (HW.out.cell (wb_ w3 _ GD.out.2.2.2.2.2)).trans GD.out.2.2.2.2.2))
    have HW1 := am_ (below_drew HW.out)
    refine seqS (S := pinfoldlaw18_DropOwn.S (ad.add (i.toNat * 6)) (ada.add (i.toNat * 6)) (adb.add (i.toNat * 6)) x0 x1 x2 x3 x4 x5 x0 x1 x2 x3 x4 x5 x0 x1 x2 x3 x4 x5) 65 (by kernel_rfl) rfl rfl (by unfold pinfoldlaw18_DropOwn.S; exact ⟨(HW1.out.cell (wb_ w3 _ GX.out.1)).trans GX.out.1, (HW1.out.cell (wb_ w3 _ GX.out.2.1)).trans GX.out.2.1, (HW1.out.cell (wb_ w3 _ GX.out.2.2.1)).trans GX.out.2.2.1, (HW1.out.cell (wb_ w3 _ GX.out.2.2.2.1)).trans GX.out.2.2.2.1, (HW1.out.cell (wb_ w3 _ GX.out.2.2.2.2.1)).trans GX.out.2.2.2.2.1, (HW1.out.cell (wb_ w3 _ GX.out.2.2.2.2.2)).trans GX.out.2.2.2.2.2, (HW1.out.cell (wb_ w3 _ GA.out.1)).trans GA.out.1, (HW1.out.cell (wb_ w3 _ GA.out.2.1)).trans GA.out.2.1, (HW1.out.cell (wb_ w3 _ GA.out.2.2.1)).trans GA.out.2.2.1, (HW1.out.cell (wb_ w3 _ GA.out.2.2.2.1)).trans GA.out.2.2.2.1, (HW1.out.cell (wb_ w3 _ GA.out.2.2.2.2.1)).trans GA.out.2.2.2.2.1, (HW1.out.cell (wb_ w3 _ GA.out.2.2.2.2.2)).trans GA.out.2.2.2.2.2, (HW1.out.cell (wb_ w3 _ GD.out.1)).trans GD.out.1, (HW1.out.cell (wb_ w3 _ GD.out.2.1)).trans GD.out.2.1, (HW1.out.cell (wb_ w3 _ GD.out.2.2.1)).trans GD.out.2.2.1, (HW1.out.cell (wb_ w3 _ GD.out.2.2.2.1)).trans GD.out.2.2.2.1, (HW1.out.cell (wb_ w3 _ GD.out.2.2.2.2.1)).trans GD.out.2.2.2.2.1, (HW1.out.cell (wb_ w3 _ GD.out.2.2.2.2.2)).trans GD.out.2.2.2.2.2⟩) ?_
    intro hHeld
    refine with_tabW pinfoldlaw18_DropOwn.tab13 pinfoldlaw18_DropOwn.bits13 (fun HT_ HW_ => ?_)
    clear HW y0 y1 y2 y3 y4 y5 z0 z1 z2 z3 z4 z5 t0 t1 t2 t3 t4 t5
    iterate 27 first | (refine seqPT HT_ (v := ?_) (a' := ?_) rfl rfl (by kernel_rfl) (fun _ _ _ h => h) (Or.inl ⟨by kernel_rfl, ?_⟩) ?_ ?_; rotate_left; (intro w'; go_simp; with_reducible rfl); rotate_left; (simp only [Act.put, sa_, sb_, sc_, i64_w, i32_w]; rfl)) | (refine seqLT HT_ HW_ (v := ?_) (a' := ?_) rfl rfl (by kernel_rfl) (fun _ _ _ h => h) (Or.inl ⟨by kernel_rfl, ?_⟩) hHeld ?_ ?_; rotate_left; (rintro w' ⟨s0, s1, s2, s3, s4, s5, s6, s7, s8, s9, s10, s11, s12, s13, s14, s15, s16, s17⟩; go_simp; with_reducible rfl); rotate_left; (simp only [Act.put, sa_, sb_, sc_, i64_w, i32_w]; rfl))
    iterate 6 (refine seqPT HT_ (v := undef) (a' := ?_) rfl rfl (by kernel_rfl) (fun _ _ _ h => h) (Or.inr ⟨by kernel_rfl, rfl⟩) ?_ ?_; rotate_left; (simp only [Act.put, sa_, sb_, sc_, i64_w, i32_w]; rfl))
    iterate 2 first | (refine seqPT HT_ (v := ?_) (a' := ?_) rfl rfl (by kernel_rfl) (fun _ _ _ h => h) (Or.inl ⟨by kernel_rfl, ?_⟩) ?_ ?_; rotate_left; (intro w'; go_simp; with_reducible rfl); rotate_left; (simp only [Act.put, sa_, sb_, sc_, i64_w, i32_w]; rfl)) | (refine seqLT HT_ HW_ (v := ?_) (a' := ?_) rfl rfl (by kernel_rfl) (fun _ _ _ h => h) (Or.inl ⟨by kernel_rfl, ?_⟩) hHeld ?_ ?_; rotate_left; (rintro w' ⟨s0, s1, s2, s3, s4, s5, s6, s7, s8, s9, s10, s11, s12, s13, s14, s15, s16, s17⟩; go_simp; with_reducible rfl); rotate_left; (simp only [Act.put, sa_, sb_, sc_, i64_w, i32_w]; rfl))
    iterate 9 (refine seqPT HT_ (v := undef) (a' := ?_) rfl rfl (by kernel_rfl) (fun _ _ _ h => h) (Or.inr ⟨by kernel_rfl, rfl⟩) ?_ ?_; rotate_left; (simp only [Act.put, sa_, sb_, sc_, i64_w, i32_w]; rfl))
    iterate 13 first | (refine seqPT HT_ (v := ?_) (a' := ?_) rfl rfl (by kernel_rfl) (fun _ _ _ h => h) (Or.inl ⟨by kernel_rfl, ?_⟩) ?_ ?_; rotate_left; (intro w'; go_simp; with_reducible rfl); rotate_left; (simp only [Act.put, sa_, sb_, sc_, i64_w, i32_w]; rfl)) | (refine seqLT HT_ HW_ (v := ?_) (a' := ?_) rfl rfl (by kernel_rfl) (fun _ _ _ h => h) (Or.inl ⟨by kernel_rfl, ?_⟩) hHeld ?_ ?_; rotate_left; (rintro w' ⟨s0, s1, s2, s3, s4, s5, s6, s7, s8, s9, s10, s11, s12, s13, s14, s15, s16, s17⟩; go_simp; with_reducible rfl); rotate_left; (simp only [Act.put, sa_, sb_, sc_, i64_w, i32_w]; rfl))
    iterate 6 (refine seqPT HT_ (v := undef) (a' := ?_) rfl rfl (by kernel_rfl) (fun _ _ _ h => h) (Or.inr ⟨by kernel_rfl, rfl⟩) ?_ ?_; rotate_left; (simp only [Act.put, sa_, sb_, sc_, i64_w, i32_w]; rfl))
    iterate 2 first | (refine seqPT HT_ (v := ?_) (a' := ?_) rfl rfl (by kernel_rfl) (fun _ _ _ h => h) (Or.inl ⟨by kernel_rfl, ?_⟩) ?_ ?_; rotate_left; (intro w'; go_simp; with_reducible rfl); rotate_left; (simp only [Act.put, sa_, sb_, sc_, i64_w, i32_w]; rfl)) | (refine seqLT HT_ HW_ (v := ?_) (a' := ?_) rfl rfl (by kernel_rfl) (fun _ _ _ h => h) (Or.inl ⟨by kernel_rfl, ?_⟩) hHeld ?_ ?_; rotate_left; (rintro w' ⟨s0, s1, s2, s3, s4, s5, s6, s7, s8, s9, s10, s11, s12, s13, s14, s15, s16, s17⟩; go_simp; with_reducible rfl); rotate_left; (simp only [Act.put, sa_, sb_, sc_, i64_w, i32_w]; rfl))
    refine seqET HT_ (by kernel_rfl) ?_
    go_wp2
    go_roundg (l1.length - (i.toNat + 1))
    case measure => exact M3.out
    case rel => exact ⟨i + 1, M1.out, M2.out, by first | rfl | (rw [show wrap64 (i + 1) = i + 1 from (i64_w _).symm.trans M4.out]), HW1⟩
   have c2 : (x2.toList == a3.toList) = true := by simpa using q2
   rw [decide_eq_true q2, Bool.and_true] at eho
   have hbf : bl = false := by
    cases hb2 : bl with
    | false => rfl
    | true => exact absurd (hbl0.trans hb2) (fun e => hno2 ⟨q2, e⟩)
   clear q2 hno2
   subst hbf
   rw [Bool.false_and] at eho
   rw [eho, Bool.false_and] at ebo
   rw [ebo, if_neg (by decide)] at ha
   rw [eho, if_neg (by decide)] at hb
   have GA := am_ ha
   have GD := am_ hb
   clear ha hb eho ebo hst CZ
   have y0 := (HW.out.cell (wb_ w3 _ GX.out.1)).trans GX.out.1; have y1 := (HW.out.cell (wb_ w3 _ GX.out.2.1)).trans GX.out.2.1; have y2 := (HW.out.cell (wb_ w3 _ GX.out.2.2.1)).trans GX.out.2.2.1; have y3 := (HW.out.cell (wb_ w3 _ GX.out.2.2.2.1)).trans GX.out.2.2.2.1; have y4 := (HW.out.cell (wb_ w3 _ GX.out.2.2.2.2.1)).trans GX.out.2.2.2.2.1; have y5 := (HW.out.cell (wb_ w3 _ GX.out.2.2.2.2.2)).trans GX.out.2.2.2.2.2; have z0 := (HW.out.cell (wb_ w3 _ GA.out.1)).trans GA.out.1; have z1 := (HW.out.cell (wb_ w3 _ GA.out.2.1)).trans GA.out.2.1; have z2 := (HW.out.cell (wb_ w3 _ GA.out.2.2.1)).trans GA.out.2.2.1; have z3 := (HW.out.cell (wb_ w3 _ GA.out.2.2.2.1)).trans GA.out.2.2.2.1; have z4 := (HW.out.cell (wb_ w3 _ GA.out.2.2.2.2.1)).trans GA.out.2.2.2.2.1; have z5 := (HW.out.cell (wb_ w3 _ GA.out.2.2.2.2.2)).trans GA.out.2.2.2.2.2; have t0 := (HW.out.cell (wb_ w3 _ GD.out.1)).trans GD.out.1; have t1 := (HW.out.cell (wb_ w3 _ GD.out.2.1)).trans GD.out.2.1; have t2 := (HW.out.cell (wb_ w3 _ GD.out.2.2.1)).trans GD.out.2.2.1; have t3 := (HW.out.cell (wb_ w3 _ GD.out.2.2.2.1)).trans GD.out.2.2.2.1; have t4 := (HW.out.cell (wb_ w3 _ GD.out.2.2.2.2.1)).trans GD.out.2.2.2.2.1; have t5 := (HW.out.cell (wb_ w3 _ GD.out.2.2.2.2.2)).trans GD.out.2.2.2.2.2
   go_wp2_with (first | (go_at_call 25; (with_reducible refine (CL.out _).mono ?_); rintro e w6 ⟨rfl, hb2⟩; replace HW := am_ (bt_ HW.out hb2); clear hb2 y0 y1 y2 y3 y4 y5 z0 z1 z2 z3 z4 z5 t0 t1 t2 t3 t4 t5; have y0 := (HW.out.cell (wb_ w3 _ GX.out.1)).trans GX.out.1; have y1 := (HW.out.cell (wb_ w3 _ GX.out.2.1)).trans GX.out.2.1; have y2 := (HW.out.cell (wb_ w3 _ GX.out.2.2.1)).trans GX.out.2.2.1; have y3 := (HW.out.cell (wb_ w3 _ GX.out.2.2.2.1)).trans GX.out.2.2.2.1; have y4 := (HW.out.cell (wb_ w3 _ GX.out.2.2.2.2.1)).trans GX.out.2.2.2.2.1; have y5 := (HW.out.cell (wb_ w3 _ GX.out.2.2.2.2.2)).trans GX.out.2.2.2.2.2; have z0 := (HW.out.cell (wb_ w3 _ GA.out.1)).trans GA.out.1; have z1 := (HW.out.cell (wb_ w3 _ GA.out.2.1)).trans GA.out.2.1; have z2 := (HW.out.cell (wb_ w3 _ GA.out.2.2.1)).trans GA.out.2.2.1; have z3 := (HW.out.cell (wb_ w3 _ GA.out.2.2.2.1)).trans GA.out.2.2.2.1; have z4 := (HW.out.cell (wb_ w3 _ GA.out.2.2.2.2.1)).trans GA.out.2.2.2.2.1; have z5 := (HW.out.cell (wb_ w3 _ GA.out.2.2.2.2.2)).trans GA.out.2.2.2.2.2; have t0 := (HW.out.cell (wb_ w3 _ GD.out.1)).trans GD.out.1; have t1 := (HW.out.cell (wb_ w3 _ GD.out.2.1)).trans GD.out.2.1; have t2 := (HW.out.cell (wb_ w3 _ GD.out.2.2.1)).trans GD.out.2.2.1; have t3 := (HW.out.cell (wb_ w3 _ GD.out.2.2.2.1)).trans GD.out.2.2.2.1; have t4 := (HW.out.cell (wb_ w3 _ GD.out.2.2.2.2.1)).trans GD.out.2.2.2.2.1; have t5 := (HW.out.cell (wb_ w3 _ GD.out.2.2.2.2.2)).trans GD.out.2.2.2.2.2))
   have HW1 := am_ (below_drew HW.out)
   refine seqS (S := pinfoldlaw18_DropOwn.S (ad.add (i.toNat * 6)) (ada.add (i.toNat * 6)) (adb.add (i.toNat * 6)) x0 x1 x2 x3 x4 x5 x0 x1 x2 x3 x4 x5 x0 x1 x2 x3 x4 x5) 65 (by kernel_rfl) rfl rfl (by unfold pinfoldlaw18_DropOwn.S; exact ⟨(HW1.out.cell (wb_ w3 _ GX.out.1)).trans GX.out.1, (HW1.out.cell (wb_ w3 _ GX.out.2.1)).trans GX.out.2.1, (HW1.out.cell (wb_ w3 _ GX.out.2.2.1)).trans GX.out.2.2.1, (HW1.out.cell (wb_ w3 _ GX.out.2.2.2.1)).trans GX.out.2.2.2.1, (HW1.out.cell (wb_ w3 _ GX.out.2.2.2.2.1)).trans GX.out.2.2.2.2.1, (HW1.out.cell (wb_ w3 _ GX.out.2.2.2.2.2)).trans GX.out.2.2.2.2.2, (HW1.out.cell (wb_ w3 _ GA.out.1)).trans GA.out.1, (HW1.out.cell (wb_ w3 _ GA.out.2.1)).trans GA.out.2.1, (HW1.out.cell (wb_ w3 _ GA.out.2.2.1)).trans GA.out.2.2.1, (HW1.out.cell (wb_ w3 _ GA.out.2.2.2.1)).trans GA.out.2.2.2.1, (HW1.out.cell (wb_ w3 _ GA.out.2.2.2.2.1)).trans GA.out.2.2.2.2.1, (HW1.out.cell (wb_ w3 _ GA.out.2.2.2.2.2)).trans GA.out.2.2.2.2.2, (HW1.out.cell (wb_ w3 _ GD.out.1)).trans GD.out.1, (HW1.out.cell (wb_ w3 _ GD.out.2.1)).trans GD.out.2.1, (HW1.out.cell (wb_ w3 _ GD.out.2.2.1)).trans GD.out.2.2.1, (HW1.out.cell (wb_ w3 _ GD.out.2.2.2.1)).trans GD.out.2.2.2.1, (HW1.out.cell (wb_ w3 _ GD.out.2.2.2.2.1)).trans GD.out.2.2.2.2.1, (HW1.out.cell (wb_ w3 _ GD.out.2.2.2.2.2)).trans GD.out.2.2.2.2.2⟩) ?_
   intro hHeld
   refine with_tabW pinfoldlaw18_DropOwn.tab13 pinfoldlaw18_DropOwn.bits13 (fun HT_ HW_ => ?_)
   clear HW y0 y1 y2 y3 y4 y5 z0 z1 z2 z3 z4 z5 t0 t1 t2 t3 t4 t5
   iterate 27 first | (refine seqPT HT_ (v := ?_) (a' := ?_) rfl rfl (by kernel_rfl) (fun _ _ _ h => h) (Or.inl ⟨by kernel_rfl, ?_⟩) ?_ ?_; rotate_left; (intro w'; go_simp; with_reducible rfl); rotate_left; (simp only [Act.put, sa_, sb_, sc_, i64_w, i32_w]; rfl)) | (refine seqLT HT_ HW_ (v := ?_) (a' := ?_) rfl rfl (by kernel_rfl) (fun _ _ _ h => h) (Or.inl ⟨by kernel_rfl, ?_⟩) hHeld ?_ ?_; rotate_left; (rintro w' ⟨s0, s1, s2, s3, s4, s5, s6, s7, s8, s9, s10, s11, s12, s13, s14, s15, s16, s17⟩; go_simp; with_reducible rfl); rotate_left; (simp only [Act.put, sa_, sb_, sc_, i64_w, i32_w]; rfl))
   iterate 6 (refine seqPT HT_ (v := undef) (a' := ?_) rfl rfl (by kernel_rfl) (fun _ _ _ h => h) (Or.inr ⟨by kernel_rfl, rfl⟩) ?_ ?_; rotate_left; (simp only [Act.put, sa_, sb_, sc_, i64_w, i32_w]; rfl))
   iterate 2 first | (refine seqPT HT_ (v := ?_) (a' := ?_) rfl rfl (by kernel_rfl) (fun _ _ _ h => h) (Or.inl ⟨by kernel_rfl, ?_⟩) ?_ ?_; rotate_left; (intro w'; go_simp; with_reducible rfl); rotate_left; (simp only [Act.put, sa_, sb_, sc_, i64_w, i32_w]; rfl)) | (refine seqLT HT_ HW_ (v := ?_) (a' := ?_) rfl rfl (by kernel_rfl) (fun _ _ _ h => h) (Or.inl ⟨by kernel_rfl, ?_⟩) hHeld ?_ ?_; rotate_left; (rintro w' ⟨s0, s1, s2, s3, s4, s5, s6, s7, s8, s9, s10, s11, s12, s13, s14, s15, s16, s17⟩; go_simp; with_reducible rfl); rotate_left; (simp only [Act.put, sa_, sb_, sc_, i64_w, i32_w]; rfl))
   iterate 9 (refine seqPT HT_ (v := undef) (a' := ?_) rfl rfl (by kernel_rfl) (fun _ _ _ h => h) (Or.inr ⟨by kernel_rfl, rfl⟩) ?_ ?_; rotate_left; (simp only [Act.put, sa_, sb_, sc_, i64_w, i32_w]; rfl))
   iterate 13 first | (refine seqPT HT_ (v := ?_) (a' := ?_) rfl rfl (by kernel_rfl) (fun _ _ _ h => h) (Or.inl ⟨by kernel_rfl, ?_⟩) ?_ ?_; rotate_left; (intro w'; go_simp; with_reducible rfl); rotate_left; (simp only [Act.put, sa_, sb_, sc_, i64_w, i32_w]; rfl)) | (refine seqLT HT_ HW_ (v := ?_) (a' := ?_) rfl rfl (by kernel_rfl) (fun _ _ _ h => h) (Or.inl ⟨by kernel_rfl, ?_⟩) hHeld ?_ ?_; rotate_left; (rintro w' ⟨s0, s1, s2, s3, s4, s5, s6, s7, s8, s9, s10, s11, s12, s13, s14, s15, s16, s17⟩; go_simp; with_reducible rfl); rotate_left; (simp only [Act.put, sa_, sb_, sc_, i64_w, i32_w]; rfl))
   iterate 6 (refine seqPT HT_ (v := undef) (a' := ?_) rfl rfl (by kernel_rfl) (fun _ _ _ h => h) (Or.inr ⟨by kernel_rfl, rfl⟩) ?_ ?_; rotate_left; (simp only [Act.put, sa_, sb_, sc_, i64_w, i32_w]; rfl))
   iterate 2 first | (refine seqPT HT_ (v := ?_) (a' := ?_) rfl rfl (by kernel_rfl) (fun _ _ _ h => h) (Or.inl ⟨by kernel_rfl, ?_⟩) ?_ ?_; rotate_left; (intro w'; go_simp; with_reducible rfl); rotate_left; (simp only [Act.put, sa_, sb_, sc_, i64_w, i32_w]; rfl)) | (refine seqLT HT_ HW_ (v := ?_) (a' := ?_) rfl rfl (by kernel_rfl) (fun _ _ _ h => h) (Or.inl ⟨by kernel_rfl, ?_⟩) hHeld ?_ ?_; rotate_left; (rintro w' ⟨s0, s1, s2, s3, s4, s5, s6, s7, s8, s9, s10, s11, s12, s13, s14, s15, s16, s17⟩; go_simp; with_reducible rfl); rotate_left; (simp only [Act.put, sa_, sb_, sc_, i64_w, i32_w]; rfl))
   refine seqET HT_ (by kernel_rfl) ?_
   go_wp2
   go_roundg (l1.length - (i.toNat + 1))
   case measure => exact M3.out
   case rel => exact ⟨i + 1, M1.out, M2.out, by first | rfl | (rw [show wrap64 (i + 1) = i + 1 from (i64_w _).symm.trans M4.out]), HW1⟩
  ·go_wp2
   go_ret
   exact ⟨rfl, bt_ HB.out HW.out⟩
set_option maxHeartbeats 8000000 in
set_option maxRecDepth 100000 in
theorem pinfoldlaw18_DropOwn.calls_1 (a0_0 : Int) (a0_1 : Int) (A0_2 : Option Addr) (c0_2 : Nat) (l0_2 : List Int) (A0_3 : Option Addr) (c0_3 : Nat) (l0_3 : List S72) (a0_4 : Int) (a0_5 : ByteArray) (A0_6 : Option Addr) (c0_6 : Nat) (l0_6 : List S74) (A1 : Option Addr) (c1 : Nat) (l1 : List S42) (a2 : Int) (a3 : ByteArray) (a4 : Int) (w : World) (hr0_2 : Kd.C (Kd.int .i64) w A0_2 l0_2.length l0_2) (hc0_2 : l0_2.length ≤ c0_2) (hr0_3 : Kd.C k72 w A0_3 l0_3.length l0_3) (hc0_3 : l0_3.length ≤ c0_3) (hr0_6 : Kd.C k74 w A0_6 l0_6.length l0_6) (hc0_6 : l0_6.length ≤ c0_6) (hr1 : Kd.C k42 w A1 l1.length l1) (hc1 : l1.length ≤ c1) (hs : pickFit l0_2 l0_3 a0_5 l0_6 l1) (h1 : (pickMayB a0_0 a0_1 l0_2 l0_3 a0_4 a0_5 l0_6 l1 a2 a3 && decide (0 ≤ a2 ∧ a2 ≤ 1099510579200)) = true) (y : S42) (hy : y ∈ l1) (hy0 : y.f0 = a4) (hy1 : y.f1 = 1) (hy2 : y.f2.toList = a3.toList) (hyl : liveX a2 y = true) :
  Calls Tryd.prog 4 #[.agg #[.int .i64 a0_0, .int .i64 a0_1, .slice A0_2 l0_2.length c0_2, .slice A0_3 l0_3.length c0_3, .int .i64 a0_4, .string a0_5, .slice A0_6 l0_6.length c0_6], .slice A1 l1.length c1, .int .i64 a2, .string a3, .int .i64 a4] w fun e w' => e = .returned (.bool true) ∧ Below w.heap.size w w' := by
 have Cw := am_ (fun W => pinfoldlaw18_awake.calls 20 true W pinfoldlaw18_DropOwn.aw)
 have Cn := am_ (fun x W => pinfoldlaw0_Num.calls x x W rfl)
 have Crg := fun l e (h : otherV (boundX a3 a2) a0_0 a0_1 l0_2 l0_3 a0_4 a0_5 l0_6 l1 a2 a3 a4 ⟨0, 0, a3, a2, (⟨#[]⟩ : ByteArray), false⟩ = (l, e)) W (hb : Below w.heap.size w W) => drop_Release.calls a0_0 a0_1 A0_2 c0_2 l0_2 A0_3 c0_3 l0_3 a0_4 a0_5 A0_6 c0_6 l0_6 A1 c1 l1 a2 a3 a4 l e W (c4_ hr0_2 hb) hc0_2 (c4_ hr0_3 hb) hc0_3 (c4_ hr0_6 hb) hc0_6 (c4_ hr1 hb) hc1 (by unfold drop_Release.f; rw [if_pos hs, h])
 have Cdg := fun l e (h : otherV (holdsX a3 a2) a0_0 a0_1 l0_2 l0_3 a0_4 a0_5 l0_6 l1 a2 a3 a4 ⟨0, 3, (⟨#[]⟩ : ByteArray), wrap64 (a2 + 64), (⟨#[]⟩ : ByteArray), false⟩ = (l, e)) W (hb : Below w.heap.size w W) => drop_Decline.calls a0_0 a0_1 A0_2 c0_2 l0_2 A0_3 c0_3 l0_3 a0_4 a0_5 A0_6 c0_6 l0_6 A1 c1 l1 a2 a3 a4 l e W (c4_ hr0_2 hb) hc0_2 (c4_ hr0_3 hb) hc0_3 (c4_ hr0_6 hb) hc0_6 (c4_ hr1 hb) hc1 (by unfold drop_Decline.f; rw [if_pos hs, h])
 have HR1 := am_ hr1
 have HB := am_ (Below.refl w.heap.size w)
 have BK := am_ (blk_new w (.cells #[.int .i64 a0_0, .int .i64 a0_1, .slice A0_2 l0_2.length c0_2, .slice A0_3 l0_3.length c0_3, .int .i64 a0_4, .string a0_5, .slice A0_6 l0_6.length c0_6] 26))
 have u0 := bc_ BK.out 0
 have u1 := bc_ BK.out 1
 have u2 := bc_ BK.out 2
 have u3 := bc_ BK.out 3
 have u4 := bc_ BK.out 4
 have u5 := bc_ BK.out 5
 have u6 := bc_ BK.out 6
 have h2 := h1
 rw [Bool.and_eq_true] at h2
 have hT : tableB l1 = true := by
  have h3 := h2.1
  unfold pickMayB at h3
  simp only [Bool.and_eq_true] at h3
  exact h3.2.1
 obtain ⟨hok, hsr, h8⟩ := table_sorted hT
 have htr := table_fitr hT
 obtain ⟨LA, hLA⟩ : ∃ l, swapL l1 a4 (thenL (boundX a3 a2) l1 a4 ⟨0, 0, a3, a2, (⟨#[]⟩ : ByteArray), false⟩) = l := ⟨_, rfl⟩
 obtain ⟨LD, hLD⟩ : ∃ l, swapL l1 a4 (thenL (holdsX a3 a2) l1 a4 ⟨0, 3, (⟨#[]⟩ : ByteArray), wrap64 (a2 + 64), (⟨#[]⟩ : ByteArray), false⟩) = l := ⟨_, rfl⟩
 have Cr := am_ (Crg LA 0 (by unfold otherV; rw [h1, if_pos rfl, hLA]))
 have Cd := am_ (Cdg LD 0 (by unfold otherV; rw [h1, if_pos rfl, hLD]))
 have hlA : LA.length = l1.length := by rw [← hLA]; unfold swapL; rw [List.length_map]
 have hlD : LD.length = l1.length := by rw [← hLD]; unfold swapL; rw [List.length_map]
 have HAt := am_ (fun i x (h0 : 0 ≤ i) (h1 : i < (l1.length : Int)) (hx : rd_T42 l1 i = x) => show rd_T42 LA i = (if x.f0 = a4 then (if boundX a3 a2 x = true then (⟨a4, 0, a3, a2, (⟨#[]⟩ : ByteArray), false⟩ : S42) else x) else x) from by rw [← hLA]; exact pinfoldlaw18_DropOwn.at_ l1 a4 (boundX a3 a2) ⟨0, 0, a3, a2, (⟨#[]⟩ : ByteArray), false⟩ x i hsr h0 h1 hx)
 have HDt := am_ (fun i x (h0 : 0 ≤ i) (h1 : i < (l1.length : Int)) (hx : rd_T42 l1 i = x) => show rd_T42 LD i = (if x.f0 = a4 then (if holdsX a3 a2 x = true then (⟨a4, 3, (⟨#[]⟩ : ByteArray), wrap64 (a2 + 64), (⟨#[]⟩ : ByteArray), false⟩ : S42) else x) else x) from by rw [← hLD]; exact pinfoldlaw18_DropOwn.at_ l1 a4 (holdsX a3 a2) ⟨0, 3, (⟨#[]⟩ : ByteArray), wrap64 (a2 + 64), (⟨#[]⟩ : ByteArray), false⟩ x i hsr h0 h1 hx)
 have HX := am_ htr.2
 have CLg := am_ (fun x0 x1 x2 x3 x4 x5 (hx : x4.size ≤ 8796093022000) b (e : liveB x0 x1 x2 x3 x4 x5 a2 = b) W => pinfoldref11_Live_c.calls x0 x1 x2 x3 x4 x5 a2 b W (by unfold pinfoldref11_Live_c.f; rw [if_pos hx, e]))
 have HY := am_ (fun (x : S42) (hx : x ∈ l1) (e : x.f0 = a4) => show x.f1 = 1 ∧ x.f2.toList = a3.toList ∧ liveX a2 x = true by rw [host_once hsr x hx y hy (by rw [e, hy0])]; exact ⟨hy1, hy2, hyl⟩)
 clear hy hy0 hy1 hy2 hyl
 clear Crg Cdg h1 h2 hT hok hsr htr hLA hLD hs hr0_2 hr0_3 hr0_6 hc0_2 hc0_3 hc0_6 hr1 hc1
 have hlA' := am_ hlA
 have hlD' := am_ hlD
 clear hlA hlD
 replace h8 := am_ h8
 go_enter Tryd.func4, Tryd.ntmps4
 go_wp2_with (first | (go_at_call 24; (with_reducible refine (Cw.out _).mono ?_); rintro e w1 ⟨rfl, hb2⟩; replace BK := am_ (kb_ (show _ from (by (with_reducible repeat (first | exact BK.out | refine k2_ ?_ _ | refine k3_ ?_ | refine k1_ ?_ _)))) hb2); replace HB := am_ (bt_ (show Below w.heap.size w _ from (by repeat (with_reducible first | exact HB.out | apply p3_ | apply p1_ | apply p2_))) hb2); clear hb2; clear u0 u1 u2 u3 u4 u5 u6; have u0 := bc_ BK.out 0; have u1 := bc_ BK.out 1; have u2 := bc_ BK.out 2; have u3 := bc_ BK.out 3; have u4 := bc_ BK.out 4; have u5 := bc_ BK.out 5; have u6 := bc_ BK.out 6) | (go_at_call 15; (with_reducible refine (Cr.out _ (by repeat (with_reducible first | exact HB.out | apply p3_ | apply p1_ | apply p2_))).mono ?_); rintro e w2 ⟨va, rfl, HA, hb2⟩; replace BK := am_ (kb_ (show _ from (by (with_reducible repeat (first | exact BK.out | refine k2_ ?_ _ | refine k3_ ?_ | refine k1_ ?_ _)))) hb2); replace HB := am_ (bt_ (show Below w.heap.size w _ from (by repeat (with_reducible first | exact HB.out | apply p3_ | apply p1_ | apply p2_))) hb2); clear hb2; obtain ⟨AA, ca, eA, hca, HA2⟩ := Kd.R_reads HA; rw [hlA'.out] at eA hca HA2; subst eA; replace HA2 := am_ HA2; clear HA; clear u0 u1 u2 u3 u4 u5 u6; have u0 := bc_ BK.out 0; have u1 := bc_ BK.out 1; have u2 := bc_ BK.out 2; have u3 := bc_ BK.out 3; have u4 := bc_ BK.out 4; have u5 := bc_ BK.out 5; have u6 := bc_ BK.out 6) | (go_at_call 17; (with_reducible refine (Cd.out _ (by repeat (with_reducible first | exact HB.out | apply p3_ | apply p1_ | apply p2_))).mono ?_); rintro e w3 ⟨vb, rfl, HD, hb2⟩; have HA3 := am_ (c4_ HA2.out hb2); replace BK := am_ (kb_ (show _ from (by (with_reducible repeat (first | exact BK.out | refine k2_ ?_ _ | refine k3_ ?_ | refine k1_ ?_ _)))) hb2); replace HB := am_ (bt_ (show Below w.heap.size w _ from (by repeat (with_reducible first | exact HB.out | apply p3_ | apply p1_ | apply p2_))) hb2); clear hb2; obtain ⟨AB, cb, eB, hcb, HD2⟩ := Kd.R_reads HD; rw [hlD'.out] at eB hcb HD2; subst eB; replace HD2 := am_ HD2; clear HD HA2; clear u0 u1 u2 u3 u4 u5 u6; have u0 := bc_ BK.out 0; have u1 := bc_ BK.out 1; have u2 := bc_ BK.out 2; have u3 := bc_ BK.out 3; have u4 := bc_ BK.out 4; have u5 := bc_ BK.out 5; have u6 := bc_ BK.out 6) | (go_at_call 20; (with_reducible refine (Cn.out _ _).mono ?_); rintro e wq ⟨rfl, ⟨nd, rfl⟩⟩))
 have HW := am_ (show Below w3.heap.size w3 _ from by repeat (with_reducible first | exact Below.refl _ _ | apply p1_ | apply p2_))
 clear u0 u1 u2 u3 u4 u5 u6 Cw Cr Cd Cn BK
 go_loopg [15] l1.length (fun d v w' => ∃ i : Int, 0 ≤ i ∧ i.toNat + d = l1.length ∧ v = .int .i64 i ∧ Aside0 (Below w3.heap.size w3 w'))
 case atStart => exact ⟨0, by omega, by simp, rfl, ⟨by repeat (with_reducible first | exact Below.refl _ _ | apply p1_ | apply p2_)⟩⟩
 case round =>
  clear HW
  obtain ⟨i, hi0, hd, rfl, HW⟩ := hrel
  by_cases hlt : i < (l1.length : Int)
  ·obtain ⟨ad, e1, hx⟩ := at_T42 (c4_ HR1.out HB.out) i hi0 hlt
   cases e1
   obtain ⟨ada, e1, ha⟩ := at_T42 HA3.out i hi0 hlt
   cases e1
   obtain ⟨adb, e1, hb⟩ := at_T42 HD2.out i hi0 hlt
   cases e1
   have hl8 := h8.out
   have hxa := HAt.out i _ hi0 hlt rfl
   have hxd := HDt.out i _ hi0 hlt rfl
   rw [hxa] at ha
   rw [hxd] at hb
   clear hxa hxd
   have hsz : (rd_T42 l1 i).f4.size ≤ 8796093022000 := HX.out _ (dropLease l1 i hi0 hlt).2
   have hxm := (dropLease l1 i hi0 hlt).2
   generalize rd_T42 l1 i = x at hx ha hb hsz hxm
   obtain ⟨x0, x1, x2, x3, x4, x5⟩ := x
   simp only at hx ha hb hsz
   obtain ⟨bl, hbl⟩ : ∃ b, liveB x0 x1 x2 x3 x4 x5 a2 = b := ⟨_, rfl⟩
   have CL := am_ (fun W => CLg.out x0 x1 x2 x3 x4 x5 hsz bl hbl W)
   have eho : holdsX a3 a2 ⟨x0, x1, x2, x3, x4, x5⟩ = (bl && (decide (x1 ≠ 3) && decide (x2.toList = a3.toList))) := by rw [← hbl]; rfl
   have ebo : boundX a3 a2 ⟨x0, x1, x2, x3, x4, x5⟩ = (holdsX a3 a2 ⟨x0, x1, x2, x3, x4, x5⟩ && decide (x1 = 2)) := rfl
   have hst : bl = true → x1 = 1 ∨ x1 = 2 ∨ x1 = 3 := by
    intro e
    have e2 := hbl.trans e
    unfold liveB leaseB stateB at e2
    simp only [Bool.and_eq_true, decide_eq_true_eq] at e2
    obtain ⟨⟨⟨⟨⟨⟨_, h⟩, _⟩, _⟩, _⟩, h0⟩, _⟩ := e2
    by_cases q0 : x1 = 0 ∨ x1 = 3
    ·omega
    rw [if_neg q0] at h
    by_cases q1 : x1 = 1
    ·omega
    rw [if_neg q1] at h
    by_cases q2 : x1 = 2
    ·omega
    rw [if_neg q2] at h
    cases h
   have CZ := am_ (fun W => CLg.out a4 0 a3 a2 (⟨#[]⟩ : ByteArray) false (by decide) false (by unfold liveB; rw [show decide ((0 : Int) ≠ 0) = false from rfl, Bool.and_false, Bool.false_and]) W)
   have M1 := am_ (show 0 ≤ i + 1 by omega)
   have M2 := am_ (show (i + 1).toNat + (l1.length - (i.toNat + 1)) = l1.length by omega)
   have M3 := am_ (show l1.length - (i.toNat + 1) < gk by omega)
   have M4 := am_ (show IntKind.i64.wrap (i + 1) = i + 1 from (i64_w _).trans (by unfold wrap64; omega))
   have clt := decide_eq_true hlt
   have cle := decide_eq_true hi0
   have plt := eq_true hlt
   have ple := eq_true hi0
   have GX := am_ hx
   have hbl0 : liveX a2 ⟨x0, x1, x2, x3, x4, x5⟩ = bl := hbl
   clear hx hbl hsz hd hl8
   replace hi0 := am_ hi0
   clear hlt
   by_cases q0 : x0 = a4
   rotate_left
   ·rw [if_neg q0] at ha hb
    have GA := am_ ha
    have GD := am_ hb
    have c0 : (x0 == a4) = false := by simpa using q0
    clear ha hb q0 eho ebo hst CZ
    have y0 := (HW.out.cell (wb_ w3 _ GX.out.1)).trans GX.out.1; have y1 := (HW.out.cell (wb_ w3 _ GX.out.2.1)).trans GX.out.2.1; have y2 := (HW.out.cell (wb_ w3 _ GX.out.2.2.1)).trans GX.out.2.2.1; have y3 := (HW.out.cell (wb_ w3 _ GX.out.2.2.2.1)).trans GX.out.2.2.2.1; have y4 := (HW.out.cell (wb_ w3 _ GX.out.2.2.2.2.1)).trans GX.out.2.2.2.2.1; have y5 := (HW.out.cell (wb_ w3 _ GX.out.2.2.2.2.2)).trans GX.out.2.2.2.2.2; have z0 := (HW.out.cell (wb_ w3 _ GA.out.1)).trans GA.out.1; have z1 := (HW.out.cell (wb_ w3 _ GA.out.2.1)).trans GA.out.2.1; have z2 := (HW.out.cell (wb_ w3 _ GA.out.2.2.1)).trans GA.out.2.2.1; have z3 := (HW.out.cell (wb_ w3 _ GA.out.2.2.2.1)).trans GA.out.2.2.2.1; have z4 := (HW.out.cell (wb_ w3 _ GA.out.2.2.2.2.1)).trans GA.out.2.2.2.2.1; have z5 := (HW.out.cell (wb_ w3 _ GA.out.2.2.2.2.2)).trans GA.out.2.2.2.2.2; have t0 := (HW.out.cell (wb_ w3 _ GD.out.1)).trans GD.out.1; have t1 := (HW.out.cell (wb_ w3 _ GD.out.2.1)).trans GD.out.2.1; have t2 := (HW.out.cell (wb_ w3 _ GD.out.2.2.1)).trans GD.out.2.2.1; have t3 := (HW.out.cell (wb_ w3 _ GD.out.2.2.2.1)).trans GD.out.2.2.2.1; have t4 := (HW.out.cell (wb_ w3 _ GD.out.2.2.2.2.1)).trans GD.out.2.2.2.2.1; have t5 := (HW.out.cell (wb_ w3 _ GD.out.2.2.2.2.2)).trans GD.out.2.2.2.2.2
    go_wp2_with (first | (go_at_call 25; (with_reducible refine (CL.out _).mono ?_); rintro e w6 ⟨rfl, hb2⟩; replace HW := am_ (bt_ HW.out hb2); clear hb2 y0 y1 y2 y3 y4 y5 z0 z1 z2 z3 z4 z5 t0 t1 t2 t3 t4 t5; have y0 := (HW.out.cell (wb_ w3 _ GX.out.1)).trans GX.out.1; have y1 := (HW.out.cell (wb_ w3 _ GX.out.2.1)).trans GX.out.2.1; have y2 := (HW.out.cell (wb_ w3 _ GX.out.2.2.1)).trans GX.out.2.2.1; have y3 := (HW.out.cell (wb_ w3 _ GX.out.2.2.2.1)).trans GX.out.2.2.2.1; have y4 := (HW.out.cell (wb_ w3 _ GX.out.2.2.2.2.1)).trans GX.out.2.2.2.2.1; have y5 := (HW.out.cell (wb_ w3 _ GX.out.2.2.2.2.2)).trans GX.out.2.2.2.2.2; have z0 := (HW.out.cell (wb_ w3 _ GA.out.1)).trans GA.out.1; have z1 := (HW.out.cell (wb_ w3 _ GA.out.2.1)).trans GA.out.2.1; have z2 := (HW.out.cell (wb_ w3 _ GA.out.2.2.1)).trans GA.out.2.2.1; have z3 := (HW.out.cell (wb_ w3 _ GA.out.2.2.2.1)).trans GA.out.2.2.2.1; have z4 := (HW.out.cell (wb_ w3 _ GA.out.2.2.2.2.1)).trans GA.out.2.2.2.2.1; have z5 := (HW.out.cell (wb_ w3 _ GA.out.2.2.2.2.2)).trans GA.out.2.2.2.2.2; have t0 := (HW.out.cell (wb_ w3 _ GD.out.1)).trans GD.out.1; have t1 := (HW.out.cell (wb_ w3 _ GD.out.2.1)).trans GD.out.2.1; have t2 := (HW.out.cell (wb_ w3 _ GD.out.2.2.1)).trans GD.out.2.2.1; have t3 := (HW.out.cell (wb_ w3 _ GD.out.2.2.2.1)).trans GD.out.2.2.2.1; have t4 := (HW.out.cell (wb_ w3 _ GD.out.2.2.2.2.1)).trans GD.out.2.2.2.2.1; have t5 := (HW.out.cell (wb_ w3 _ GD.out.2.2.2.2.2)).trans GD.out.2.2.2.2.2))
    have HW1 := am_ (below_drew HW.out)
    refine seqS (S := pinfoldlaw18_DropOwn.S (ad.add (i.toNat * 6)) (ada.add (i.toNat * 6)) (adb.add (i.toNat * 6)) x0 x1 x2 x3 x4 x5 x0 x1 x2 x3 x4 x5 x0 x1 x2 x3 x4 x5) 65 (by kernel_rfl) rfl rfl (by unfold pinfoldlaw18_DropOwn.S; exact ⟨(HW1.out.cell (wb_ w3 _ GX.out.1)).trans GX.out.1, (HW1.out.cell (wb_ w3 _ GX.out.2.1)).trans GX.out.2.1, (HW1.out.cell (wb_ w3 _ GX.out.2.2.1)).trans GX.out.2.2.1, (HW1.out.cell (wb_ w3 _ GX.out.2.2.2.1)).trans GX.out.2.2.2.1, (HW1.out.cell (wb_ w3 _ GX.out.2.2.2.2.1)).trans GX.out.2.2.2.2.1, (HW1.out.cell (wb_ w3 _ GX.out.2.2.2.2.2)).trans GX.out.2.2.2.2.2, (HW1.out.cell (wb_ w3 _ GA.out.1)).trans GA.out.1, (HW1.out.cell (wb_ w3 _ GA.out.2.1)).trans GA.out.2.1, (HW1.out.cell (wb_ w3 _ GA.out.2.2.1)).trans GA.out.2.2.1, (HW1.out.cell (wb_ w3 _ GA.out.2.2.2.1)).trans GA.out.2.2.2.1, (HW1.out.cell (wb_ w3 _ GA.out.2.2.2.2.1)).trans GA.out.2.2.2.2.1, (HW1.out.cell (wb_ w3 _ GA.out.2.2.2.2.2)).trans GA.out.2.2.2.2.2, (HW1.out.cell (wb_ w3 _ GD.out.1)).trans GD.out.1, (HW1.out.cell (wb_ w3 _ GD.out.2.1)).trans GD.out.2.1, (HW1.out.cell (wb_ w3 _ GD.out.2.2.1)).trans GD.out.2.2.1, (HW1.out.cell (wb_ w3 _ GD.out.2.2.2.1)).trans GD.out.2.2.2.1, (HW1.out.cell (wb_ w3 _ GD.out.2.2.2.2.1)).trans GD.out.2.2.2.2.1, (HW1.out.cell (wb_ w3 _ GD.out.2.2.2.2.2)).trans GD.out.2.2.2.2.2⟩) ?_
    intro hHeld
    refine with_tabW pinfoldlaw18_DropOwn.tab13 pinfoldlaw18_DropOwn.bits13 (fun HT_ HW_ => ?_)
    clear HW y0 y1 y2 y3 y4 y5 z0 z1 z2 z3 z4 z5 t0 t1 t2 t3 t4 t5
    iterate 27 first | (refine seqPT HT_ (v := ?_) (a' := ?_) rfl rfl (by kernel_rfl) (fun _ _ _ h => h) (Or.inl ⟨by kernel_rfl, ?_⟩) ?_ ?_; rotate_left; (intro w'; go_simp; with_reducible rfl); rotate_left; (simp only [Act.put, sa_, sb_, sc_, i64_w, i32_w]; rfl)) | (refine seqLT HT_ HW_ (v := ?_) (a' := ?_) rfl rfl (by kernel_rfl) (fun _ _ _ h => h) (Or.inl ⟨by kernel_rfl, ?_⟩) hHeld ?_ ?_; rotate_left; (rintro w' ⟨s0, s1, s2, s3, s4, s5, s6, s7, s8, s9, s10, s11, s12, s13, s14, s15, s16, s17⟩; go_simp; with_reducible rfl); rotate_left; (simp only [Act.put, sa_, sb_, sc_, i64_w, i32_w]; rfl))
    iterate 6 (refine seqPT HT_ (v := undef) (a' := ?_) rfl rfl (by kernel_rfl) (fun _ _ _ h => h) (Or.inr ⟨by kernel_rfl, rfl⟩) ?_ ?_; rotate_left; (simp only [Act.put, sa_, sb_, sc_, i64_w, i32_w]; rfl))
    iterate 2 first | (refine seqPT HT_ (v := ?_) (a' := ?_) rfl rfl (by kernel_rfl) (fun _ _ _ h => h) (Or.inl ⟨by kernel_rfl, ?_⟩) ?_ ?_; rotate_left; (intro w'; go_simp; with_reducible rfl); rotate_left; (simp only [Act.put, sa_, sb_, sc_, i64_w, i32_w]; rfl)) | (refine seqLT HT_ HW_ (v := ?_) (a' := ?_) rfl rfl (by kernel_rfl) (fun _ _ _ h => h) (Or.inl ⟨by kernel_rfl, ?_⟩) hHeld ?_ ?_; rotate_left; (rintro w' ⟨s0, s1, s2, s3, s4, s5, s6, s7, s8, s9, s10, s11, s12, s13, s14, s15, s16, s17⟩; go_simp; with_reducible rfl); rotate_left; (simp only [Act.put, sa_, sb_, sc_, i64_w, i32_w]; rfl))
    iterate 9 (refine seqPT HT_ (v := undef) (a' := ?_) rfl rfl (by kernel_rfl) (fun _ _ _ h => h) (Or.inr ⟨by kernel_rfl, rfl⟩) ?_ ?_; rotate_left; (simp only [Act.put, sa_, sb_, sc_, i64_w, i32_w]; rfl))
    iterate 13 first | (refine seqPT HT_ (v := ?_) (a' := ?_) rfl rfl (by kernel_rfl) (fun _ _ _ h => h) (Or.inl ⟨by kernel_rfl, ?_⟩) ?_ ?_; rotate_left; (intro w'; go_simp; with_reducible rfl); rotate_left; (simp only [Act.put, sa_, sb_, sc_, i64_w, i32_w]; rfl)) | (refine seqLT HT_ HW_ (v := ?_) (a' := ?_) rfl rfl (by kernel_rfl) (fun _ _ _ h => h) (Or.inl ⟨by kernel_rfl, ?_⟩) hHeld ?_ ?_; rotate_left; (rintro w' ⟨s0, s1, s2, s3, s4, s5, s6, s7, s8, s9, s10, s11, s12, s13, s14, s15, s16, s17⟩; go_simp; with_reducible rfl); rotate_left; (simp only [Act.put, sa_, sb_, sc_, i64_w, i32_w]; rfl))
    iterate 6 (refine seqPT HT_ (v := undef) (a' := ?_) rfl rfl (by kernel_rfl) (fun _ _ _ h => h) (Or.inr ⟨by kernel_rfl, rfl⟩) ?_ ?_; rotate_left; (simp only [Act.put, sa_, sb_, sc_, i64_w, i32_w]; rfl))
    iterate 2 first | (refine seqPT HT_ (v := ?_) (a' := ?_) rfl rfl (by kernel_rfl) (fun _ _ _ h => h) (Or.inl ⟨by kernel_rfl, ?_⟩) ?_ ?_; rotate_left; (intro w'; go_simp; with_reducible rfl); rotate_left; (simp only [Act.put, sa_, sb_, sc_, i64_w, i32_w]; rfl)) | (refine seqLT HT_ HW_ (v := ?_) (a' := ?_) rfl rfl (by kernel_rfl) (fun _ _ _ h => h) (Or.inl ⟨by kernel_rfl, ?_⟩) hHeld ?_ ?_; rotate_left; (rintro w' ⟨s0, s1, s2, s3, s4, s5, s6, s7, s8, s9, s10, s11, s12, s13, s14, s15, s16, s17⟩; go_simp; with_reducible rfl); rotate_left; (simp only [Act.put, sa_, sb_, sc_, i64_w, i32_w]; rfl))
    refine seqET HT_ (by kernel_rfl) ?_
    go_wp2
    go_roundg (l1.length - (i.toNat + 1))
    case measure => exact M3.out
    case rel => exact ⟨i + 1, M1.out, M2.out, by first | rfl | (rw [show wrap64 (i + 1) = i + 1 from (i64_w _).symm.trans M4.out]), HW1⟩
   subst q0
   obtain ⟨e, q2, hb1⟩ := HY.out _ hxm rfl
   simp only at e q2
   have hb1' : bl = true := hbl0.symm.trans hb1
   subst hb1'
   rw [if_pos rfl] at ha hb
   have c0 : (x0 == x0) = true := by simp
   have c2 : (x2.toList == a3.toList) = true := by simpa using q2
   rw [decide_eq_true q2, Bool.and_true] at eho
   clear q2
   rw [Bool.true_and] at eho
   subst e
   rw [show decide ((1 : Int) ≠ 3) = true from rfl] at eho
   rw [eho, show decide ((1 : Int) = 2) = false from rfl, Bool.and_false] at ebo
   rw [ebo, if_neg (by decide)] at ha
   rw [eho, if_pos rfl] at hb
   have GA := am_ ha
   have GD := am_ hb
   clear ha hb eho ebo hst CZ
   have y0 := (HW.out.cell (wb_ w3 _ GX.out.1)).trans GX.out.1; have y1 := (HW.out.cell (wb_ w3 _ GX.out.2.1)).trans GX.out.2.1; have y2 := (HW.out.cell (wb_ w3 _ GX.out.2.2.1)).trans GX.out.2.2.1; have y3 := (HW.out.cell (wb_ w3 _ GX.out.2.2.2.1)).trans GX.out.2.2.2.1; have y4 := (HW.out.cell (wb_ w3 _ GX.out.2.2.2.2.1)).trans GX.out.2.2.2.2.1; have y5 := (HW.out.cell (wb_ w3 _ GX.out.2.2.2.2.2)).trans GX.out.2.2.2.2.2; have z0 := (HW.out.cell (wb_ w3 _ GA.out.1)).trans GA.out.1; have z1 := (HW.out.cell (wb_ w3 _ GA.out.2.1)).trans GA.out.2.1; have z2 := (HW.out.cell (wb_ w3 _ GA.out.2.2.1)).trans GA.out.2.2.1; have z3 := (HW.out.cell (wb_ w3 _ GA.out.2.2.2.1)).trans GA.out.2.2.2.1; have z4 := (HW.out.cell (wb_ w3 _ GA.out.2.2.2.2.1)).trans GA.out.2.2.2.2.1; have z5 := (HW.out.cell (wb_ w3 _ GA.out.2.2.2.2.2)).trans GA.out.2.2.2.2.2; have t0 := (HW.out.cell (wb_ w3 _ GD.out.1)).trans GD.out.1; have t1 := (HW.out.cell (wb_ w3 _ GD.out.2.1)).trans GD.out.2.1; have t2 := (HW.out.cell (wb_ w3 _ GD.out.2.2.1)).trans GD.out.2.2.1; have t3 := (HW.out.cell (wb_ w3 _ GD.out.2.2.2.1)).trans GD.out.2.2.2.1; have t4 := (HW.out.cell (wb_ w3 _ GD.out.2.2.2.2.1)).trans GD.out.2.2.2.2.1; have t5 := (HW.out.cell (wb_ w3 _ GD.out.2.2.2.2.2)).trans GD.out.2.2.2.2.2
   go_wp2_with (first | (go_at_call 25; (with_reducible refine (CL.out _).mono ?_); rintro e w6 ⟨rfl, hb2⟩; replace HW := am_ (bt_ HW.out hb2); clear hb2 y0 y1 y2 y3 y4 y5 z0 z1 z2 z3 z4 z5 t0 t1 t2 t3 t4 t5; have y0 := (HW.out.cell (wb_ w3 _ GX.out.1)).trans GX.out.1; have y1 := (HW.out.cell (wb_ w3 _ GX.out.2.1)).trans GX.out.2.1; have y2 := (HW.out.cell (wb_ w3 _ GX.out.2.2.1)).trans GX.out.2.2.1; have y3 := (HW.out.cell (wb_ w3 _ GX.out.2.2.2.1)).trans GX.out.2.2.2.1; have y4 := (HW.out.cell (wb_ w3 _ GX.out.2.2.2.2.1)).trans GX.out.2.2.2.2.1; have y5 := (HW.out.cell (wb_ w3 _ GX.out.2.2.2.2.2)).trans GX.out.2.2.2.2.2; have z0 := (HW.out.cell (wb_ w3 _ GA.out.1)).trans GA.out.1; have z1 := (HW.out.cell (wb_ w3 _ GA.out.2.1)).trans GA.out.2.1; have z2 := (HW.out.cell (wb_ w3 _ GA.out.2.2.1)).trans GA.out.2.2.1; have z3 := (HW.out.cell (wb_ w3 _ GA.out.2.2.2.1)).trans GA.out.2.2.2.1; have z4 := (HW.out.cell (wb_ w3 _ GA.out.2.2.2.2.1)).trans GA.out.2.2.2.2.1; have z5 := (HW.out.cell (wb_ w3 _ GA.out.2.2.2.2.2)).trans GA.out.2.2.2.2.2; have t0 := (HW.out.cell (wb_ w3 _ GD.out.1)).trans GD.out.1; have t1 := (HW.out.cell (wb_ w3 _ GD.out.2.1)).trans GD.out.2.1; have t2 := (HW.out.cell (wb_ w3 _ GD.out.2.2.1)).trans GD.out.2.2.1; have t3 := (HW.out.cell (wb_ w3 _ GD.out.2.2.2.1)).trans GD.out.2.2.2.1; have t4 := (HW.out.cell (wb_ w3 _ GD.out.2.2.2.2.1)).trans GD.out.2.2.2.2.1; have t5 := (HW.out.cell (wb_ w3 _ GD.out.2.2.2.2.2)).trans GD.out.2.2.2.2.2))
   have HW1 := am_ (below_drew HW.out)
   refine seqS (S := pinfoldlaw18_DropOwn.S (ad.add (i.toNat * 6)) (ada.add (i.toNat * 6)) (adb.add (i.toNat * 6)) x0 1 x2 x3 x4 x5 x0 1 x2 x3 x4 x5 x0 3 (⟨#[]⟩ : ByteArray) (wrap64 (a2 + 64)) (⟨#[]⟩ : ByteArray) false) 65 (by kernel_rfl) rfl rfl (by unfold pinfoldlaw18_DropOwn.S; exact ⟨(HW1.out.cell (wb_ w3 _ GX.out.1)).trans GX.out.1, (HW1.out.cell (wb_ w3 _ GX.out.2.1)).trans GX.out.2.1, (HW1.out.cell (wb_ w3 _ GX.out.2.2.1)).trans GX.out.2.2.1, (HW1.out.cell (wb_ w3 _ GX.out.2.2.2.1)).trans GX.out.2.2.2.1, (HW1.out.cell (wb_ w3 _ GX.out.2.2.2.2.1)).trans GX.out.2.2.2.2.1, (HW1.out.cell (wb_ w3 _ GX.out.2.2.2.2.2)).trans GX.out.2.2.2.2.2, (HW1.out.cell (wb_ w3 _ GA.out.1)).trans GA.out.1, (HW1.out.cell (wb_ w3 _ GA.out.2.1)).trans GA.out.2.1, (HW1.out.cell (wb_ w3 _ GA.out.2.2.1)).trans GA.out.2.2.1, (HW1.out.cell (wb_ w3 _ GA.out.2.2.2.1)).trans GA.out.2.2.2.1, (HW1.out.cell (wb_ w3 _ GA.out.2.2.2.2.1)).trans GA.out.2.2.2.2.1, (HW1.out.cell (wb_ w3 _ GA.out.2.2.2.2.2)).trans GA.out.2.2.2.2.2, (HW1.out.cell (wb_ w3 _ GD.out.1)).trans GD.out.1, (HW1.out.cell (wb_ w3 _ GD.out.2.1)).trans GD.out.2.1, (HW1.out.cell (wb_ w3 _ GD.out.2.2.1)).trans GD.out.2.2.1, (HW1.out.cell (wb_ w3 _ GD.out.2.2.2.1)).trans GD.out.2.2.2.1, (HW1.out.cell (wb_ w3 _ GD.out.2.2.2.2.1)).trans GD.out.2.2.2.2.1, (HW1.out.cell (wb_ w3 _ GD.out.2.2.2.2.2)).trans GD.out.2.2.2.2.2⟩) ?_
   intro hHeld
   refine with_tabW pinfoldlaw18_DropOwn.tab13 pinfoldlaw18_DropOwn.bits13 (fun HT_ HW_ => ?_)
   clear HW y0 y1 y2 y3 y4 y5 z0 z1 z2 z3 z4 z5 t0 t1 t2 t3 t4 t5
   iterate 3 first | (refine seqPT HT_ (v := ?_) (a' := ?_) rfl rfl (by kernel_rfl) (fun _ _ _ h => h) (Or.inl ⟨by kernel_rfl, ?_⟩) ?_ ?_; rotate_left; (intro w'; go_simp; with_reducible rfl); rotate_left; (simp only [Act.put, sa_, sb_, sc_, i64_w, i32_w]; rfl)) | (refine seqLT HT_ HW_ (v := ?_) (a' := ?_) rfl rfl (by kernel_rfl) (fun _ _ _ h => h) (Or.inl ⟨by kernel_rfl, ?_⟩) hHeld ?_ ?_; rotate_left; (rintro w' ⟨s0, s1, s2, s3, s4, s5, s6, s7, s8, s9, s10, s11, s12, s13, s14, s15, s16, s17⟩; go_simp; with_reducible rfl); rotate_left; (simp only [Act.put, sa_, sb_, sc_, i64_w, i32_w]; rfl))
   iterate 20 (refine seqPT HT_ (v := undef) (a' := ?_) rfl rfl (by kernel_rfl) (fun _ _ _ h => h) (Or.inr ⟨by kernel_rfl, rfl⟩) ?_ ?_; rotate_left; (simp only [Act.put, sa_, sb_, sc_, i64_w, i32_w]; rfl))
   iterate 9 first | (refine seqPT HT_ (v := ?_) (a' := ?_) rfl rfl (by kernel_rfl) (fun _ _ _ h => h) (Or.inl ⟨by kernel_rfl, ?_⟩) ?_ ?_; rotate_left; (intro w'; go_simp; with_reducible rfl); rotate_left; (simp only [Act.put, sa_, sb_, sc_, i64_w, i32_w]; rfl)) | (refine seqLT HT_ HW_ (v := ?_) (a' := ?_) rfl rfl (by kernel_rfl) (fun _ _ _ h => h) (Or.inl ⟨by kernel_rfl, ?_⟩) hHeld ?_ ?_; rotate_left; (rintro w' ⟨s0, s1, s2, s3, s4, s5, s6, s7, s8, s9, s10, s11, s12, s13, s14, s15, s16, s17⟩; go_simp; with_reducible rfl); rotate_left; (simp only [Act.put, sa_, sb_, sc_, i64_w, i32_w]; rfl))
   refine seqGT HT_ (fn := Tryd.f25) rfl rfl (by kernel_rfl) rfl Tryd.func25 (by kernel_rfl) (by kernel_rfl) #[.agg #[.int .i64 x0, .int .i64 1, .string x2, .int .i64 x3, .string x4, .bool x5], .int .i64 a2] (by kernel_rfl) (by (try simp only [List.map_toArray, List.map_cons, List.map_nil]); first | done | rfl) ?_
   with_reducible refine (CL.out _).mono ?_
   rintro e wg ⟨rfl, hb2⟩
   have HW2 := am_ (bt_ HW1.out hb2)
   refine ⟨_, rfl, pinfoldlaw18_DropOwn.S_below hHeld hb2, fun hHeld => ⟨?_, ?_, ?_⟩⟩
   rotate_left
   ·simp only [Act.put, sa_, sb_, sc_, i64_w, i32_w]
    rfl
   clear hb2 HW1
   iterate 2 first | (refine seqPT HT_ (v := ?_) (a' := ?_) rfl rfl (by kernel_rfl) (fun _ _ _ h => h) (Or.inl ⟨by kernel_rfl, ?_⟩) ?_ ?_; rotate_left; (intro w'; go_simp; with_reducible rfl); rotate_left; (simp only [Act.put, sa_, sb_, sc_, i64_w, i32_w]; rfl)) | (refine seqLT HT_ HW_ (v := ?_) (a' := ?_) rfl rfl (by kernel_rfl) (fun _ _ _ h => h) (Or.inl ⟨by kernel_rfl, ?_⟩) hHeld ?_ ?_; rotate_left; (rintro w' ⟨s0, s1, s2, s3, s4, s5, s6, s7, s8, s9, s10, s11, s12, s13, s14, s15, s16, s17⟩; go_simp; with_reducible rfl); rotate_left; (simp only [Act.put, sa_, sb_, sc_, i64_w, i32_w]; rfl))
   iterate 9 first | (refine seqPT HT_ (v := ?_) (a' := ?_) rfl rfl (by kernel_rfl) (fun _ _ _ h => h) (Or.inl ⟨by kernel_rfl, ?_⟩) ?_ ?_; rotate_left; (intro w'; go_simp; with_reducible rfl); rotate_left; (simp only [Act.put, sa_, sb_, sc_, i64_w, i32_w]; rfl)) | (refine seqLT HT_ HW_ (v := ?_) (a' := ?_) rfl rfl (by kernel_rfl) (fun _ _ _ h => h) (Or.inl ⟨by kernel_rfl, ?_⟩) hHeld ?_ ?_; rotate_left; (rintro w' ⟨s0, s1, s2, s3, s4, s5, s6, s7, s8, s9, s10, s11, s12, s13, s14, s15, s16, s17⟩; go_simp; with_reducible rfl); rotate_left; (simp only [Act.put, sa_, sb_, sc_, i64_w, i32_w]; rfl))
   iterate 13 first | (refine seqPT HT_ (v := ?_) (a' := ?_) rfl rfl (by kernel_rfl) (fun _ _ _ h => h) (Or.inl ⟨by kernel_rfl, ?_⟩) ?_ ?_; rotate_left; (intro w'; go_simp; with_reducible rfl); rotate_left; (simp only [Act.put, sa_, sb_, sc_, i64_w, i32_w]; rfl)) | (refine seqLT HT_ HW_ (v := ?_) (a' := ?_) rfl rfl (by kernel_rfl) (fun _ _ _ h => h) (Or.inl ⟨by kernel_rfl, ?_⟩) hHeld ?_ ?_; rotate_left; (rintro w' ⟨s0, s1, s2, s3, s4, s5, s6, s7, s8, s9, s10, s11, s12, s13, s14, s15, s16, s17⟩; go_simp; with_reducible rfl); rotate_left; (simp only [Act.put, sa_, sb_, sc_, i64_w, i32_w]; rfl))
   iterate 6 first | (refine seqPT HT_ (v := ?_) (a' := ?_) rfl rfl (by kernel_rfl) (fun _ _ _ h => h) (Or.inl ⟨by kernel_rfl, ?_⟩) ?_ ?_; rotate_left; (intro w'; go_simp; with_reducible rfl); rotate_left; (simp only [Act.put, sa_, sb_, sc_, i64_w, i32_w]; rfl)) | (refine seqLT HT_ HW_ (v := ?_) (a' := ?_) rfl rfl (by kernel_rfl) (fun _ _ _ h => h) (Or.inl ⟨by kernel_rfl, ?_⟩) hHeld ?_ ?_; rotate_left; (rintro w' ⟨s0, s1, s2, s3, s4, s5, s6, s7, s8, s9, s10, s11, s12, s13, s14, s15, s16, s17⟩; go_simp; with_reducible rfl); rotate_left; (simp only [Act.put, sa_, sb_, sc_, i64_w, i32_w]; rfl))
   iterate 2 first | (refine seqPT HT_ (v := ?_) (a' := ?_) rfl rfl (by kernel_rfl) (fun _ _ _ h => h) (Or.inl ⟨by kernel_rfl, ?_⟩) ?_ ?_; rotate_left; (intro w'; go_simp; with_reducible rfl); rotate_left; (simp only [Act.put, sa_, sb_, sc_, i64_w, i32_w]; rfl)) | (refine seqLT HT_ HW_ (v := ?_) (a' := ?_) rfl rfl (by kernel_rfl) (fun _ _ _ h => h) (Or.inl ⟨by kernel_rfl, ?_⟩) hHeld ?_ ?_; rotate_left; (rintro w' ⟨s0, s1, s2, s3, s4, s5, s6, s7, s8, s9, s10, s11, s12, s13, s14, s15, s16, s17⟩; go_simp; with_reducible rfl); rotate_left; (simp only [Act.put, sa_, sb_, sc_, i64_w, i32_w]; rfl))
   refine seqET HT_ (by kernel_rfl) ?_
   go_wp2
   go_roundg (l1.length - (i.toNat + 1))
   case measure => exact M3.out
   case rel => exact ⟨i + 1, M1.out, M2.out, by first | rfl | (rw [show wrap64 (i + 1) = i + 1 from (i64_w _).symm.trans M4.out]), HW2⟩
  ·go_wp2
   go_ret
   exact ⟨rfl, bt_ HB.out HW.out⟩
set_option maxHeartbeats 8000000 in
set_option maxRecDepth 100000 in
theorem pinfoldlaw18_DropOwn.calls_2 (a0_0 : Int) (a0_1 : Int) (A0_2 : Option Addr) (c0_2 : Nat) (l0_2 : List Int) (A0_3 : Option Addr) (c0_3 : Nat) (l0_3 : List S72) (a0_4 : Int) (a0_5 : ByteArray) (A0_6 : Option Addr) (c0_6 : Nat) (l0_6 : List S74) (A1 : Option Addr) (c1 : Nat) (l1 : List S42) (a2 : Int) (a3 : ByteArray) (a4 : Int) (w : World) (hr0_2 : Kd.C (Kd.int .i64) w A0_2 l0_2.length l0_2) (hc0_2 : l0_2.length ≤ c0_2) (hr0_3 : Kd.C k72 w A0_3 l0_3.length l0_3) (hc0_3 : l0_3.length ≤ c0_3) (hr0_6 : Kd.C k74 w A0_6 l0_6.length l0_6) (hc0_6 : l0_6.length ≤ c0_6) (hr1 : Kd.C k42 w A1 l1.length l1) (hc1 : l1.length ≤ c1) (hs : pickFit l0_2 l0_3 a0_5 l0_6 l1) (h1 : (pickMayB a0_0 a0_1 l0_2 l0_3 a0_4 a0_5 l0_6 l1 a2 a3 && decide (0 ≤ a2 ∧ a2 ≤ 1099510579200)) = true) (y : S42) (hy : y ∈ l1) (hy0 : y.f0 = a4) (hy1 : y.f1 = 2) (hy2 : y.f2.toList = a3.toList) (hyl : liveX a2 y = true) :
  Calls Tryd.prog 4 #[.agg #[.int .i64 a0_0, .int .i64 a0_1, .slice A0_2 l0_2.length c0_2, .slice A0_3 l0_3.length c0_3, .int .i64 a0_4, .string a0_5, .slice A0_6 l0_6.length c0_6], .slice A1 l1.length c1, .int .i64 a2, .string a3, .int .i64 a4] w fun e w' => e = .returned (.bool true) ∧ Below w.heap.size w w' := by
 have Cw := am_ (fun W => pinfoldlaw18_awake.calls 20 true W pinfoldlaw18_DropOwn.aw)
 have Cn := am_ (fun x W => pinfoldlaw0_Num.calls x x W rfl)
 have Crg := fun l e (h : otherV (boundX a3 a2) a0_0 a0_1 l0_2 l0_3 a0_4 a0_5 l0_6 l1 a2 a3 a4 ⟨0, 0, a3, a2, (⟨#[]⟩ : ByteArray), false⟩ = (l, e)) W (hb : Below w.heap.size w W) => drop_Release.calls a0_0 a0_1 A0_2 c0_2 l0_2 A0_3 c0_3 l0_3 a0_4 a0_5 A0_6 c0_6 l0_6 A1 c1 l1 a2 a3 a4 l e W (c4_ hr0_2 hb) hc0_2 (c4_ hr0_3 hb) hc0_3 (c4_ hr0_6 hb) hc0_6 (c4_ hr1 hb) hc1 (by unfold drop_Release.f; rw [if_pos hs, h])
 have Cdg := fun l e (h : otherV (holdsX a3 a2) a0_0 a0_1 l0_2 l0_3 a0_4 a0_5 l0_6 l1 a2 a3 a4 ⟨0, 3, (⟨#[]⟩ : ByteArray), wrap64 (a2 + 64), (⟨#[]⟩ : ByteArray), false⟩ = (l, e)) W (hb : Below w.heap.size w W) => drop_Decline.calls a0_0 a0_1 A0_2 c0_2 l0_2 A0_3 c0_3 l0_3 a0_4 a0_5 A0_6 c0_6 l0_6 A1 c1 l1 a2 a3 a4 l e W (c4_ hr0_2 hb) hc0_2 (c4_ hr0_3 hb) hc0_3 (c4_ hr0_6 hb) hc0_6 (c4_ hr1 hb) hc1 (by unfold drop_Decline.f; rw [if_pos hs, h])
 have HR1 := am_ hr1
 have HB := am_ (Below.refl w.heap.size w)
 have BK := am_ (blk_new w (.cells #[.int .i64 a0_0, .int .i64 a0_1, .slice A0_2 l0_2.length c0_2, .slice A0_3 l0_3.length c0_3, .int .i64 a0_4, .string a0_5, .slice A0_6 l0_6.length c0_6] 26))
 have u0 := bc_ BK.out 0
 have u1 := bc_ BK.out 1
 have u2 := bc_ BK.out 2
 have u3 := bc_ BK.out 3
 have u4 := bc_ BK.out 4
 have u5 := bc_ BK.out 5
 have u6 := bc_ BK.out 6
 have h2 := h1
 rw [Bool.and_eq_true] at h2
 have hT : tableB l1 = true := by
  have h3 := h2.1
  unfold pickMayB at h3
  simp only [Bool.and_eq_true] at h3
  exact h3.2.1
 obtain ⟨hok, hsr, h8⟩ := table_sorted hT
 have htr := table_fitr hT
 obtain ⟨LA, hLA⟩ : ∃ l, swapL l1 a4 (thenL (boundX a3 a2) l1 a4 ⟨0, 0, a3, a2, (⟨#[]⟩ : ByteArray), false⟩) = l := ⟨_, rfl⟩
 obtain ⟨LD, hLD⟩ : ∃ l, swapL l1 a4 (thenL (holdsX a3 a2) l1 a4 ⟨0, 3, (⟨#[]⟩ : ByteArray), wrap64 (a2 + 64), (⟨#[]⟩ : ByteArray), false⟩) = l := ⟨_, rfl⟩
 have Cr := am_ (Crg LA 0 (by unfold otherV; rw [h1, if_pos rfl, hLA]))
 have Cd := am_ (Cdg LD 0 (by unfold otherV; rw [h1, if_pos rfl, hLD]))
 have hlA : LA.length = l1.length := by rw [← hLA]; unfold swapL; rw [List.length_map]
 have hlD : LD.length = l1.length := by rw [← hLD]; unfold swapL; rw [List.length_map]
 have HAt := am_ (fun i x (h0 : 0 ≤ i) (h1 : i < (l1.length : Int)) (hx : rd_T42 l1 i = x) => show rd_T42 LA i = (if x.f0 = a4 then (if boundX a3 a2 x = true then (⟨a4, 0, a3, a2, (⟨#[]⟩ : ByteArray), false⟩ : S42) else x) else x) from by rw [← hLA]; exact pinfoldlaw18_DropOwn.at_ l1 a4 (boundX a3 a2) ⟨0, 0, a3, a2, (⟨#[]⟩ : ByteArray), false⟩ x i hsr h0 h1 hx)
 have HDt := am_ (fun i x (h0 : 0 ≤ i) (h1 : i < (l1.length : Int)) (hx : rd_T42 l1 i = x) => show rd_T42 LD i = (if x.f0 = a4 then (if holdsX a3 a2 x = true then (⟨a4, 3, (⟨#[]⟩ : ByteArray), wrap64 (a2 + 64), (⟨#[]⟩ : ByteArray), false⟩ : S42) else x) else x) from by rw [← hLD]; exact pinfoldlaw18_DropOwn.at_ l1 a4 (holdsX a3 a2) ⟨0, 3, (⟨#[]⟩ : ByteArray), wrap64 (a2 + 64), (⟨#[]⟩ : ByteArray), false⟩ x i hsr h0 h1 hx)
 have HX := am_ htr.2
 have CLg := am_ (fun x0 x1 x2 x3 x4 x5 (hx : x4.size ≤ 8796093022000) b (e : liveB x0 x1 x2 x3 x4 x5 a2 = b) W => pinfoldref11_Live_c.calls x0 x1 x2 x3 x4 x5 a2 b W (by unfold pinfoldref11_Live_c.f; rw [if_pos hx, e]))
 have HY := am_ (fun (x : S42) (hx : x ∈ l1) (e : x.f0 = a4) => show x.f1 = 2 ∧ x.f2.toList = a3.toList ∧ liveX a2 x = true by rw [host_once hsr x hx y hy (by rw [e, hy0])]; exact ⟨hy1, hy2, hyl⟩)
 clear hy hy0 hy1 hy2 hyl
 clear Crg Cdg h1 h2 hT hok hsr htr hLA hLD hs hr0_2 hr0_3 hr0_6 hc0_2 hc0_3 hc0_6 hr1 hc1
 have hlA' := am_ hlA
 have hlD' := am_ hlD
 clear hlA hlD
 replace h8 := am_ h8
 go_enter Tryd.func4, Tryd.ntmps4
 go_wp2_with (first | (go_at_call 24; (with_reducible refine (Cw.out _).mono ?_); rintro e w1 ⟨rfl, hb2⟩; replace BK := am_ (kb_ (show _ from (by (with_reducible repeat (first | exact BK.out | refine k2_ ?_ _ | refine k3_ ?_ | refine k1_ ?_ _)))) hb2); replace HB := am_ (bt_ (show Below w.heap.size w _ from (by repeat (with_reducible first | exact HB.out | apply p3_ | apply p1_ | apply p2_))) hb2); clear hb2; clear u0 u1 u2 u3 u4 u5 u6; have u0 := bc_ BK.out 0; have u1 := bc_ BK.out 1; have u2 := bc_ BK.out 2; have u3 := bc_ BK.out 3; have u4 := bc_ BK.out 4; have u5 := bc_ BK.out 5; have u6 := bc_ BK.out 6) | (go_at_call 15; (with_reducible refine (Cr.out _ (by repeat (with_reducible first | exact HB.out | apply p3_ | apply p1_ | apply p2_))).mono ?_); rintro e w2 ⟨va, rfl, HA, hb2⟩; replace BK := am_ (kb_ (show _ from (by (with_reducible repeat (first | exact BK.out | refine k2_ ?_ _ | refine k3_ ?_ | refine k1_ ?_ _)))) hb2); replace HB := am_ (bt_ (show Below w.heap.size w _ from (by repeat (with_reducible first | exact HB.out | apply p3_ | apply p1_ | apply p2_))) hb2); clear hb2; obtain ⟨AA, ca, eA, hca, HA2⟩ := Kd.R_reads HA; rw [hlA'.out] at eA hca HA2; subst eA; replace HA2 := am_ HA2; clear HA; clear u0 u1 u2 u3 u4 u5 u6; have u0 := bc_ BK.out 0; have u1 := bc_ BK.out 1; have u2 := bc_ BK.out 2; have u3 := bc_ BK.out 3; have u4 := bc_ BK.out 4; have u5 := bc_ BK.out 5; have u6 := bc_ BK.out 6) | (go_at_call 17; (with_reducible refine (Cd.out _ (by repeat (with_reducible first | exact HB.out | apply p3_ | apply p1_ | apply p2_))).mono ?_); rintro e w3 ⟨vb, rfl, HD, hb2⟩; have HA3 := am_ (c4_ HA2.out hb2); replace BK := am_ (kb_ (show _ from (by (with_reducible repeat (first | exact BK.out | refine k2_ ?_ _ | refine k3_ ?_ | refine k1_ ?_ _)))) hb2); replace HB := am_ (bt_ (show Below w.heap.size w _ from (by repeat (with_reducible first | exact HB.out | apply p3_ | apply p1_ | apply p2_))) hb2); clear hb2; obtain ⟨AB, cb, eB, hcb, HD2⟩ := Kd.R_reads HD; rw [hlD'.out] at eB hcb HD2; subst eB; replace HD2 := am_ HD2; clear HD HA2; clear u0 u1 u2 u3 u4 u5 u6; have u0 := bc_ BK.out 0; have u1 := bc_ BK.out 1; have u2 := bc_ BK.out 2; have u3 := bc_ BK.out 3; have u4 := bc_ BK.out 4; have u5 := bc_ BK.out 5; have u6 := bc_ BK.out 6) | (go_at_call 20; (with_reducible refine (Cn.out _ _).mono ?_); rintro e wq ⟨rfl, ⟨nd, rfl⟩⟩))
 have HW := am_ (show Below w3.heap.size w3 _ from by repeat (with_reducible first | exact Below.refl _ _ | apply p1_ | apply p2_))
 clear u0 u1 u2 u3 u4 u5 u6 Cw Cr Cd Cn BK
 go_loopg [15] l1.length (fun d v w' => ∃ i : Int, 0 ≤ i ∧ i.toNat + d = l1.length ∧ v = .int .i64 i ∧ Aside0 (Below w3.heap.size w3 w'))
 case atStart => exact ⟨0, by omega, by simp, rfl, ⟨by repeat (with_reducible first | exact Below.refl _ _ | apply p1_ | apply p2_)⟩⟩
 case round =>
  clear HW
  obtain ⟨i, hi0, hd, rfl, HW⟩ := hrel
  by_cases hlt : i < (l1.length : Int)
  ·obtain ⟨ad, e1, hx⟩ := at_T42 (c4_ HR1.out HB.out) i hi0 hlt
   cases e1
   obtain ⟨ada, e1, ha⟩ := at_T42 HA3.out i hi0 hlt
   cases e1
   obtain ⟨adb, e1, hb⟩ := at_T42 HD2.out i hi0 hlt
   cases e1
   have hl8 := h8.out
   have hxa := HAt.out i _ hi0 hlt rfl
   have hxd := HDt.out i _ hi0 hlt rfl
   rw [hxa] at ha
   rw [hxd] at hb
   clear hxa hxd
   have hsz : (rd_T42 l1 i).f4.size ≤ 8796093022000 := HX.out _ (dropLease l1 i hi0 hlt).2
   have hxm := (dropLease l1 i hi0 hlt).2
   generalize rd_T42 l1 i = x at hx ha hb hsz hxm
   obtain ⟨x0, x1, x2, x3, x4, x5⟩ := x
   simp only at hx ha hb hsz
   obtain ⟨bl, hbl⟩ : ∃ b, liveB x0 x1 x2 x3 x4 x5 a2 = b := ⟨_, rfl⟩
   have CL := am_ (fun W => CLg.out x0 x1 x2 x3 x4 x5 hsz bl hbl W)
   have eho : holdsX a3 a2 ⟨x0, x1, x2, x3, x4, x5⟩ = (bl && (decide (x1 ≠ 3) && decide (x2.toList = a3.toList))) := by rw [← hbl]; rfl
   have ebo : boundX a3 a2 ⟨x0, x1, x2, x3, x4, x5⟩ = (holdsX a3 a2 ⟨x0, x1, x2, x3, x4, x5⟩ && decide (x1 = 2)) := rfl
   have hst : bl = true → x1 = 1 ∨ x1 = 2 ∨ x1 = 3 := by
    intro e
    have e2 := hbl.trans e
    unfold liveB leaseB stateB at e2
    simp only [Bool.and_eq_true, decide_eq_true_eq] at e2
    obtain ⟨⟨⟨⟨⟨⟨_, h⟩, _⟩, _⟩, _⟩, h0⟩, _⟩ := e2
    by_cases q0 : x1 = 0 ∨ x1 = 3
    ·omega
    rw [if_neg q0] at h
    by_cases q1 : x1 = 1
    ·omega
    rw [if_neg q1] at h
    by_cases q2 : x1 = 2
    ·omega
    rw [if_neg q2] at h
    cases h
   have CZ := am_ (fun W => CLg.out a4 0 a3 a2 (⟨#[]⟩ : ByteArray) false (by decide) false (by unfold liveB; rw [show decide ((0 : Int) ≠ 0) = false from rfl, Bool.and_false, Bool.false_and]) W)
   have M1 := am_ (show 0 ≤ i + 1 by omega)
   have M2 := am_ (show (i + 1).toNat + (l1.length - (i.toNat + 1)) = l1.length by omega)
   have M3 := am_ (show l1.length - (i.toNat + 1) < gk by omega)
   have M4 := am_ (show IntKind.i64.wrap (i + 1) = i + 1 from (i64_w _).trans (by unfold wrap64; omega))
   have clt := decide_eq_true hlt
   have cle := decide_eq_true hi0
   have plt := eq_true hlt
   have ple := eq_true hi0
   have GX := am_ hx
   have hbl0 : liveX a2 ⟨x0, x1, x2, x3, x4, x5⟩ = bl := hbl
   clear hx hbl hsz hd hl8
   replace hi0 := am_ hi0
   clear hlt
   by_cases q0 : x0 = a4
   rotate_left
   ·rw [if_neg q0] at ha hb
    have GA := am_ ha
    have GD := am_ hb
    have c0 : (x0 == a4) = false := by simpa using q0
    clear ha hb q0 eho ebo hst CZ
    have y0 := (HW.out.cell (wb_ w3 _ GX.out.1)).trans GX.out.1; have y1 := (HW.out.cell (wb_ w3 _ GX.out.2.1)).trans GX.out.2.1; have y2 := (HW.out.cell (wb_ w3 _ GX.out.2.2.1)).trans GX.out.2.2.1; have y3 := (HW.out.cell (wb_ w3 _ GX.out.2.2.2.1)).trans GX.out.2.2.2.1; have y4 := (HW.out.cell (wb_ w3 _ GX.out.2.2.2.2.1)).trans GX.out.2.2.2.2.1; have y5 := (HW.out.cell (wb_ w3 _ GX.out.2.2.2.2.2)).trans GX.out.2.2.2.2.2; have z0 := (HW.out.cell (wb_ w3 _ GA.out.1)).trans GA.out.1; have z1 := (HW.out.cell (wb_ w3 _ GA.out.2.1)).trans GA.out.2.1; have z2 := (HW.out.cell (wb_ w3 _ GA.out.2.2.1)).trans GA.out.2.2.1; have z3 := (HW.out.cell (wb_ w3 _ GA.out.2.2.2.1)).trans GA.out.2.2.2.1; have z4 := (HW.out.cell (wb_ w3 _ GA.out.2.2.2.2.1)).trans GA.out.2.2.2.2.1; have z5 := (HW.out.cell (wb_ w3 _ GA.out.2.2.2.2.2)).trans GA.out.2.2.2.2.2; have t0 := (HW.out.cell (wb_ w3 _ GD.out.1)).trans GD.out.1; have t1 := (HW.out.cell (wb_ w3 _ GD.out.2.1)).trans GD.out.2.1; have t2 := (HW.out.cell (wb_ w3 _ GD.out.2.2.1)).trans GD.out.2.2.1; have t3 := (HW.out.cell (wb_ w3 _ GD.out.2.2.2.1)).trans GD.out.2.2.2.1; have t4 := (HW.out.cell (wb_ w3 _ GD.out.2.2.2.2.1)).trans GD.out.2.2.2.2.1; have t5 := (HW.out.cell (wb_ w3 _ GD.out.2.2.2.2.2)).trans GD.out.2.2.2.2.2
    go_wp2_with (first | (go_at_call 25; (with_reducible refine (CL.out _).mono ?_); rintro e w6 ⟨rfl, hb2⟩; replace HW := am_ (bt_ HW.out hb2); clear hb2 y0 y1 y2 y3 y4 y5 z0 z1 z2 z3 z4 z5 t0 t1 t2 t3 t4 t5; have y0 := (HW.out.cell (wb_ w3 _ GX.out.1)).trans GX.out.1; have y1 := (HW.out.cell (wb_ w3 _ GX.out.2.1)).trans GX.out.2.1; have y2 := (HW.out.cell (wb_ w3 _ GX.out.2.2.1)).trans GX.out.2.2.1; have y3 := (HW.out.cell (wb_ w3 _ GX.out.2.2.2.1)).trans GX.out.2.2.2.1; have y4 := (HW.out.cell (wb_ w3 _ GX.out.2.2.2.2.1)).trans GX.out.2.2.2.2.1; have y5 := (HW.out.cell (wb_ w3 _ GX.out.2.2.2.2.2)).trans GX.out.2.2.2.2.2; have z0 := (HW.out.cell (wb_ w3 _ GA.out.1)).trans GA.out.1; have z1 := (HW.out.cell (wb_ w3 _ GA.out.2.1)).trans GA.out.2.1; have z2 := (HW.out.cell (wb_ w3 _ GA.out.2.2.1)).trans GA.out.2.2.1; have z3 := (HW.out.cell (wb_ w3 _ GA.out.2.2.2.1)).trans GA.out.2.2.2.1; have z4 := (HW.out.cell (wb_ w3 _ GA.out.2.2.2.2.1)).trans GA.out.2.2.2.2.1; have z5 := (HW.out.cell (wb_ w3 _ GA.out.2.2.2.2.2)).trans GA.out.2.2.2.2.2; have t0 := (HW.out.cell (wb_ w3 _ GD.out.1)).trans GD.out.1; have t1 := (HW.out.cell (wb_ w3 _ GD.out.2.1)).trans GD.out.2.1; have t2 := (HW.out.cell (wb_ w3 _ GD.out.2.2.1)).trans GD.out.2.2.1; have t3 := (HW.out.cell (wb_ w3 _ GD.out.2.2.2.1)).trans GD.out.2.2.2.1; have t4 := (HW.out.cell (wb_ w3 _ GD.out.2.2.2.2.1)).trans GD.out.2.2.2.2.1; have t5 := (HW.out.cell (wb_ w3 _ GD.out.2.2.2.2.2)).trans GD.out.2.2.2.2.2))
    have HW1 := am_ (below_drew HW.out)
    refine seqS (S := pinfoldlaw18_DropOwn.S (ad.add (i.toNat * 6)) (ada.add (i.toNat * 6)) (adb.add (i.toNat * 6)) x0 x1 x2 x3 x4 x5 x0 x1 x2 x3 x4 x5 x0 x1 x2 x3 x4 x5) 65 (by kernel_rfl) rfl rfl (by unfold pinfoldlaw18_DropOwn.S; exact ⟨(HW1.out.cell (wb_ w3 _ GX.out.1)).trans GX.out.1, (HW1.out.cell (wb_ w3 _ GX.out.2.1)).trans GX.out.2.1, (HW1.out.cell (wb_ w3 _ GX.out.2.2.1)).trans GX.out.2.2.1, (HW1.out.cell (wb_ w3 _ GX.out.2.2.2.1)).trans GX.out.2.2.2.1, (HW1.out.cell (wb_ w3 _ GX.out.2.2.2.2.1)).trans GX.out.2.2.2.2.1, (HW1.out.cell (wb_ w3 _ GX.out.2.2.2.2.2)).trans GX.out.2.2.2.2.2, (HW1.out.cell (wb_ w3 _ GA.out.1)).trans GA.out.1, (HW1.out.cell (wb_ w3 _ GA.out.2.1)).trans GA.out.2.1, (HW1.out.cell (wb_ w3 _ GA.out.2.2.1)).trans GA.out.2.2.1, (HW1.out.cell (wb_ w3 _ GA.out.2.2.2.1)).trans GA.out.2.2.2.1, (HW1.out.cell (wb_ w3 _ GA.out.2.2.2.2.1)).trans GA.out.2.2.2.2.1, (HW1.out.cell (wb_ w3 _ GA.out.2.2.2.2.2)).trans GA.out.2.2.2.2.2, (HW1.out.cell (wb_ w3 _ GD.out.1)).trans GD.out.1, (HW1.out.cell (wb_ w3 _ GD.out.2.1)).trans GD.out.2.1, (HW1.out.cell (wb_ w3 _ GD.out.2.2.1)).trans GD.out.2.2.1, (HW1.out.cell (wb_ w3 _ GD.out.2.2.2.1)).trans GD.out.2.2.2.1, (HW1.out.cell (wb_ w3 _ GD.out.2.2.2.2.1)).trans GD.out.2.2.2.2.1, (HW1.out.cell (wb_ w3 _ GD.out.2.2.2.2.2)).trans GD.out.2.2.2.2.2⟩) ?_
    intro hHeld
    refine with_tabW pinfoldlaw18_DropOwn.tab13 pinfoldlaw18_DropOwn.bits13 (fun HT_ HW_ => ?_)
    clear HW y0 y1 y2 y3 y4 y5 z0 z1 z2 z3 z4 z5 t0 t1 t2 t3 t4 t5
    iterate 27 first | (refine seqPT HT_ (v := ?_) (a' := ?_) rfl rfl (by kernel_rfl) (fun _ _ _ h => h) (Or.inl ⟨by kernel_rfl, ?_⟩) ?_ ?_; rotate_left; (intro w'; go_simp; with_reducible rfl); rotate_left; (simp only [Act.put, sa_, sb_, sc_, i64_w, i32_w]; rfl)) | (refine seqLT HT_ HW_ (v := ?_) (a' := ?_) rfl rfl (by kernel_rfl) (fun _ _ _ h => h) (Or.inl ⟨by kernel_rfl, ?_⟩) hHeld ?_ ?_; rotate_left; (rintro w' ⟨s0, s1, s2, s3, s4, s5, s6, s7, s8, s9, s10, s11, s12, s13, s14, s15, s16, s17⟩; go_simp; with_reducible rfl); rotate_left; (simp only [Act.put, sa_, sb_, sc_, i64_w, i32_w]; rfl))
    iterate 6 (refine seqPT HT_ (v := undef) (a' := ?_) rfl rfl (by kernel_rfl) (fun _ _ _ h => h) (Or.inr ⟨by kernel_rfl, rfl⟩) ?_ ?_; rotate_left; (simp only [Act.put, sa_, sb_, sc_, i64_w, i32_w]; rfl))
    iterate 2 first | (refine seqPT HT_ (v := ?_) (a' := ?_) rfl rfl (by kernel_rfl) (fun _ _ _ h => h) (Or.inl ⟨by kernel_rfl, ?_⟩) ?_ ?_; rotate_left; (intro w'; go_simp; with_reducible rfl); rotate_left; (simp only [Act.put, sa_, sb_, sc_, i64_w, i32_w]; rfl)) | (refine seqLT HT_ HW_ (v := ?_) (a' := ?_) rfl rfl (by kernel_rfl) (fun _ _ _ h => h) (Or.inl ⟨by kernel_rfl, ?_⟩) hHeld ?_ ?_; rotate_left; (rintro w' ⟨s0, s1, s2, s3, s4, s5, s6, s7, s8, s9, s10, s11, s12, s13, s14, s15, s16, s17⟩; go_simp; with_reducible rfl); rotate_left; (simp only [Act.put, sa_, sb_, sc_, i64_w, i32_w]; rfl))
    iterate 9 (refine seqPT HT_ (v := undef) (a' := ?_) rfl rfl (by kernel_rfl) (fun _ _ _ h => h) (Or.inr ⟨by kernel_rfl, rfl⟩) ?_ ?_; rotate_left; (simp only [Act.put, sa_, sb_, sc_, i64_w, i32_w]; rfl))
    iterate 13 first | (refine seqPT HT_ (v := ?_) (a' := ?_) rfl rfl (by kernel_rfl) (fun _ _ _ h => h) (Or.inl ⟨by kernel_rfl, ?_⟩) ?_ ?_; rotate_left; (intro w'; go_simp; with_reducible rfl); rotate_left; (simp only [Act.put, sa_, sb_, sc_, i64_w, i32_w]; rfl)) | (refine seqLT HT_ HW_ (v := ?_) (a' := ?_) rfl rfl (by kernel_rfl) (fun _ _ _ h => h) (Or.inl ⟨by kernel_rfl, ?_⟩) hHeld ?_ ?_; rotate_left; (rintro w' ⟨s0, s1, s2, s3, s4, s5, s6, s7, s8, s9, s10, s11, s12, s13, s14, s15, s16, s17⟩; go_simp; with_reducible rfl); rotate_left; (simp only [Act.put, sa_, sb_, sc_, i64_w, i32_w]; rfl))
    iterate 6 (refine seqPT HT_ (v := undef) (a' := ?_) rfl rfl (by kernel_rfl) (fun _ _ _ h => h) (Or.inr ⟨by kernel_rfl, rfl⟩) ?_ ?_; rotate_left; (simp only [Act.put, sa_, sb_, sc_, i64_w, i32_w]; rfl))
    iterate 2 first | (refine seqPT HT_ (v := ?_) (a' := ?_) rfl rfl (by kernel_rfl) (fun _ _ _ h => h) (Or.inl ⟨by kernel_rfl, ?_⟩) ?_ ?_; rotate_left; (intro w'; go_simp; with_reducible rfl); rotate_left; (simp only [Act.put, sa_, sb_, sc_, i64_w, i32_w]; rfl)) | (refine seqLT HT_ HW_ (v := ?_) (a' := ?_) rfl rfl (by kernel_rfl) (fun _ _ _ h => h) (Or.inl ⟨by kernel_rfl, ?_⟩) hHeld ?_ ?_; rotate_left; (rintro w' ⟨s0, s1, s2, s3, s4, s5, s6, s7, s8, s9, s10, s11, s12, s13, s14, s15, s16, s17⟩; go_simp; with_reducible rfl); rotate_left; (simp only [Act.put, sa_, sb_, sc_, i64_w, i32_w]; rfl))
    refine seqET HT_ (by kernel_rfl) ?_
    go_wp2
    go_roundg (l1.length - (i.toNat + 1))
    case measure => exact M3.out
    case rel => exact ⟨i + 1, M1.out, M2.out, by first | rfl | (rw [show wrap64 (i + 1) = i + 1 from (i64_w _).symm.trans M4.out]), HW1⟩
   subst q0
   obtain ⟨e, q2, hb1⟩ := HY.out _ hxm rfl
   simp only at e q2
   have hb1' : bl = true := hbl0.symm.trans hb1
   subst hb1'
   rw [if_pos rfl] at ha hb
   have c0 : (x0 == x0) = true := by simp
   have c2 : (x2.toList == a3.toList) = true := by simpa using q2
   rw [decide_eq_true q2, Bool.and_true] at eho
   clear q2
   rw [Bool.true_and] at eho
   subst e
   rw [show decide ((2 : Int) ≠ 3) = true from rfl] at eho
   rw [eho, show decide ((2 : Int) = 2) = true from rfl, Bool.and_true] at ebo
   rw [ebo, if_pos rfl] at ha
   rw [eho, if_pos rfl] at hb
   have GA := am_ ha
   have GD := am_ hb
   clear ha hb eho ebo hst
   have y0 := (HW.out.cell (wb_ w3 _ GX.out.1)).trans GX.out.1; have y1 := (HW.out.cell (wb_ w3 _ GX.out.2.1)).trans GX.out.2.1; have y2 := (HW.out.cell (wb_ w3 _ GX.out.2.2.1)).trans GX.out.2.2.1; have y3 := (HW.out.cell (wb_ w3 _ GX.out.2.2.2.1)).trans GX.out.2.2.2.1; have y4 := (HW.out.cell (wb_ w3 _ GX.out.2.2.2.2.1)).trans GX.out.2.2.2.2.1; have y5 := (HW.out.cell (wb_ w3 _ GX.out.2.2.2.2.2)).trans GX.out.2.2.2.2.2; have z0 := (HW.out.cell (wb_ w3 _ GA.out.1)).trans GA.out.1; have z1 := (HW.out.cell (wb_ w3 _ GA.out.2.1)).trans GA.out.2.1; have z2 := (HW.out.cell (wb_ w3 _ GA.out.2.2.1)).trans GA.out.2.2.1; have z3 := (HW.out.cell (wb_ w3 _ GA.out.2.2.2.1)).trans GA.out.2.2.2.1; have z4 := (HW.out.cell (wb_ w3 _ GA.out.2.2.2.2.1)).trans GA.out.2.2.2.2.1; have z5 := (HW.out.cell (wb_ w3 _ GA.out.2.2.2.2.2)).trans GA.out.2.2.2.2.2; have t0 := (HW.out.cell (wb_ w3 _ GD.out.1)).trans GD.out.1; have t1 := (HW.out.cell (wb_ w3 _ GD.out.2.1)).trans GD.out.2.1; have t2 := (HW.out.cell (wb_ w3 _ GD.out.2.2.1)).trans GD.out.2.2.1; have t3 := (HW.out.cell (wb_ w3 _ GD.out.2.2.2.1)).trans GD.out.2.2.2.1; have t4 := (HW.out.cell (wb_ w3 _ GD.out.2.2.2.2.1)).trans GD.out.2.2.2.2.1; have t5 := (HW.out.cell (wb_ w3 _ GD.out.2.2.2.2.2)).trans GD.out.2.2.2.2.2
   go_wp2_with (first | (go_at_call 25; (with_reducible refine (CL.out _).mono ?_); rintro e w6 ⟨rfl, hb2⟩; replace HW := am_ (bt_ HW.out hb2); clear hb2 y0 y1 y2 y3 y4 y5 z0 z1 z2 z3 z4 z5 t0 t1 t2 t3 t4 t5; have y0 := (HW.out.cell (wb_ w3 _ GX.out.1)).trans GX.out.1; have y1 := (HW.out.cell (wb_ w3 _ GX.out.2.1)).trans GX.out.2.1; have y2 := (HW.out.cell (wb_ w3 _ GX.out.2.2.1)).trans GX.out.2.2.1; have y3 := (HW.out.cell (wb_ w3 _ GX.out.2.2.2.1)).trans GX.out.2.2.2.1; have y4 := (HW.out.cell (wb_ w3 _ GX.out.2.2.2.2.1)).trans GX.out.2.2.2.2.1; have y5 := (HW.out.cell (wb_ w3 _ GX.out.2.2.2.2.2)).trans GX.out.2.2.2.2.2; have z0 := (HW.out.cell (wb_ w3 _ GA.out.1)).trans GA.out.1; have z1 := (HW.out.cell (wb_ w3 _ GA.out.2.1)).trans GA.out.2.1; have z2 := (HW.out.cell (wb_ w3 _ GA.out.2.2.1)).trans GA.out.2.2.1; have z3 := (HW.out.cell (wb_ w3 _ GA.out.2.2.2.1)).trans GA.out.2.2.2.1; have z4 := (HW.out.cell (wb_ w3 _ GA.out.2.2.2.2.1)).trans GA.out.2.2.2.2.1; have z5 := (HW.out.cell (wb_ w3 _ GA.out.2.2.2.2.2)).trans GA.out.2.2.2.2.2; have t0 := (HW.out.cell (wb_ w3 _ GD.out.1)).trans GD.out.1; have t1 := (HW.out.cell (wb_ w3 _ GD.out.2.1)).trans GD.out.2.1; have t2 := (HW.out.cell (wb_ w3 _ GD.out.2.2.1)).trans GD.out.2.2.1; have t3 := (HW.out.cell (wb_ w3 _ GD.out.2.2.2.1)).trans GD.out.2.2.2.1; have t4 := (HW.out.cell (wb_ w3 _ GD.out.2.2.2.2.1)).trans GD.out.2.2.2.2.1; have t5 := (HW.out.cell (wb_ w3 _ GD.out.2.2.2.2.2)).trans GD.out.2.2.2.2.2) | (go_at_call 25; (with_reducible refine (CZ.out _).mono ?_); rintro e w6 ⟨rfl, hb2⟩; replace HW := am_ (bt_ HW.out hb2); clear hb2 y0 y1 y2 y3 y4 y5 z0 z1 z2 z3 z4 z5 t0 t1 t2 t3 t4 t5; have y0 := (HW.out.cell (wb_ w3 _ GX.out.1)).trans GX.out.1; have y1 := (HW.out.cell (wb_ w3 _ GX.out.2.1)).trans GX.out.2.1; have y2 := (HW.out.cell (wb_ w3 _ GX.out.2.2.1)).trans GX.out.2.2.1; have y3 := (HW.out.cell (wb_ w3 _ GX.out.2.2.2.1)).trans GX.out.2.2.2.1; have y4 := (HW.out.cell (wb_ w3 _ GX.out.2.2.2.2.1)).trans GX.out.2.2.2.2.1; have y5 := (HW.out.cell (wb_ w3 _ GX.out.2.2.2.2.2)).trans GX.out.2.2.2.2.2; have z0 := (HW.out.cell (wb_ w3 _ GA.out.1)).trans GA.out.1; have z1 := (HW.out.cell (wb_ w3 _ GA.out.2.1)).trans GA.out.2.1; have z2 := (HW.out.cell (wb_ w3 _ GA.out.2.2.1)).trans GA.out.2.2.1; have z3 := (HW.out.cell (wb_ w3 _ GA.out.2.2.2.1)).trans GA.out.2.2.2.1; have z4 := (HW.out.cell (wb_ w3 _ GA.out.2.2.2.2.1)).trans GA.out.2.2.2.2.1; have z5 := (HW.out.cell (wb_ w3 _ GA.out.2.2.2.2.2)).trans GA.out.2.2.2.2.2; have t0 := (HW.out.cell (wb_ w3 _ GD.out.1)).trans GD.out.1; have t1 := (HW.out.cell (wb_ w3 _ GD.out.2.1)).trans GD.out.2.1; have t2 := (HW.out.cell (wb_ w3 _ GD.out.2.2.1)).trans GD.out.2.2.1; have t3 := (HW.out.cell (wb_ w3 _ GD.out.2.2.2.1)).trans GD.out.2.2.2.1; have t4 := (HW.out.cell (wb_ w3 _ GD.out.2.2.2.2.1)).trans GD.out.2.2.2.2.1; have t5 := (HW.out.cell (wb_ w3 _ GD.out.2.2.2.2.2)).trans GD.out.2.2.2.2.2))
   have HW1 := am_ (below_drew HW.out)
   refine seqS (S := pinfoldlaw18_DropOwn.S (ad.add (i.toNat * 6)) (ada.add (i.toNat * 6)) (adb.add (i.toNat * 6)) x0 2 x2 x3 x4 x5 x0 0 a3 a2 (⟨#[]⟩ : ByteArray) false x0 3 (⟨#[]⟩ : ByteArray) (wrap64 (a2 + 64)) (⟨#[]⟩ : ByteArray) false) 65 (by kernel_rfl) rfl rfl (by unfold pinfoldlaw18_DropOwn.S; exact ⟨(HW1.out.cell (wb_ w3 _ GX.out.1)).trans GX.out.1, (HW1.out.cell (wb_ w3 _ GX.out.2.1)).trans GX.out.2.1, (HW1.out.cell (wb_ w3 _ GX.out.2.2.1)).trans GX.out.2.2.1, (HW1.out.cell (wb_ w3 _ GX.out.2.2.2.1)).trans GX.out.2.2.2.1, (HW1.out.cell (wb_ w3 _ GX.out.2.2.2.2.1)).trans GX.out.2.2.2.2.1, (HW1.out.cell (wb_ w3 _ GX.out.2.2.2.2.2)).trans GX.out.2.2.2.2.2, (HW1.out.cell (wb_ w3 _ GA.out.1)).trans GA.out.1, (HW1.out.cell (wb_ w3 _ GA.out.2.1)).trans GA.out.2.1, (HW1.out.cell (wb_ w3 _ GA.out.2.2.1)).trans GA.out.2.2.1, (HW1.out.cell (wb_ w3 _ GA.out.2.2.2.1)).trans GA.out.2.2.2.1, (HW1.out.cell (wb_ w3 _ GA.out.2.2.2.2.1)).trans GA.out.2.2.2.2.1, (HW1.out.cell (wb_ w3 _ GA.out.2.2.2.2.2)).trans GA.out.2.2.2.2.2, (HW1.out.cell (wb_ w3 _ GD.out.1)).trans GD.out.1, (HW1.out.cell (wb_ w3 _ GD.out.2.1)).trans GD.out.2.1, (HW1.out.cell (wb_ w3 _ GD.out.2.2.1)).trans GD.out.2.2.1, (HW1.out.cell (wb_ w3 _ GD.out.2.2.2.1)).trans GD.out.2.2.2.1, (HW1.out.cell (wb_ w3 _ GD.out.2.2.2.2.1)).trans GD.out.2.2.2.2.1, (HW1.out.cell (wb_ w3 _ GD.out.2.2.2.2.2)).trans GD.out.2.2.2.2.2⟩) ?_
   intro hHeld
   refine with_tabW pinfoldlaw18_DropOwn.tab13 pinfoldlaw18_DropOwn.bits13 (fun HT_ HW_ => ?_)
   clear HW y0 y1 y2 y3 y4 y5 z0 z1 z2 z3 z4 z5 t0 t1 t2 t3 t4 t5
   iterate 3 first | (refine seqPT HT_ (v := ?_) (a' := ?_) rfl rfl (by kernel_rfl) (fun _ _ _ h => h) (Or.inl ⟨by kernel_rfl, ?_⟩) ?_ ?_; rotate_left; (intro w'; go_simp; with_reducible rfl); rotate_left; (simp only [Act.put, sa_, sb_, sc_, i64_w, i32_w]; rfl)) | (refine seqLT HT_ HW_ (v := ?_) (a' := ?_) rfl rfl (by kernel_rfl) (fun _ _ _ h => h) (Or.inl ⟨by kernel_rfl, ?_⟩) hHeld ?_ ?_; rotate_left; (rintro w' ⟨s0, s1, s2, s3, s4, s5, s6, s7, s8, s9, s10, s11, s12, s13, s14, s15, s16, s17⟩; go_simp; with_reducible rfl); rotate_left; (simp only [Act.put, sa_, sb_, sc_, i64_w, i32_w]; rfl))
   iterate 20 (refine seqPT HT_ (v := undef) (a' := ?_) rfl rfl (by kernel_rfl) (fun _ _ _ h => h) (Or.inr ⟨by kernel_rfl, rfl⟩) ?_ ?_; rotate_left; (simp only [Act.put, sa_, sb_, sc_, i64_w, i32_w]; rfl))
   iterate 9 first | (refine seqPT HT_ (v := ?_) (a' := ?_) rfl rfl (by kernel_rfl) (fun _ _ _ h => h) (Or.inl ⟨by kernel_rfl, ?_⟩) ?_ ?_; rotate_left; (intro w'; go_simp; with_reducible rfl); rotate_left; (simp only [Act.put, sa_, sb_, sc_, i64_w, i32_w]; rfl)) | (refine seqLT HT_ HW_ (v := ?_) (a' := ?_) rfl rfl (by kernel_rfl) (fun _ _ _ h => h) (Or.inl ⟨by kernel_rfl, ?_⟩) hHeld ?_ ?_; rotate_left; (rintro w' ⟨s0, s1, s2, s3, s4, s5, s6, s7, s8, s9, s10, s11, s12, s13, s14, s15, s16, s17⟩; go_simp; with_reducible rfl); rotate_left; (simp only [Act.put, sa_, sb_, sc_, i64_w, i32_w]; rfl))
   refine seqGT HT_ (fn := Tryd.f25) rfl rfl (by kernel_rfl) rfl Tryd.func25 (by kernel_rfl) (by kernel_rfl) #[.agg #[.int .i64 x0, .int .i64 0, .string a3, .int .i64 a2, .string (⟨#[]⟩ : ByteArray), .bool false], .int .i64 a2] (by kernel_rfl) (by (try simp only [List.map_toArray, List.map_cons, List.map_nil]); first | done | rfl) ?_
   with_reducible refine (CZ.out _).mono ?_
   rintro e wg ⟨rfl, hb2⟩
   have HW2 := am_ (bt_ HW1.out hb2)
   refine ⟨_, rfl, pinfoldlaw18_DropOwn.S_below hHeld hb2, fun hHeld => ⟨?_, ?_, ?_⟩⟩
   rotate_left
   ·simp only [Act.put, sa_, sb_, sc_, i64_w, i32_w]
    rfl
   clear hb2 HW1
   iterate 2 first | (refine seqPT HT_ (v := ?_) (a' := ?_) rfl rfl (by kernel_rfl) (fun _ _ _ h => h) (Or.inl ⟨by kernel_rfl, ?_⟩) ?_ ?_; rotate_left; (intro w'; go_simp; with_reducible rfl); rotate_left; (simp only [Act.put, sa_, sb_, sc_, i64_w, i32_w]; rfl)) | (refine seqLT HT_ HW_ (v := ?_) (a' := ?_) rfl rfl (by kernel_rfl) (fun _ _ _ h => h) (Or.inl ⟨by kernel_rfl, ?_⟩) hHeld ?_ ?_; rotate_left; (rintro w' ⟨s0, s1, s2, s3, s4, s5, s6, s7, s8, s9, s10, s11, s12, s13, s14, s15, s16, s17⟩; go_simp; with_reducible rfl); rotate_left; (simp only [Act.put, sa_, sb_, sc_, i64_w, i32_w]; rfl))
   iterate 9 (refine seqPT HT_ (v := undef) (a' := ?_) rfl rfl (by kernel_rfl) (fun _ _ _ h => h) (Or.inr ⟨by kernel_rfl, rfl⟩) ?_ ?_; rotate_left; (simp only [Act.put, sa_, sb_, sc_, i64_w, i32_w]; rfl))
   iterate 13 first | (refine seqPT HT_ (v := ?_) (a' := ?_) rfl rfl (by kernel_rfl) (fun _ _ _ h => h) (Or.inl ⟨by kernel_rfl, ?_⟩) ?_ ?_; rotate_left; (intro w'; go_simp; with_reducible rfl); rotate_left; (simp only [Act.put, sa_, sb_, sc_, i64_w, i32_w]; rfl)) | (refine seqLT HT_ HW_ (v := ?_) (a' := ?_) rfl rfl (by kernel_rfl) (fun _ _ _ h => h) (Or.inl ⟨by kernel_rfl, ?_⟩) hHeld ?_ ?_; rotate_left; (rintro w' ⟨s0, s1, s2, s3, s4, s5, s6, s7, s8, s9, s10, s11, s12, s13, s14, s15, s16, s17⟩; go_simp; with_reducible rfl); rotate_left; (simp only [Act.put, sa_, sb_, sc_, i64_w, i32_w]; rfl))
   iterate 6 first | (refine seqPT HT_ (v := ?_) (a' := ?_) rfl rfl (by kernel_rfl) (fun _ _ _ h => h) (Or.inl ⟨by kernel_rfl, ?_⟩) ?_ ?_; rotate_left; (intro w'; go_simp; with_reducible rfl); rotate_left; (simp only [Act.put, sa_, sb_, sc_, i64_w, i32_w]; rfl)) | (refine seqLT HT_ HW_ (v := ?_) (a' := ?_) rfl rfl (by kernel_rfl) (fun _ _ _ h => h) (Or.inl ⟨by kernel_rfl, ?_⟩) hHeld ?_ ?_; rotate_left; (rintro w' ⟨s0, s1, s2, s3, s4, s5, s6, s7, s8, s9, s10, s11, s12, s13, s14, s15, s16, s17⟩; go_simp; with_reducible rfl); rotate_left; (simp only [Act.put, sa_, sb_, sc_, i64_w, i32_w]; rfl))
   iterate 2 first | (refine seqPT HT_ (v := ?_) (a' := ?_) rfl rfl (by kernel_rfl) (fun _ _ _ h => h) (Or.inl ⟨by kernel_rfl, ?_⟩) ?_ ?_; rotate_left; (intro w'; go_simp; with_reducible rfl); rotate_left; (simp only [Act.put, sa_, sb_, sc_, i64_w, i32_w]; rfl)) | (refine seqLT HT_ HW_ (v := ?_) (a' := ?_) rfl rfl (by kernel_rfl) (fun _ _ _ h => h) (Or.inl ⟨by kernel_rfl, ?_⟩) hHeld ?_ ?_; rotate_left; (rintro w' ⟨s0, s1, s2, s3, s4, s5, s6, s7, s8, s9, s10, s11, s12, s13, s14, s15, s16, s17⟩; go_simp; with_reducible rfl); rotate_left; (simp only [Act.put, sa_, sb_, sc_, i64_w, i32_w]; rfl))
   refine seqET HT_ (by kernel_rfl) ?_
   go_wp2
   go_roundg (l1.length - (i.toNat + 1))
   case measure => exact M3.out
   case rel => exact ⟨i + 1, M1.out, M2.out, by first | rfl | (rw [show wrap64 (i + 1) = i + 1 from (i64_w _).symm.trans M4.out]), HW2⟩
  ·go_wp2
   go_ret
   exact ⟨rfl, bt_ HB.out HW.out⟩
set_option maxHeartbeats 8000000 in
set_option maxRecDepth 100000 in
theorem pinfoldlaw18_DropOwn.calls_3 (a0_0 : Int) (a0_1 : Int) (A0_2 : Option Addr) (c0_2 : Nat) (l0_2 : List Int) (A0_3 : Option Addr) (c0_3 : Nat) (l0_3 : List S72) (a0_4 : Int) (a0_5 : ByteArray) (A0_6 : Option Addr) (c0_6 : Nat) (l0_6 : List S74) (A1 : Option Addr) (c1 : Nat) (l1 : List S42) (a2 : Int) (a3 : ByteArray) (a4 : Int) (w : World) (hr0_2 : Kd.C (Kd.int .i64) w A0_2 l0_2.length l0_2) (hc0_2 : l0_2.length ≤ c0_2) (hr0_3 : Kd.C k72 w A0_3 l0_3.length l0_3) (hc0_3 : l0_3.length ≤ c0_3) (hr0_6 : Kd.C k74 w A0_6 l0_6.length l0_6) (hc0_6 : l0_6.length ≤ c0_6) (hr1 : Kd.C k42 w A1 l1.length l1) (hc1 : l1.length ≤ c1) (hs : pickFit l0_2 l0_3 a0_5 l0_6 l1) (h1 : (pickMayB a0_0 a0_1 l0_2 l0_3 a0_4 a0_5 l0_6 l1 a2 a3 && decide (0 ≤ a2 ∧ a2 ≤ 1099510579200)) = true) (y : S42) (hy : y ∈ l1) (hy0 : y.f0 = a4) (hy1 : y.f1 = 3) (hy2 : y.f2.toList = a3.toList) (hyl : liveX a2 y = true) :
  Calls Tryd.prog 4 #[.agg #[.int .i64 a0_0, .int .i64 a0_1, .slice A0_2 l0_2.length c0_2, .slice A0_3 l0_3.length c0_3, .int .i64 a0_4, .string a0_5, .slice A0_6 l0_6.length c0_6], .slice A1 l1.length c1, .int .i64 a2, .string a3, .int .i64 a4] w fun e w' => e = .returned (.bool true) ∧ Below w.heap.size w w' := by
 have Cw := am_ (fun W => pinfoldlaw18_awake.calls 20 true W pinfoldlaw18_DropOwn.aw)
 have Cn := am_ (fun x W => pinfoldlaw0_Num.calls x x W rfl)
 have Crg := fun l e (h : otherV (boundX a3 a2) a0_0 a0_1 l0_2 l0_3 a0_4 a0_5 l0_6 l1 a2 a3 a4 ⟨0, 0, a3, a2, (⟨#[]⟩ : ByteArray), false⟩ = (l, e)) W (hb : Below w.heap.size w W) => drop_Release.calls a0_0 a0_1 A0_2 c0_2 l0_2 A0_3 c0_3 l0_3 a0_4 a0_5 A0_6 c0_6 l0_6 A1 c1 l1 a2 a3 a4 l e W (c4_ hr0_2 hb) hc0_2 (c4_ hr0_3 hb) hc0_3 (c4_ hr0_6 hb) hc0_6 (c4_ hr1 hb) hc1 (by unfold drop_Release.f; rw [if_pos hs, h])
 have Cdg := fun l e (h : otherV (holdsX a3 a2) a0_0 a0_1 l0_2 l0_3 a0_4 a0_5 l0_6 l1 a2 a3 a4 ⟨0, 3, (⟨#[]⟩ : ByteArray), wrap64 (a2 + 64), (⟨#[]⟩ : ByteArray), false⟩ = (l, e)) W (hb : Below w.heap.size w W) => drop_Decline.calls a0_0 a0_1 A0_2 c0_2 l0_2 A0_3 c0_3 l0_3 a0_4 a0_5 A0_6 c0_6 l0_6 A1 c1 l1 a2 a3 a4 l e W (c4_ hr0_2 hb) hc0_2 (c4_ hr0_3 hb) hc0_3 (c4_ hr0_6 hb) hc0_6 (c4_ hr1 hb) hc1 (by unfold drop_Decline.f; rw [if_pos hs, h])
 have HR1 := am_ hr1
 have HB := am_ (Below.refl w.heap.size w)
 have BK := am_ (blk_new w (.cells #[.int .i64 a0_0, .int .i64 a0_1, .slice A0_2 l0_2.length c0_2, .slice A0_3 l0_3.length c0_3, .int .i64 a0_4, .string a0_5, .slice A0_6 l0_6.length c0_6] 26))
 have u0 := bc_ BK.out 0
 have u1 := bc_ BK.out 1
 have u2 := bc_ BK.out 2
 have u3 := bc_ BK.out 3
 have u4 := bc_ BK.out 4
 have u5 := bc_ BK.out 5
 have u6 := bc_ BK.out 6
 have h2 := h1
 rw [Bool.and_eq_true] at h2
 have hT : tableB l1 = true := by
  have h3 := h2.1
  unfold pickMayB at h3
  simp only [Bool.and_eq_true] at h3
  exact h3.2.1
 obtain ⟨hok, hsr, h8⟩ := table_sorted hT
 have htr := table_fitr hT
 obtain ⟨LA, hLA⟩ : ∃ l, swapL l1 a4 (thenL (boundX a3 a2) l1 a4 ⟨0, 0, a3, a2, (⟨#[]⟩ : ByteArray), false⟩) = l := ⟨_, rfl⟩
 obtain ⟨LD, hLD⟩ : ∃ l, swapL l1 a4 (thenL (holdsX a3 a2) l1 a4 ⟨0, 3, (⟨#[]⟩ : ByteArray), wrap64 (a2 + 64), (⟨#[]⟩ : ByteArray), false⟩) = l := ⟨_, rfl⟩
 have Cr := am_ (Crg LA 0 (by unfold otherV; rw [h1, if_pos rfl, hLA]))
 have Cd := am_ (Cdg LD 0 (by unfold otherV; rw [h1, if_pos rfl, hLD]))
 have hlA : LA.length = l1.length := by rw [← hLA]; unfold swapL; rw [List.length_map]
 have hlD : LD.length = l1.length := by rw [← hLD]; unfold swapL; rw [List.length_map]
 have HAt := am_ (fun i x (h0 : 0 ≤ i) (h1 : i < (l1.length : Int)) (hx : rd_T42 l1 i = x) => show rd_T42 LA i = (if x.f0 = a4 then (if boundX a3 a2 x = true then (⟨a4, 0, a3, a2, (⟨#[]⟩ : ByteArray), false⟩ : S42) else x) else x) from by rw [← hLA]; exact pinfoldlaw18_DropOwn.at_ l1 a4 (boundX a3 a2) ⟨0, 0, a3, a2, (⟨#[]⟩ : ByteArray), false⟩ x i hsr h0 h1 hx)
 have HDt := am_ (fun i x (h0 : 0 ≤ i) (h1 : i < (l1.length : Int)) (hx : rd_T42 l1 i = x) => show rd_T42 LD i = (if x.f0 = a4 then (if holdsX a3 a2 x = true then (⟨a4, 3, (⟨#[]⟩ : ByteArray), wrap64 (a2 + 64), (⟨#[]⟩ : ByteArray), false⟩ : S42) else x) else x) from by rw [← hLD]; exact pinfoldlaw18_DropOwn.at_ l1 a4 (holdsX a3 a2) ⟨0, 3, (⟨#[]⟩ : ByteArray), wrap64 (a2 + 64), (⟨#[]⟩ : ByteArray), false⟩ x i hsr h0 h1 hx)
 have HX := am_ htr.2
 have CLg := am_ (fun x0 x1 x2 x3 x4 x5 (hx : x4.size ≤ 8796093022000) b (e : liveB x0 x1 x2 x3 x4 x5 a2 = b) W => pinfoldref11_Live_c.calls x0 x1 x2 x3 x4 x5 a2 b W (by unfold pinfoldref11_Live_c.f; rw [if_pos hx, e]))
 have HY := am_ (fun (x : S42) (hx : x ∈ l1) (e : x.f0 = a4) => show x.f1 = 3 ∧ x.f2.toList = a3.toList ∧ liveX a2 x = true by rw [host_once hsr x hx y hy (by rw [e, hy0])]; exact ⟨hy1, hy2, hyl⟩)
 clear hy hy0 hy1 hy2 hyl
 clear Crg Cdg h1 h2 hT hok hsr htr hLA hLD hs hr0_2 hr0_3 hr0_6 hc0_2 hc0_3 hc0_6 hr1 hc1
 have hlA' := am_ hlA
 have hlD' := am_ hlD
 clear hlA hlD
 replace h8 := am_ h8
 go_enter Tryd.func4, Tryd.ntmps4
 go_wp2_with (first | (go_at_call 24; (with_reducible refine (Cw.out _).mono ?_); rintro e w1 ⟨rfl, hb2⟩; replace BK := am_ (kb_ (show _ from (by (with_reducible repeat (first | exact BK.out | refine k2_ ?_ _ | refine k3_ ?_ | refine k1_ ?_ _)))) hb2); replace HB := am_ (bt_ (show Below w.heap.size w _ from (by repeat (with_reducible first | exact HB.out | apply p3_ | apply p1_ | apply p2_))) hb2); clear hb2; clear u0 u1 u2 u3 u4 u5 u6; have u0 := bc_ BK.out 0; have u1 := bc_ BK.out 1; have u2 := bc_ BK.out 2; have u3 := bc_ BK.out 3; have u4 := bc_ BK.out 4; have u5 := bc_ BK.out 5; have u6 := bc_ BK.out 6) | (go_at_call 15; (with_reducible refine (Cr.out _ (by repeat (with_reducible first | exact HB.out | apply p3_ | apply p1_ | apply p2_))).mono ?_); rintro e w2 ⟨va, rfl, HA, hb2⟩; replace BK := am_ (kb_ (show _ from (by (with_reducible repeat (first | exact BK.out | refine k2_ ?_ _ | refine k3_ ?_ | refine k1_ ?_ _)))) hb2); replace HB := am_ (bt_ (show Below w.heap.size w _ from (by repeat (with_reducible first | exact HB.out | apply p3_ | apply p1_ | apply p2_))) hb2); clear hb2; obtain ⟨AA, ca, eA, hca, HA2⟩ := Kd.R_reads HA; rw [hlA'.out] at eA hca HA2; subst eA; replace HA2 := am_ HA2; clear HA; clear u0 u1 u2 u3 u4 u5 u6; have u0 := bc_ BK.out 0; have u1 := bc_ BK.out 1; have u2 := bc_ BK.out 2; have u3 := bc_ BK.out 3; have u4 := bc_ BK.out 4; have u5 := bc_ BK.out 5; have u6 := bc_ BK.out 6) | (go_at_call 17; (with_reducible refine (Cd.out _ (by repeat (with_reducible first | exact HB.out | apply p3_ | apply p1_ | apply p2_))).mono ?_); rintro e w3 ⟨vb, rfl, HD, hb2⟩; have HA3 := am_ (c4_ HA2.out hb2); replace BK := am_ (kb_ (show _ from (by (with_reducible repeat (first | exact BK.out | refine k2_ ?_ _ | refine k3_ ?_ | refine k1_ ?_ _)))) hb2); replace HB := am_ (bt_ (show Below w.heap.size w _ from (by repeat (with_reducible first | exact HB.out | apply p3_ | apply p1_ | apply p2_))) hb2); clear hb2; obtain ⟨AB, cb, eB, hcb, HD2⟩ := Kd.R_reads HD; rw [hlD'.out] at eB hcb HD2; subst eB; replace HD2 := am_ HD2; clear HD HA2; clear u0 u1 u2 u3 u4 u5 u6; have u0 := bc_ BK.out 0; have u1 := bc_ BK.out 1; have u2 := bc_ BK.out 2; have u3 := bc_ BK.out 3; have u4 := bc_ BK.out 4; have u5 := bc_ BK.out 5; have u6 := bc_ BK.out 6) | (go_at_call 20; (with_reducible refine (Cn.out _ _).mono ?_); rintro e wq ⟨rfl, ⟨nd, rfl⟩⟩))
 have HW := am_ (show Below w3.heap.size w3 _ from by repeat (with_reducible first | exact Below.refl _ _ | apply p1_ | apply p2_))
 clear u0 u1 u2 u3 u4 u5 u6 Cw Cr Cd Cn BK
 go_loopg [15] l1.length (fun d v w' => ∃ i : Int, 0 ≤ i ∧ i.toNat + d = l1.length ∧ v = .int .i64 i ∧ Aside0 (Below w3.heap.size w3 w'))
 case atStart => exact ⟨0, by omega, by simp, rfl, ⟨by repeat (with_reducible first | exact Below.refl _ _ | apply p1_ | apply p2_)⟩⟩
 case round =>
  clear HW
  obtain ⟨i, hi0, hd, rfl, HW⟩ := hrel
  by_cases hlt : i < (l1.length : Int)
  ·obtain ⟨ad, e1, hx⟩ := at_T42 (c4_ HR1.out HB.out) i hi0 hlt
   cases e1
   obtain ⟨ada, e1, ha⟩ := at_T42 HA3.out i hi0 hlt
   cases e1
   obtain ⟨adb, e1, hb⟩ := at_T42 HD2.out i hi0 hlt
   cases e1
   have hl8 := h8.out
   have hxa := HAt.out i _ hi0 hlt rfl
   have hxd := HDt.out i _ hi0 hlt rfl
   rw [hxa] at ha
   rw [hxd] at hb
   clear hxa hxd
   have hsz : (rd_T42 l1 i).f4.size ≤ 8796093022000 := HX.out _ (dropLease l1 i hi0 hlt).2
   have hxm := (dropLease l1 i hi0 hlt).2
   generalize rd_T42 l1 i = x at hx ha hb hsz hxm
   obtain ⟨x0, x1, x2, x3, x4, x5⟩ := x
   simp only at hx ha hb hsz
   obtain ⟨bl, hbl⟩ : ∃ b, liveB x0 x1 x2 x3 x4 x5 a2 = b := ⟨_, rfl⟩
   have CL := am_ (fun W => CLg.out x0 x1 x2 x3 x4 x5 hsz bl hbl W)
   have eho : holdsX a3 a2 ⟨x0, x1, x2, x3, x4, x5⟩ = (bl && (decide (x1 ≠ 3) && decide (x2.toList = a3.toList))) := by rw [← hbl]; rfl
   have ebo : boundX a3 a2 ⟨x0, x1, x2, x3, x4, x5⟩ = (holdsX a3 a2 ⟨x0, x1, x2, x3, x4, x5⟩ && decide (x1 = 2)) := rfl
   have hst : bl = true → x1 = 1 ∨ x1 = 2 ∨ x1 = 3 := by
    intro e
    have e2 := hbl.trans e
    unfold liveB leaseB stateB at e2
    simp only [Bool.and_eq_true, decide_eq_true_eq] at e2
    obtain ⟨⟨⟨⟨⟨⟨_, h⟩, _⟩, _⟩, _⟩, h0⟩, _⟩ := e2
    by_cases q0 : x1 = 0 ∨ x1 = 3
    ·omega
    rw [if_neg q0] at h
    by_cases q1 : x1 = 1
    ·omega
    rw [if_neg q1] at h
    by_cases q2 : x1 = 2
    ·omega
    rw [if_neg q2] at h
    cases h
   have CZ := am_ (fun W => CLg.out a4 0 a3 a2 (⟨#[]⟩ : ByteArray) false (by decide) false (by unfold liveB; rw [show decide ((0 : Int) ≠ 0) = false from rfl, Bool.and_false, Bool.false_and]) W)
   have M1 := am_ (show 0 ≤ i + 1 by omega)
   have M2 := am_ (show (i + 1).toNat + (l1.length - (i.toNat + 1)) = l1.length by omega)
   have M3 := am_ (show l1.length - (i.toNat + 1) < gk by omega)
   have M4 := am_ (show IntKind.i64.wrap (i + 1) = i + 1 from (i64_w _).trans (by unfold wrap64; omega))
   have clt := decide_eq_true hlt
   have cle := decide_eq_true hi0
   have plt := eq_true hlt
   have ple := eq_true hi0
   have GX := am_ hx
   have hbl0 : liveX a2 ⟨x0, x1, x2, x3, x4, x5⟩ = bl := hbl
   clear hx hbl hsz hd hl8
   replace hi0 := am_ hi0
   clear hlt
   by_cases q0 : x0 = a4
   rotate_left
   ·rw [if_neg q0] at ha hb
    have GA := am_ ha
    have GD := am_ hb
    have c0 : (x0 == a4) = false := by simpa using q0
    clear ha hb q0 eho ebo hst CZ
    have y0 := (HW.out.cell (wb_ w3 _ GX.out.1)).trans GX.out.1; have y1 := (HW.out.cell (wb_ w3 _ GX.out.2.1)).trans GX.out.2.1; have y2 := (HW.out.cell (wb_ w3 _ GX.out.2.2.1)).trans GX.out.2.2.1; have y3 := (HW.out.cell (wb_ w3 _ GX.out.2.2.2.1)).trans GX.out.2.2.2.1; have y4 := (HW.out.cell (wb_ w3 _ GX.out.2.2.2.2.1)).trans GX.out.2.2.2.2.1; have y5 := (HW.out.cell (wb_ w3 _ GX.out.2.2.2.2.2)).trans GX.out.2.2.2.2.2; have z0 := (HW.out.cell (wb_ w3 _ GA.out.1)).trans GA.out.1; have z1 := (HW.out.cell (wb_ w3 _ GA.out.2.1)).trans GA.out.2.1; have z2 := (HW.out.cell (wb_ w3 _ GA.out.2.2.1)).trans GA.out.2.2.1; have z3 := (HW.out.cell (wb_ w3 _ GA.out.2.2.2.1)).trans GA.out.2.2.2.1; have z4 := (HW.out.cell (wb_ w3 _ GA.out.2.2.2.2.1)).trans GA.out.2.2.2.2.1; have z5 := (HW.out.cell (wb_ w3 _ GA.out.2.2.2.2.2)).trans GA.out.2.2.2.2.2; have t0 := (HW.out.cell (wb_ w3 _ GD.out.1)).trans GD.out.1; have t1 := (HW.out.cell (wb_ w3 _ GD.out.2.1)).trans GD.out.2.1; have t2 := (HW.out.cell (wb_ w3 _ GD.out.2.2.1)).trans GD.out.2.2.1; have t3 := (HW.out.cell (wb_ w3 _ GD.out.2.2.2.1)).trans GD.out.2.2.2.1; have t4 := (HW.out.cell (wb_ w3 _ GD.out.2.2.2.2.1)).trans GD.out.2.2.2.2.1; have t5 := (HW.out.cell (wb_ w3 _ GD.out.2.2.2.2.2)).trans GD.out.2.2.2.2.2
    go_wp2_with (first | (go_at_call 25; (with_reducible refine (CL.out _).mono ?_); rintro e w6 ⟨rfl, hb2⟩; replace HW := am_ (bt_ HW.out hb2); clear hb2 y0 y1 y2 y3 y4 y5 z0 z1 z2 z3 z4 z5 t0 t1 t2 t3 t4 t5; have y0 := (HW.out.cell (wb_ w3 _ GX.out.1)).trans GX.out.1; have y1 := (HW.out.cell (wb_ w3 _ GX.out.2.1)).trans GX.out.2.1; have y2 := (HW.out.cell (wb_ w3 _ GX.out.2.2.1)).trans GX.out.2.2.1; have y3 := (HW.out.cell (wb_ w3 _ GX.out.2.2.2.1)).trans GX.out.2.2.2.1; have y4 := (HW.out.cell (wb_ w3 _ GX.out.2.2.2.2.1)).trans GX.out.2.2.2.2.1; have y5 := (HW.out.cell (wb_ w3 _ GX.out.2.2.2.2.2)).trans GX.out.2.2.2.2.2; have z0 := (HW.out.cell (wb_ w3 _ GA.out.1)).trans GA.out.1; have z1 := (HW.out.cell (wb_ w3 _ GA.out.2.1)).trans GA.out.2.1; have z2 := (HW.out.cell (wb_ w3 _ GA.out.2.2.1)).trans GA.out.2.2.1; have z3 := (HW.out.cell (wb_ w3 _ GA.out.2.2.2.1)).trans GA.out.2.2.2.1; have z4 := (HW.out.cell (wb_ w3 _ GA.out.2.2.2.2.1)).trans GA.out.2.2.2.2.1; have z5 := (HW.out.cell (wb_ w3 _ GA.out.2.2.2.2.2)).trans GA.out.2.2.2.2.2; have t0 := (HW.out.cell (wb_ w3 _ GD.out.1)).trans GD.out.1; have t1 := (HW.out.cell (wb_ w3 _ GD.out.2.1)).trans GD.out.2.1; have t2 := (HW.out.cell (wb_ w3 _ GD.out.2.2.1)).trans GD.out.2.2.1; have t3 := (HW.out.cell (wb_ w3 _ GD.out.2.2.2.1)).trans GD.out.2.2.2.1; have t4 := (HW.out.cell (wb_ w3 _ GD.out.2.2.2.2.1)).trans GD.out.2.2.2.2.1; have t5 := (HW.out.cell (wb_ w3 _ GD.out.2.2.2.2.2)).trans GD.out.2.2.2.2.2))
    have HW1 := am_ (below_drew HW.out)
    refine seqS (S := pinfoldlaw18_DropOwn.S (ad.add (i.toNat * 6)) (ada.add (i.toNat * 6)) (adb.add (i.toNat * 6)) x0 x1 x2 x3 x4 x5 x0 x1 x2 x3 x4 x5 x0 x1 x2 x3 x4 x5) 65 (by kernel_rfl) rfl rfl (by unfold pinfoldlaw18_DropOwn.S; exact ⟨(HW1.out.cell (wb_ w3 _ GX.out.1)).trans GX.out.1, (HW1.out.cell (wb_ w3 _ GX.out.2.1)).trans GX.out.2.1, (HW1.out.cell (wb_ w3 _ GX.out.2.2.1)).trans GX.out.2.2.1, (HW1.out.cell (wb_ w3 _ GX.out.2.2.2.1)).trans GX.out.2.2.2.1, (HW1.out.cell (wb_ w3 _ GX.out.2.2.2.2.1)).trans GX.out.2.2.2.2.1, (HW1.out.cell (wb_ w3 _ GX.out.2.2.2.2.2)).trans GX.out.2.2.2.2.2, (HW1.out.cell (wb_ w3 _ GA.out.1)).trans GA.out.1, (HW1.out.cell (wb_ w3 _ GA.out.2.1)).trans GA.out.2.1, (HW1.out.cell (wb_ w3 _ GA.out.2.2.1)).trans GA.out.2.2.1, (HW1.out.cell (wb_ w3 _ GA.out.2.2.2.1)).trans GA.out.2.2.2.1, (HW1.out.cell (wb_ w3 _ GA.out.2.2.2.2.1)).trans GA.out.2.2.2.2.1, (HW1.out.cell (wb_ w3 _ GA.out.2.2.2.2.2)).trans GA.out.2.2.2.2.2, (HW1.out.cell (wb_ w3 _ GD.out.1)).trans GD.out.1, (HW1.out.cell (wb_ w3 _ GD.out.2.1)).trans GD.out.2.1, (HW1.out.cell (wb_ w3 _ GD.out.2.2.1)).trans GD.out.2.2.1, (HW1.out.cell (wb_ w3 _ GD.out.2.2.2.1)).trans GD.out.2.2.2.1, (HW1.out.cell (wb_ w3 _ GD.out.2.2.2.2.1)).trans GD.out.2.2.2.2.1, (HW1.out.cell (wb_ w3 _ GD.out.2.2.2.2.2)).trans GD.out.2.2.2.2.2⟩) ?_
    intro hHeld
    refine with_tabW pinfoldlaw18_DropOwn.tab13 pinfoldlaw18_DropOwn.bits13 (fun HT_ HW_ => ?_)
    clear HW y0 y1 y2 y3 y4 y5 z0 z1 z2 z3 z4 z5 t0 t1 t2 t3 t4 t5
    iterate 27 first | (refine seqPT HT_ (v := ?_) (a' := ?_) rfl rfl (by kernel_rfl) (fun _ _ _ h => h) (Or.inl ⟨by kernel_rfl, ?_⟩) ?_ ?_; rotate_left; (intro w'; go_simp; with_reducible rfl); rotate_left; (simp only [Act.put, sa_, sb_, sc_, i64_w, i32_w]; rfl)) | (refine seqLT HT_ HW_ (v := ?_) (a' := ?_) rfl rfl (by kernel_rfl) (fun _ _ _ h => h) (Or.inl ⟨by kernel_rfl, ?_⟩) hHeld ?_ ?_; rotate_left; (rintro w' ⟨s0, s1, s2, s3, s4, s5, s6, s7, s8, s9, s10, s11, s12, s13, s14, s15, s16, s17⟩; go_simp; with_reducible rfl); rotate_left; (simp only [Act.put, sa_, sb_, sc_, i64_w, i32_w]; rfl))
    iterate 6 (refine seqPT HT_ (v := undef) (a' := ?_) rfl rfl (by kernel_rfl) (fun _ _ _ h => h) (Or.inr ⟨by kernel_rfl, rfl⟩) ?_ ?_; rotate_left; (simp only [Act.put, sa_, sb_, sc_, i64_w, i32_w]; rfl))
    iterate 2 first | (refine seqPT HT_ (v := ?_) (a' := ?_) rfl rfl (by kernel_rfl) (fun _ _ _ h => h) (Or.inl ⟨by kernel_rfl, ?_⟩) ?_ ?_; rotate_left; (intro w'; go_simp; with_reducible rfl); rotate_left; (simp only [Act.put, sa_, sb_, sc_, i64_w, i32_w]; rfl)) | (refine seqLT HT_ HW_ (v := ?_) (a' := ?_) rfl rfl (by kernel_rfl) (fun _ _ _ h => h) (Or.inl ⟨by kernel_rfl, ?_⟩) hHeld ?_ ?_; rotate_left; (rintro w' ⟨s0, s1, s2, s3, s4, s5, s6, s7, s8, s9, s10, s11, s12, s13, s14, s15, s16, s17⟩; go_simp; with_reducible rfl); rotate_left; (simp only [Act.put, sa_, sb_, sc_, i64_w, i32_w]; rfl))
    iterate 9 (refine seqPT HT_ (v := undef) (a' := ?_) rfl rfl (by kernel_rfl) (fun _ _ _ h => h) (Or.inr ⟨by kernel_rfl, rfl⟩) ?_ ?_; rotate_left; (simp only [Act.put, sa_, sb_, sc_, i64_w, i32_w]; rfl))
    iterate 13 first | (refine seqPT HT_ (v := ?_) (a' := ?_) rfl rfl (by kernel_rfl) (fun _ _ _ h => h) (Or.inl ⟨by kernel_rfl, ?_⟩) ?_ ?_; rotate_left; (intro w'; go_simp; with_reducible rfl); rotate_left; (simp only [Act.put, sa_, sb_, sc_, i64_w, i32_w]; rfl)) | (refine seqLT HT_ HW_ (v := ?_) (a' := ?_) rfl rfl (by kernel_rfl) (fun _ _ _ h => h) (Or.inl ⟨by kernel_rfl, ?_⟩) hHeld ?_ ?_; rotate_left; (rintro w' ⟨s0, s1, s2, s3, s4, s5, s6, s7, s8, s9, s10, s11, s12, s13, s14, s15, s16, s17⟩; go_simp; with_reducible rfl); rotate_left; (simp only [Act.put, sa_, sb_, sc_, i64_w, i32_w]; rfl))
    iterate 6 (refine seqPT HT_ (v := undef) (a' := ?_) rfl rfl (by kernel_rfl) (fun _ _ _ h => h) (Or.inr ⟨by kernel_rfl, rfl⟩) ?_ ?_; rotate_left; (simp only [Act.put, sa_, sb_, sc_, i64_w, i32_w]; rfl))
    iterate 2 first | (refine seqPT HT_ (v := ?_) (a' := ?_) rfl rfl (by kernel_rfl) (fun _ _ _ h => h) (Or.inl ⟨by kernel_rfl, ?_⟩) ?_ ?_; rotate_left; (intro w'; go_simp; with_reducible rfl); rotate_left; (simp only [Act.put, sa_, sb_, sc_, i64_w, i32_w]; rfl)) | (refine seqLT HT_ HW_ (v := ?_) (a' := ?_) rfl rfl (by kernel_rfl) (fun _ _ _ h => h) (Or.inl ⟨by kernel_rfl, ?_⟩) hHeld ?_ ?_; rotate_left; (rintro w' ⟨s0, s1, s2, s3, s4, s5, s6, s7, s8, s9, s10, s11, s12, s13, s14, s15, s16, s17⟩; go_simp; with_reducible rfl); rotate_left; (simp only [Act.put, sa_, sb_, sc_, i64_w, i32_w]; rfl))
    refine seqET HT_ (by kernel_rfl) ?_
    go_wp2
    go_roundg (l1.length - (i.toNat + 1))
    case measure => exact M3.out
    case rel => exact ⟨i + 1, M1.out, M2.out, by first | rfl | (rw [show wrap64 (i + 1) = i + 1 from (i64_w _).symm.trans M4.out]), HW1⟩
   subst q0
   obtain ⟨e, q2, hb1⟩ := HY.out _ hxm rfl
   simp only at e q2
   have hb1' : bl = true := hbl0.symm.trans hb1
   subst hb1'
   rw [if_pos rfl] at ha hb
   have c0 : (x0 == x0) = true := by simp
   have c2 : (x2.toList == a3.toList) = true := by simpa using q2
   rw [decide_eq_true q2, Bool.and_true] at eho
   clear q2
   rw [Bool.true_and] at eho
   subst e
   rw [show decide ((3 : Int) ≠ 3) = false from rfl] at eho
   rw [eho, Bool.false_and] at ebo
   rw [ebo, if_neg (by decide)] at ha
   rw [eho, if_neg (by decide)] at hb
   have GA := am_ ha
   have GD := am_ hb
   clear ha hb eho ebo hst CZ
   have y0 := (HW.out.cell (wb_ w3 _ GX.out.1)).trans GX.out.1; have y1 := (HW.out.cell (wb_ w3 _ GX.out.2.1)).trans GX.out.2.1; have y2 := (HW.out.cell (wb_ w3 _ GX.out.2.2.1)).trans GX.out.2.2.1; have y3 := (HW.out.cell (wb_ w3 _ GX.out.2.2.2.1)).trans GX.out.2.2.2.1; have y4 := (HW.out.cell (wb_ w3 _ GX.out.2.2.2.2.1)).trans GX.out.2.2.2.2.1; have y5 := (HW.out.cell (wb_ w3 _ GX.out.2.2.2.2.2)).trans GX.out.2.2.2.2.2; have z0 := (HW.out.cell (wb_ w3 _ GA.out.1)).trans GA.out.1; have z1 := (HW.out.cell (wb_ w3 _ GA.out.2.1)).trans GA.out.2.1; have z2 := (HW.out.cell (wb_ w3 _ GA.out.2.2.1)).trans GA.out.2.2.1; have z3 := (HW.out.cell (wb_ w3 _ GA.out.2.2.2.1)).trans GA.out.2.2.2.1; have z4 := (HW.out.cell (wb_ w3 _ GA.out.2.2.2.2.1)).trans GA.out.2.2.2.2.1; have z5 := (HW.out.cell (wb_ w3 _ GA.out.2.2.2.2.2)).trans GA.out.2.2.2.2.2; have t0 := (HW.out.cell (wb_ w3 _ GD.out.1)).trans GD.out.1; have t1 := (HW.out.cell (wb_ w3 _ GD.out.2.1)).trans GD.out.2.1; have t2 := (HW.out.cell (wb_ w3 _ GD.out.2.2.1)).trans GD.out.2.2.1; have t3 := (HW.out.cell (wb_ w3 _ GD.out.2.2.2.1)).trans GD.out.2.2.2.1; have t4 := (HW.out.cell (wb_ w3 _ GD.out.2.2.2.2.1)).trans GD.out.2.2.2.2.1; have t5 := (HW.out.cell (wb_ w3 _ GD.out.2.2.2.2.2)).trans GD.out.2.2.2.2.2
   go_wp2_with (first | (go_at_call 25; (with_reducible refine (CL.out _).mono ?_); rintro e w6 ⟨rfl, hb2⟩; replace HW := am_ (bt_ HW.out hb2); clear hb2 y0 y1 y2 y3 y4 y5 z0 z1 z2 z3 z4 z5 t0 t1 t2 t3 t4 t5; have y0 := (HW.out.cell (wb_ w3 _ GX.out.1)).trans GX.out.1; have y1 := (HW.out.cell (wb_ w3 _ GX.out.2.1)).trans GX.out.2.1; have y2 := (HW.out.cell (wb_ w3 _ GX.out.2.2.1)).trans GX.out.2.2.1; have y3 := (HW.out.cell (wb_ w3 _ GX.out.2.2.2.1)).trans GX.out.2.2.2.1; have y4 := (HW.out.cell (wb_ w3 _ GX.out.2.2.2.2.1)).trans GX.out.2.2.2.2.1; have y5 := (HW.out.cell (wb_ w3 _ GX.out.2.2.2.2.2)).trans GX.out.2.2.2.2.2; have z0 := (HW.out.cell (wb_ w3 _ GA.out.1)).trans GA.out.1; have z1 := (HW.out.cell (wb_ w3 _ GA.out.2.1)).trans GA.out.2.1; have z2 := (HW.out.cell (wb_ w3 _ GA.out.2.2.1)).trans GA.out.2.2.1; have z3 := (HW.out.cell (wb_ w3 _ GA.out.2.2.2.1)).trans GA.out.2.2.2.1; have z4 := (HW.out.cell (wb_ w3 _ GA.out.2.2.2.2.1)).trans GA.out.2.2.2.2.1; have z5 := (HW.out.cell (wb_ w3 _ GA.out.2.2.2.2.2)).trans GA.out.2.2.2.2.2; have t0 := (HW.out.cell (wb_ w3 _ GD.out.1)).trans GD.out.1; have t1 := (HW.out.cell (wb_ w3 _ GD.out.2.1)).trans GD.out.2.1; have t2 := (HW.out.cell (wb_ w3 _ GD.out.2.2.1)).trans GD.out.2.2.1; have t3 := (HW.out.cell (wb_ w3 _ GD.out.2.2.2.1)).trans GD.out.2.2.2.1; have t4 := (HW.out.cell (wb_ w3 _ GD.out.2.2.2.2.1)).trans GD.out.2.2.2.2.1; have t5 := (HW.out.cell (wb_ w3 _ GD.out.2.2.2.2.2)).trans GD.out.2.2.2.2.2))
   have HW1 := am_ (below_drew HW.out)
   refine seqS (S := pinfoldlaw18_DropOwn.S (ad.add (i.toNat * 6)) (ada.add (i.toNat * 6)) (adb.add (i.toNat * 6)) x0 3 x2 x3 x4 x5 x0 3 x2 x3 x4 x5 x0 3 x2 x3 x4 x5) 65 (by kernel_rfl) rfl rfl (by unfold pinfoldlaw18_DropOwn.S; exact ⟨(HW1.out.cell (wb_ w3 _ GX.out.1)).trans GX.out.1, (HW1.out.cell (wb_ w3 _ GX.out.2.1)).trans GX.out.2.1, (HW1.out.cell (wb_ w3 _ GX.out.2.2.1)).trans GX.out.2.2.1, (HW1.out.cell (wb_ w3 _ GX.out.2.2.2.1)).trans GX.out.2.2.2.1, (HW1.out.cell (wb_ w3 _ GX.out.2.2.2.2.1)).trans GX.out.2.2.2.2.1, (HW1.out.cell (wb_ w3 _ GX.out.2.2.2.2.2)).trans GX.out.2.2.2.2.2, (HW1.out.cell (wb_ w3 _ GA.out.1)).trans GA.out.1, (HW1.out.cell (wb_ w3 _ GA.out.2.1)).trans GA.out.2.1, (HW1.out.cell (wb_ w3 _ GA.out.2.2.1)).trans GA.out.2.2.1, (HW1.out.cell (wb_ w3 _ GA.out.2.2.2.1)).trans GA.out.2.2.2.1, (HW1.out.cell (wb_ w3 _ GA.out.2.2.2.2.1)).trans GA.out.2.2.2.2.1, (HW1.out.cell (wb_ w3 _ GA.out.2.2.2.2.2)).trans GA.out.2.2.2.2.2, (HW1.out.cell (wb_ w3 _ GD.out.1)).trans GD.out.1, (HW1.out.cell (wb_ w3 _ GD.out.2.1)).trans GD.out.2.1, (HW1.out.cell (wb_ w3 _ GD.out.2.2.1)).trans GD.out.2.2.1, (HW1.out.cell (wb_ w3 _ GD.out.2.2.2.1)).trans GD.out.2.2.2.1, (HW1.out.cell (wb_ w3 _ GD.out.2.2.2.2.1)).trans GD.out.2.2.2.2.1, (HW1.out.cell (wb_ w3 _ GD.out.2.2.2.2.2)).trans GD.out.2.2.2.2.2⟩) ?_
   intro hHeld
   refine with_tabW pinfoldlaw18_DropOwn.tab13 pinfoldlaw18_DropOwn.bits13 (fun HT_ HW_ => ?_)
   clear HW y0 y1 y2 y3 y4 y5 z0 z1 z2 z3 z4 z5 t0 t1 t2 t3 t4 t5
   iterate 3 first | (refine seqPT HT_ (v := ?_) (a' := ?_) rfl rfl (by kernel_rfl) (fun _ _ _ h => h) (Or.inl ⟨by kernel_rfl, ?_⟩) ?_ ?_; rotate_left; (intro w'; go_simp; with_reducible rfl); rotate_left; (simp only [Act.put, sa_, sb_, sc_, i64_w, i32_w]; rfl)) | (refine seqLT HT_ HW_ (v := ?_) (a' := ?_) rfl rfl (by kernel_rfl) (fun _ _ _ h => h) (Or.inl ⟨by kernel_rfl, ?_⟩) hHeld ?_ ?_; rotate_left; (rintro w' ⟨s0, s1, s2, s3, s4, s5, s6, s7, s8, s9, s10, s11, s12, s13, s14, s15, s16, s17⟩; go_simp; with_reducible rfl); rotate_left; (simp only [Act.put, sa_, sb_, sc_, i64_w, i32_w]; rfl))
   iterate 20 (refine seqPT HT_ (v := undef) (a' := ?_) rfl rfl (by kernel_rfl) (fun _ _ _ h => h) (Or.inr ⟨by kernel_rfl, rfl⟩) ?_ ?_; rotate_left; (simp only [Act.put, sa_, sb_, sc_, i64_w, i32_w]; rfl))
   iterate 9 first | (refine seqPT HT_ (v := ?_) (a' := ?_) rfl rfl (by kernel_rfl) (fun _ _ _ h => h) (Or.inl ⟨by kernel_rfl, ?_⟩) ?_ ?_; rotate_left; (intro w'; go_simp; with_reducible rfl); rotate_left; (simp only [Act.put, sa_, sb_, sc_, i64_w, i32_w]; rfl)) | (refine seqLT HT_ HW_ (v := ?_) (a' := ?_) rfl rfl (by kernel_rfl) (fun _ _ _ h => h) (Or.inl ⟨by kernel_rfl, ?_⟩) hHeld ?_ ?_; rotate_left; (rintro w' ⟨s0, s1, s2, s3, s4, s5, s6, s7, s8, s9, s10, s11, s12, s13, s14, s15, s16, s17⟩; go_simp; with_reducible rfl); rotate_left; (simp only [Act.put, sa_, sb_, sc_, i64_w, i32_w]; rfl))
   refine seqGT HT_ (fn := Tryd.f25) rfl rfl (by kernel_rfl) rfl Tryd.func25 (by kernel_rfl) (by kernel_rfl) #[.agg #[.int .i64 x0, .int .i64 3, .string x2, .int .i64 x3, .string x4, .bool x5], .int .i64 a2] (by kernel_rfl) (by (try simp only [List.map_toArray, List.map_cons, List.map_nil]); first | done | rfl) ?_
   with_reducible refine (CL.out _).mono ?_
   rintro e wg ⟨rfl, hb2⟩
   have HW2 := am_ (bt_ HW1.out hb2)
   refine ⟨_, rfl, pinfoldlaw18_DropOwn.S_below hHeld hb2, fun hHeld => ⟨?_, ?_, ?_⟩⟩
   rotate_left
   ·simp only [Act.put, sa_, sb_, sc_, i64_w, i32_w]
    rfl
   clear hb2 HW1
   iterate 2 first | (refine seqPT HT_ (v := ?_) (a' := ?_) rfl rfl (by kernel_rfl) (fun _ _ _ h => h) (Or.inl ⟨by kernel_rfl, ?_⟩) ?_ ?_; rotate_left; (intro w'; go_simp; with_reducible rfl); rotate_left; (simp only [Act.put, sa_, sb_, sc_, i64_w, i32_w]; rfl)) | (refine seqLT HT_ HW_ (v := ?_) (a' := ?_) rfl rfl (by kernel_rfl) (fun _ _ _ h => h) (Or.inl ⟨by kernel_rfl, ?_⟩) hHeld ?_ ?_; rotate_left; (rintro w' ⟨s0, s1, s2, s3, s4, s5, s6, s7, s8, s9, s10, s11, s12, s13, s14, s15, s16, s17⟩; go_simp; with_reducible rfl); rotate_left; (simp only [Act.put, sa_, sb_, sc_, i64_w, i32_w]; rfl))
   iterate 9 first | (refine seqPT HT_ (v := ?_) (a' := ?_) rfl rfl (by kernel_rfl) (fun _ _ _ h => h) (Or.inl ⟨by kernel_rfl, ?_⟩) ?_ ?_; rotate_left; (intro w'; go_simp; with_reducible rfl); rotate_left; (simp only [Act.put, sa_, sb_, sc_, i64_w, i32_w]; rfl)) | (refine seqLT HT_ HW_ (v := ?_) (a' := ?_) rfl rfl (by kernel_rfl) (fun _ _ _ h => h) (Or.inl ⟨by kernel_rfl, ?_⟩) hHeld ?_ ?_; rotate_left; (rintro w' ⟨s0, s1, s2, s3, s4, s5, s6, s7, s8, s9, s10, s11, s12, s13, s14, s15, s16, s17⟩; go_simp; with_reducible rfl); rotate_left; (simp only [Act.put, sa_, sb_, sc_, i64_w, i32_w]; rfl))
   iterate 13 first | (refine seqPT HT_ (v := ?_) (a' := ?_) rfl rfl (by kernel_rfl) (fun _ _ _ h => h) (Or.inl ⟨by kernel_rfl, ?_⟩) ?_ ?_; rotate_left; (intro w'; go_simp; with_reducible rfl); rotate_left; (simp only [Act.put, sa_, sb_, sc_, i64_w, i32_w]; rfl)) | (refine seqLT HT_ HW_ (v := ?_) (a' := ?_) rfl rfl (by kernel_rfl) (fun _ _ _ h => h) (Or.inl ⟨by kernel_rfl, ?_⟩) hHeld ?_ ?_; rotate_left; (rintro w' ⟨s0, s1, s2, s3, s4, s5, s6, s7, s8, s9, s10, s11, s12, s13, s14, s15, s16, s17⟩; go_simp; with_reducible rfl); rotate_left; (simp only [Act.put, sa_, sb_, sc_, i64_w, i32_w]; rfl))
   iterate 6 (refine seqPT HT_ (v := undef) (a' := ?_) rfl rfl (by kernel_rfl) (fun _ _ _ h => h) (Or.inr ⟨by kernel_rfl, rfl⟩) ?_ ?_; rotate_left; (simp only [Act.put, sa_, sb_, sc_, i64_w, i32_w]; rfl))
   iterate 2 first | (refine seqPT HT_ (v := ?_) (a' := ?_) rfl rfl (by kernel_rfl) (fun _ _ _ h => h) (Or.inl ⟨by kernel_rfl, ?_⟩) ?_ ?_; rotate_left; (intro w'; go_simp; with_reducible rfl); rotate_left; (simp only [Act.put, sa_, sb_, sc_, i64_w, i32_w]; rfl)) | (refine seqLT HT_ HW_ (v := ?_) (a' := ?_) rfl rfl (by kernel_rfl) (fun _ _ _ h => h) (Or.inl ⟨by kernel_rfl, ?_⟩) hHeld ?_ ?_; rotate_left; (rintro w' ⟨s0, s1, s2, s3, s4, s5, s6, s7, s8, s9, s10, s11, s12, s13, s14, s15, s16, s17⟩; go_simp; with_reducible rfl); rotate_left; (simp only [Act.put, sa_, sb_, sc_, i64_w, i32_w]; rfl))
   refine seqET HT_ (by kernel_rfl) ?_
   go_wp2
   go_roundg (l1.length - (i.toNat + 1))
   case measure => exact M3.out
   case rel => exact ⟨i + 1, M1.out, M2.out, by first | rfl | (rw [show wrap64 (i + 1) = i + 1 from (i64_w _).symm.trans M4.out]), HW2⟩
  ·go_wp2
   go_ret
   exact ⟨rfl, bt_ HB.out HW.out⟩
theorem pinfoldlaw18_DropOwn.calls (a0_0 : Int) (a0_1 : Int) (A0_2 : Option Addr) (c0_2 : Nat) (l0_2 : List Int) (A0_3 : Option Addr) (c0_3 : Nat) (l0_3 : List S72) (a0_4 : Int) (a0_5 : ByteArray) (A0_6 : Option Addr) (c0_6 : Nat) (l0_6 : List S74) (A1 : Option Addr) (c1 : Nat) (l1 : List S42) (a2 : Int) (a3 : ByteArray) (a4 : Int) (r : Bool) (w : World) (hr0_2 : Kd.C (Kd.int .i64) w A0_2 l0_2.length l0_2) (hc0_2 : l0_2.length ≤ c0_2) (hr0_3 : Kd.C k72 w A0_3 l0_3.length l0_3) (hc0_3 : l0_3.length ≤ c0_3) (hr0_6 : Kd.C k74 w A0_6 l0_6.length l0_6) (hc0_6 : l0_6.length ≤ c0_6) (hr1 : Kd.C k42 w A1 l1.length l1) (hc1 : l1.length ≤ c1) (h : pinfoldlaw18_DropOwn.f a0_0 a0_1 l0_2 l0_3 a0_4 a0_5 l0_6 l1 a2 a3 a4 = some r) :
  Calls Tryd.prog 4 #[.agg #[.int .i64 a0_0, .int .i64 a0_1, .slice A0_2 l0_2.length c0_2, .slice A0_3 l0_3.length c0_3, .int .i64 a0_4, .string a0_5, .slice A0_6 l0_6.length c0_6], .slice A1 l1.length c1, .int .i64 a2, .string a3, .int .i64 a4] w fun e w' => e = .returned (.bool r) ∧ Below w.heap.size w w' := by
 unfold pinfoldlaw18_DropOwn.f at h
 by_cases hs : pickFit l0_2 l0_3 a0_5 l0_6 l1
 rotate_left
 ·rw [if_neg hs] at h
  cases h
 rw [if_pos hs] at h
 obtain rfl := e5_ h
 cases h1 : (pickMayB a0_0 a0_1 l0_2 l0_3 a0_4 a0_5 l0_6 l1 a2 a3 && decide (0 ≤ a2 ∧ a2 ≤ 1099510579200)) with
 | false => exact pinfoldlaw18_DropOwn.calls_f a0_0 a0_1 A0_2 c0_2 l0_2 A0_3 c0_3 l0_3 a0_4 a0_5 A0_6 c0_6 l0_6 A1 c1 l1 a2 a3 a4 w hr0_2 hc0_2 hr0_3 hc0_3 hr0_6 hc0_6 hr1 hc1 hs h1
 | true =>
  by_cases q : ∃ y ∈ l1, y.f0 = a4 ∧ y.f2.toList = a3.toList ∧ liveX a2 y = true
  ·obtain ⟨y, hy, hy0, hy2, hyl⟩ := q
   have hst : y.f1 = 1 ∨ y.f1 = 2 ∨ y.f1 = 3 := by
    have e2 : liveB y.f0 y.f1 y.f2 y.f3 y.f4 y.f5 a2 = true := hyl
    unfold liveB leaseB stateB at e2
    simp only [Bool.and_eq_true, decide_eq_true_eq] at e2
    obtain ⟨⟨⟨⟨⟨⟨_, h⟩, _⟩, _⟩, _⟩, h0⟩, _⟩ := e2
    by_cases q0 : y.f1 = 0 ∨ y.f1 = 3
    ·omega
    rw [if_neg q0] at h
    by_cases q1 : y.f1 = 1
    ·omega
    rw [if_neg q1] at h
    by_cases q2 : y.f1 = 2
    ·omega
    rw [if_neg q2] at h
    cases h
   rcases hst with e | e | e
   ·exact pinfoldlaw18_DropOwn.calls_1 a0_0 a0_1 A0_2 c0_2 l0_2 A0_3 c0_3 l0_3 a0_4 a0_5 A0_6 c0_6 l0_6 A1 c1 l1 a2 a3 a4 w hr0_2 hc0_2 hr0_3 hc0_3 hr0_6 hc0_6 hr1 hc1 hs h1 y hy hy0 e hy2 hyl
   ·exact pinfoldlaw18_DropOwn.calls_2 a0_0 a0_1 A0_2 c0_2 l0_2 A0_3 c0_3 l0_3 a0_4 a0_5 A0_6 c0_6 l0_6 A1 c1 l1 a2 a3 a4 w hr0_2 hc0_2 hr0_3 hc0_3 hr0_6 hc0_6 hr1 hc1 hs h1 y hy hy0 e hy2 hyl
   ·exact pinfoldlaw18_DropOwn.calls_3 a0_0 a0_1 A0_2 c0_2 l0_2 A0_3 c0_3 l0_3 a0_4 a0_5 A0_6 c0_6 l0_6 A1 c1 l1 a2 a3 a4 w hr0_2 hc0_2 hr0_3 hc0_3 hr0_6 hc0_6 hr1 hc1 hs h1 y hy hy0 e hy2 hyl
  ·exact pinfoldlaw18_DropOwn.calls_no a0_0 a0_1 A0_2 c0_2 l0_2 A0_3 c0_3 l0_3 a0_4 a0_5 A0_6 c0_6 l0_6 A1 c1 l1 a2 a3 a4 w hr0_2 hc0_2 hr0_3 hc0_3 hr0_6 hc0_6 hr1 hc1 hs h1 (fun x hx e h => q ⟨x, hx, e, h.1, h.2⟩)


/-- THE ONE PURE STATEMENT of pinfoldlaw18_DropOwn. -/
def pinfoldlaw18_DropOwn.Pure : Prop := ∀ (a0_0 : Int) (a0_1 : Int) (l0_2 : List Int) (l0_3 : List (S72)) (a0_4 : Int) (a0_5 : ByteArray) (l0_6 : List (S74)) (l1 : List (S42)) (a2 : Int) (a3 : ByteArray) (a4 : Int), (Lit.int .i64 a0_0).wf = true → (Lit.int .i64 a0_1).wf = true → (l0_2.length * Tryd.prog.bytesOf 3 ≤ 140737488351232 ∧ ∀ y0_ ∈ l0_2, (Lit.int .i64 y0_).wf = true) → (l0_3.length * Tryd.prog.bytesOf 72 ≤ 140737488351232 ∧ ∀ y0_ ∈ l0_3, (y0_.f0.size ≤ 140737488351232 ∧ (Lit.int .i64 y0_.f1).wf = true)) → (Lit.int .i64 a0_4).wf = true → a0_5.size ≤ 140737488351232 → (l0_6.length * Tryd.prog.bytesOf 74 ≤ 140737488351232 ∧ ∀ y0_ ∈ l0_6, (y0_.f0.size ≤ 140737488351232 ∧ ((Lit.int .i64 y0_.f1).wf = true ∧ ((Lit.int .i64 y0_.f2).wf = true ∧ ((Lit.int .i64 y0_.f3).wf = true ∧ (y0_.f4.size ≤ 140737488351232 ∧ (y0_.f5.size ≤ 140737488351232 ∧ (Lit.int .i64 y0_.f6).wf = true))))))) → (l1.length * Tryd.prog.bytesOf 42 ≤ 140737488351232 ∧ ∀ y0_ ∈ l1, ((Lit.int .i64 y0_.f0).wf = true ∧ ((Lit.int .i64 y0_.f1).wf = true ∧ (y0_.f2.size ≤ 140737488351232 ∧ ((Lit.int .i64 y0_.f3).wf = true ∧ (y0_.f4.size ≤ 140737488351232 ∧ True)))))) → (Lit.int .i64 a2).wf = true → a3.size ≤ 140737488351232 → (Lit.int .i64 a4).wf = true → pinfoldlaw18_DropOwn.f a0_0 a0_1 l0_2 l0_3 a0_4 a0_5 l0_6 l1 a2 a3 a4 = some true
theorem pinfoldlaw18_DropOwn.walk (P : pinfoldlaw18_DropOwn.Pure) (a0_0 : Int) (a0_1 : Int) (A0_2 : Option Addr) (c0_2 : Nat) (l0_2 : List Int) (A0_3 : Option Addr) (c0_3 : Nat) (l0_3 : List (S72)) (a0_4 : Int) (a0_5 : ByteArray) (A0_6 : Option Addr) (c0_6 : Nat) (l0_6 : List (S74)) (A1 : Option Addr) (c1 : Nat) (l1 : List (S42)) (a2 : Int) (a3 : ByteArray) (a4 : Int) (w : World) (hr0_2 : Kd.C (Kd.int .i64) w A0_2 l0_2.length l0_2) (hc0_2 : l0_2.length ≤ c0_2) (hr0_3 : Kd.C k72 w A0_3 l0_3.length l0_3) (hc0_3 : l0_3.length ≤ c0_3) (hr0_6 : Kd.C k74 w A0_6 l0_6.length l0_6) (hc0_6 : l0_6.length ≤ c0_6) (hr1 : Kd.C k42 w A1 l1.length l1) (hc1 : l1.length ≤ c1) (w0_0 : (Lit.int .i64 a0_0).wf = true) (w0_1 : (Lit.int .i64 a0_1).wf = true) (w0_2 : (l0_2.length * Tryd.prog.bytesOf 3 ≤ 140737488351232 ∧ ∀ y0_ ∈ l0_2, (Lit.int .i64 y0_).wf = true)) (w0_3 : (l0_3.length * Tryd.prog.bytesOf 72 ≤ 140737488351232 ∧ ∀ y0_ ∈ l0_3, (y0_.f0.size ≤ 140737488351232 ∧ (Lit.int .i64 y0_.f1).wf = true))) (w0_4 : (Lit.int .i64 a0_4).wf = true) (w0_5 : a0_5.size ≤ 140737488351232) (w0_6 : (l0_6.length * Tryd.prog.bytesOf 74 ≤ 140737488351232 ∧ ∀ y0_ ∈ l0_6, (y0_.f0.size ≤ 140737488351232 ∧ ((Lit.int .i64 y0_.f1).wf = true ∧ ((Lit.int .i64 y0_.f2).wf = true ∧ ((Lit.int .i64 y0_.f3).wf = true ∧ (y0_.f4.size ≤ 140737488351232 ∧ (y0_.f5.size ≤ 140737488351232 ∧ (Lit.int .i64 y0_.f6).wf = true)))))))) (w1 : (l1.length * Tryd.prog.bytesOf 42 ≤ 140737488351232 ∧ ∀ y0_ ∈ l1, ((Lit.int .i64 y0_.f0).wf = true ∧ ((Lit.int .i64 y0_.f1).wf = true ∧ (y0_.f2.size ≤ 140737488351232 ∧ ((Lit.int .i64 y0_.f3).wf = true ∧ (y0_.f4.size ≤ 140737488351232 ∧ True))))))) (w2 : (Lit.int .i64 a2).wf = true) (w3 : a3.size ≤ 140737488351232) (w4 : (Lit.int .i64 a4).wf = true) :
  Calls Tryd.prog 4 #[.agg #[.int .i64 a0_0, .int .i64 a0_1, .slice A0_2 l0_2.length c0_2, .slice A0_3 l0_3.length c0_3, .int .i64 a0_4, .string a0_5, .slice A0_6 l0_6.length c0_6], .slice A1 l1.length c1, .int .i64 a2, .string a3, .int .i64 a4] w fun e w' => e = .returned (.bool true) ∧ Below w.heap.size w w' := by
 have h := P a0_0 a0_1 l0_2 l0_3 a0_4 a0_5 l0_6 l1 a2 a3 a4 w0_0 w0_1 w0_2 w0_3 w0_4 w0_5 w0_6 w1 w2 w3 w4
 refine (pinfoldlaw18_DropOwn.calls a0_0 a0_1 _ _ l0_2 _ _ l0_3 a0_4 a0_5 _ _ l0_6 _ _ l1 a2 a3 a4 true w hr0_2 hc0_2 hr0_3 hc0_3 hr0_6 hc0_6 hr1 hc1 h).mono ?_
 rintro e w' ⟨rfl, hd⟩
 exact ⟨rfl, hd⟩
end Go.Proofs.YtmoobaehoccihaaDoor.PK
