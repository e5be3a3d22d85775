-- Made by wip/pr.py out of the translation (a turned copy of the kit's print; contracts by hand where said).
import Derived.Test.YtibalpbkmgegnaaDoorPNx0
import Derived.Test.YtibalpbkmgegnaaDoorPNx2
import Derived.Test.YtibalpbkmgegnaaDoorPNx3
import Derived.Test.YtibalpbkmgegnaaDoorPNx4
import Derived.Test.YtibalpbkmgegnaaDoorPNx11
import Derived.Test.YtibalpbkmgegnaaDoorPNx12
import Derived.Test.YtibalpbkmgegnaaDoorPNx13
import Derived.Test.YtibalpbkmgegnaaDoorPNx14
import Derived.Test.YtibalpbkmgegnaaDoorPNx15
namespace Go.Proofs.YtibalpbkmgegnaaDoor.PN
open Go.RowKit Go.Proofs.YtibalpbkmgegnaaDoorW.PrintWords Go.Proofs.YtibalpbkmgegnaaDoorW.PrintLast Go.Proofs.YtibalpbkmgegnaaDoorW.PrintMore
-- shrunk
attribute [local go_sem] max2_int min2_int max_two min_two max_three min_three max_four min_four   -- for this text's walks alone
set_option linter.unusedVariables false
set_option linter.unusedSimpArgs false

/-! ### pinfoldlaw17_ClaimOne: function 3 -/
-- BY HAND
-- 8 9 10 11 12 13 14 15
def pinfoldlaw17_ClaimOne.T10 : Bool × List (List Nat × List Nat) := (true, [([], []), ([0], [0]), ([1], [1]), ([2], [2]), ([2], [2]), ([3, 4, 2], [2, 3, 4]), ([5, 2], [2, 5]), ([2], [2]), ([6, 7, 2, 2], [2, 6, 7]), ([8, 8, 2], [2, 8]), ([9], [9]), ([9], [9]), ([10, 11, 9], [9, 10, 11]), ([12, 9], [9, 12]), ([13, 9], [9, 13]), ([9], [9]), ([14, 15, 9], [9, 14, 15]), ([9, 16, 2], [2, 9, 16]), ([17, 9, 2], [2, 17]), ([18], [18]), ([18], [18]), ([18], [18]), ([20, 21, 18], [18, 20, 21]), ([22, 18], [18, 22]), ([19, 23, 18], [18, 19, 23]), ([18, 24, 2], [2, 18, 24]), ([2, 25], [2, 25])])
def pinfoldlaw17_ClaimOne.B10 : List Nat := [0, 1, 3, 7, 7, 31, 63, 7, 255, 511, 1023, 1023, 4095, 8191, 16383, 1023, 65535, 131071, 262143, 524287, 524287, 524287, 3670015, 7864319, 16777215, 33554431, 67108863]
theorem pinfoldlaw17_ClaimOne.tab10 : rtab .any (opsOf Tryd.f3 10) = pinfoldlaw17_ClaimOne.T10 := by kernel_rfl
theorem pinfoldlaw17_ClaimOne.bits10 : waitsOk pinfoldlaw17_ClaimOne.T10.2 pinfoldlaw17_ClaimOne.B10 = true := by kernel_rfl
def pinfoldlaw17_ClaimOne.T26 : Bool × List (List Nat × List Nat) := (true, [([], []), ([0], [0]), ([1], [1]), ([2], [2]), ([2], [2]), ([3, 4, 2], [2, 3, 4]), ([5, 2], [2, 5]), ([6, 2], [2, 6]), ([2], [2]), ([7, 8, 2], [2, 7, 8]), ([2, 9], [2, 9]), ([10, 2], [10]), ([11], [11]), ([11], [11]), ([12, 13, 11], [11, 12, 13]), ([14, 11], [11, 14]), ([15, 11], [11, 15]), ([11, 16], [11, 16]), ([17, 11], [17]), ([18], [18]), ([18], [18]), ([19, 20, 18], [18, 19, 20]), ([21, 18], [18, 21]), ([18], [18]), ([22, 23, 18, 18], [18, 22, 23]), ([18, 24], [18, 24]), ([25, 24], [25]), ([26], [26]), ([26], [26]), ([26], [26]), ([28, 29, 26], [26, 28, 29]), ([30, 26], [26, 30]), ([31, 26], [26, 31]), ([27, 32, 26, 26], [26, 27, 32]), ([26], [26]), ([26], [26]), ([35, 26], [26, 35]), ([34, 36, 33, 26], [26, 34, 36]), ([33, 37, 26], [26, 33, 37]), ([26, 38], [26, 38])])
def pinfoldlaw17_ClaimOne.B26 : List Nat := [0, 1, 3, 7, 7, 31, 63, 127, 7, 511, 1023, 2047, 4095, 4095, 16383, 32767, 65535, 131071, 262143, 524287, 524287, 2097151, 4194303, 524287, 16777215, 33554431, 67108863, 134217727, 134217727, 134217727, 939524095, 2013265919, 4160749567, 8589934591, 134217727, 134217727, 34493956095, 137438953471, 274877906943, 549755813887]
theorem pinfoldlaw17_ClaimOne.tab26 : rtab .any (opsOf Tryd.f3 26) = pinfoldlaw17_ClaimOne.T26 := by kernel_rfl
theorem pinfoldlaw17_ClaimOne.bits26 : waitsOk pinfoldlaw17_ClaimOne.T26.2 pinfoldlaw17_ClaimOne.B26 = true := by kernel_rfl
def pinfoldlaw17_ClaimOne.S10 (pa : Addr) (gv : Nat) (y0 y1 : Int) (y2 : ByteArray) (y3 : Int) (y4 : ByteArray) (y5 : Bool) (v0 v1 : Int) (v2 : ByteArray) (v3 : Int) (v4 : ByteArray) (v5 : Bool) (w' : World) : Prop := w'.cell? pa = some (.int .i64 y0) ∧ w'.cell? ⟨pa.block, pa.off + 1, none⟩ = some (.int .i64 y1) ∧ w'.cell? ⟨pa.block, pa.off + 2, none⟩ = some (.string y2) ∧ w'.cell? ⟨pa.block, pa.off + 3, none⟩ = some (.int .i64 y3) ∧ w'.cell? ⟨pa.block, pa.off + 4, none⟩ = some (.string y4) ∧ w'.cell? ⟨pa.block, pa.off + 5, none⟩ = some (.bool y5) ∧ w'.cell? ⟨gv, 0, none⟩ = some (.int .i64 v0) ∧ w'.cell? ⟨gv, 1, none⟩ = some (.int .i64 v1) ∧ w'.cell? ⟨gv, 2, none⟩ = some (.string v2) ∧ w'.cell? ⟨gv, 3, none⟩ = some (.int .i64 v3) ∧ w'.cell? ⟨gv, 4, none⟩ = some (.string v4) ∧ w'.cell? ⟨gv, 5, none⟩ = some (.bool v5)
theorem pinfoldlaw17_ClaimOne.S10_below {w w2 : World} {pa : Addr} {gv : Nat} {y0 y1 : Int} {y2 : ByteArray} {y3 : Int} {y4 : ByteArray} {y5 : Bool} {v0 v1 : Int} {v2 : ByteArray} {v3 : Int} {v4 : ByteArray} {v5 : Bool} (h : pinfoldlaw17_ClaimOne.S10 pa gv y0 y1 y2 y3 y4 y5 v0 v1 v2 v3 v4 v5 w) (hb : Below w.heap.size w w2) : pinfoldlaw17_ClaimOne.S10 pa gv y0 y1 y2 y3 y4 y5 v0 v1 v2 v3 v4 v5 w2 := by
 obtain ⟨s0, s1, s2, s3, s4, s5, s6, s7, s8, s9, s10, s11⟩ := h
 exact ⟨(hb.cell (wb_ _ _ s0)).trans s0, (hb.cell (wb_ _ _ s1)).trans s1, (hb.cell (wb_ _ _ s2)).trans s2, (hb.cell (wb_ _ _ s3)).trans s3, (hb.cell (wb_ _ _ s4)).trans s4, (hb.cell (wb_ _ _ s5)).trans s5, (hb.cell (wb_ _ _ s6)).trans s6, (hb.cell (wb_ _ _ s7)).trans s7, (hb.cell (wb_ _ _ s8)).trans s8, (hb.cell (wb_ _ _ s9)).trans s9, (hb.cell (wb_ _ _ s10)).trans s10, (hb.cell (wb_ _ _ s11)).trans s11⟩
def pinfoldlaw17_ClaimOne.S26 (gb gc : Nat) (pa : Addr) (b0 b1 : Int) (b2 : ByteArray) (b3 : Int) (b4 : ByteArray) (b5 : Bool) (y0 y1 : Int) (y2 : ByteArray) (y3 : Int) (y4 : ByteArray) (y5 : Bool) (a0_0 : Int) (a0_1 : Int) (A0_2 : Option Addr) (c0_2 : Nat) (l0_2 : List Int) (A0_3 : Option Addr) (c0_3 : Nat) (l0_3 : List S72) (a0_4 : Int) (a0_5 : ByteArray) (A0_6 : Option Addr) (c0_6 : Nat) (l0_6 : List S74) (w' : World) : Prop := w'.cell? ⟨gb, 0, none⟩ = some (.int .i64 b0) ∧ w'.cell? ⟨gb, 1, none⟩ = some (.int .i64 b1) ∧ w'.cell? ⟨gb, 2, none⟩ = some (.string b2) ∧ w'.cell? ⟨gb, 3, none⟩ = some (.int .i64 b3) ∧ w'.cell? ⟨gb, 4, none⟩ = some (.string b4) ∧ w'.cell? ⟨gb, 5, none⟩ = some (.bool b5) ∧ w'.cell? pa = some (.int .i64 y0) ∧ w'.cell? ⟨pa.block, pa.off + 1, none⟩ = some (.int .i64 y1) ∧ w'.cell? ⟨pa.block, pa.off + 2, none⟩ = some (.string y2) ∧ w'.cell? ⟨pa.block, pa.off + 3, none⟩ = some (.int .i64 y3) ∧ w'.cell? ⟨pa.block, pa.off + 4, none⟩ = some (.string y4) ∧ w'.cell? ⟨pa.block, pa.off + 5, none⟩ = some (.bool y5) ∧ w'.cell? ⟨gc, 0, none⟩ = some (.int .i64 a0_0) ∧ w'.cell? ⟨gc, 1, none⟩ = some (.int .i64 a0_1) ∧ w'.cell? ⟨gc, 2, none⟩ = some (.slice A0_2 l0_2.length c0_2) ∧ w'.cell? ⟨gc, 3, none⟩ = some (.slice A0_3 l0_3.length c0_3) ∧ w'.cell? ⟨gc, 4, none⟩ = some (.int .i64 a0_4) ∧ w'.cell? ⟨gc, 5, none⟩ = some (.string a0_5) ∧ w'.cell? ⟨gc, 6, none⟩ = some (.slice A0_6 l0_6.length c0_6)
theorem pinfoldlaw17_ClaimOne.S26_below {w w2 : World} {gb gc : Nat} {pa : Addr} {b0 b1 : Int} {b2 : ByteArray} {b3 : Int} {b4 : ByteArray} {b5 : Bool} {y0 y1 : Int} {y2 : ByteArray} {y3 : Int} {y4 : ByteArray} {y5 : Bool} {a0_0 : Int} {a0_1 : Int} {A0_2 : Option Addr} {c0_2 : Nat} {l0_2 : List Int} {A0_3 : Option Addr} {c0_3 : Nat} {l0_3 : List S72} {a0_4 : Int} {a0_5 : ByteArray} {A0_6 : Option Addr} {c0_6 : Nat} {l0_6 : List S74} (h : pinfoldlaw17_ClaimOne.S26 gb gc pa b0 b1 b2 b3 b4 b5 y0 y1 y2 y3 y4 y5 a0_0 a0_1 A0_2 c0_2 l0_2 A0_3 c0_3 l0_3 a0_4 a0_5 A0_6 c0_6 l0_6 w) (hb : Below w.heap.size w w2) : pinfoldlaw17_ClaimOne.S26 gb gc pa b0 b1 b2 b3 b4 b5 y0 y1 y2 y3 y4 y5 a0_0 a0_1 A0_2 c0_2 l0_2 A0_3 c0_3 l0_3 a0_4 a0_5 A0_6 c0_6 l0_6 w2 := by
 obtain ⟨s0, s1, s2, s3, s4, s5, s6, s7, s8, s9, s10, s11, s12, s13, s14, s15, s16, s17, s18⟩ := h
 exact ⟨(hb.cell (wb_ _ _ s0)).trans s0, (hb.cell (wb_ _ _ s1)).trans s1, (hb.cell (wb_ _ _ s2)).trans s2, (hb.cell (wb_ _ _ s3)).trans s3, (hb.cell (wb_ _ _ s4)).trans s4, (hb.cell (wb_ _ _ s5)).trans s5, (hb.cell (wb_ _ _ s6)).trans s6, (hb.cell (wb_ _ _ s7)).trans s7, (hb.cell (wb_ _ _ s8)).trans s8, (hb.cell (wb_ _ _ s9)).trans s9, (hb.cell (wb_ _ _ s10)).trans s10, (hb.cell (wb_ _ _ s11)).trans s11, (hb.cell (wb_ _ _ s12)).trans s12, (hb.cell (wb_ _ _ s13)).trans s13, (hb.cell (wb_ _ _ s14)).trans s14, (hb.cell (wb_ _ _ s15)).trans s15, (hb.cell (wb_ _ _ s16)).trans s16, (hb.cell (wb_ _ _ s17)).trans s17, (hb.cell (wb_ _ _ s18)).trans s18⟩
theorem pinfoldlaw17_ClaimOne.mem (l : List S36) (i : Int) (h0 : 0 ≤ i) (h1 : i < (l.length : Int)) : rd_T36 l i ∈ l := (dropLease l i h0 h1).2
theorem pinfoldlaw17_ClaimOne.cnt (p : S36 → Bool) (l : List S36) (i : Int) (h0 : 0 ≤ i) (h1 : i < (l.length : Int)) : ((l.take (i + 1).toNat).filter p).length = ((l.take i.toNat).filter p).length + (if p (rd_T36 l i) = true then 1 else 0) := by
 have h : i.toNat < l.length := by omega
 have e : rd_T36 l i = l[i.toNat] := by
  unfold rd_T36
  rw [List.getD_eq_getElem?_getD, List.getElem?_eq_getElem h]
  rfl
 rw [e, show (i + 1).toNat = i.toNat + 1 by omega, List.take_succ_eq_append_getElem h, List.filter_append, List.length_append, List.filter_cons]
 split <;> simp
def pinfoldlaw17_ClaimOne.f (a0_0 : Int) (a0_1 : Int) (l0_2 : List Int) (l0_3 : List S72) (a0_4 : Int) (a0_5 : ByteArray) (l0_6 : List S74) (l1 : List S36) (_a2 : Int) (_a3 : ByteArray) (_q0 : Bool) (_q1 _q2 _q3 : Int) (q4 : ByteArray) : Option Bool := if pickFit l0_2 l0_3 a0_5 l0_6 l1 ∧ q4.size ≤ 140737488351232 then some true else none
set_option maxHeartbeats 8000000 in
set_option maxRecDepth 100000 in
theorem pinfoldlaw17_ClaimOne.no (a0_0 : Int) (a0_1 : Int) (A0_2 : Option Addr) (c0_2 : Nat) (l0_2 : List Int) (A0_3 : Option Addr) (c0_3 : Nat) (l0_3 : List S72) (a0_4 : Int) (a0_5 : ByteArray) (A0_6 : Option Addr) (c0_6 : Nat) (l0_6 : List S74) (A1 : Option Addr) (c1 : Nat) (l1 : List S36) (a2 : Int) (a3 : ByteArray) (q0 : Bool) (q1 q2 q3 : Int) (q4 : ByteArray) (w : World) (hr0_2 : Kd.C (Kd.int .i64) w A0_2 l0_2.length l0_2) (hc0_2 : l0_2.length ≤ c0_2) (hr0_3 : Kd.C k72 w A0_3 l0_3.length l0_3) (hc0_3 : l0_3.length ≤ c0_3) (hr0_6 : Kd.C k74 w A0_6 l0_6.length l0_6) (hc0_6 : l0_6.length ≤ c0_6) (hr1 : Kd.C k36 w A1 l1.length l1) (hc1 : l1.length ≤ c1) (hv : claim_Claim.f a0_0 a0_1 l0_2 l0_3 a0_4 a0_5 l0_6 l1 a2 a3 q0 q1 q2 q3 q4 = some ([], 0, 0, 1700)) :
  Calls Tryd.prog 3 #[.agg #[.int .i64 a0_0, .int .i64 a0_1, .slice A0_2 l0_2.length c0_2, .slice A0_3 l0_3.length c0_3, .int .i64 a0_4, .string a0_5, .slice A0_6 l0_6.length c0_6], .slice A1 l1.length c1, .int .i64 a2, .string a3, .agg #[.bool q0, .int .i64 q1, .int .i64 q2, .int .i64 q3, .string q4]] w fun e w' => e = .returned (.bool true) ∧ Below w.heap.size w w' := by
 have Cw := am_ (fun W => pinfoldlaw17_awake.calls true W rfl)
 have Cn := am_ (fun x W => pinfoldlaw0_Num.calls x x W rfl)
 have HB := am_ (show Below w.heap.size w ((w.alloc (.cells #[.int .i64 a0_0, .int .i64 a0_1, .slice A0_2 l0_2.length c0_2, .slice A0_3 l0_3.length c0_3, .int .i64 a0_4, .string a0_5, .slice A0_6 l0_6.length c0_6] 26)).alloc (.cells #[.bool q0, .int .i64 q1, .int .i64 q2, .int .i64 q3, .string q4] 29)) by repeat (first | exact Below.refl _ _ | apply p3_))
 have BK := am_ (k1_ (blk_new w (.cells #[.int .i64 a0_0, .int .i64 a0_1, .slice A0_2 l0_2.length c0_2, .slice A0_3 l0_3.length c0_3, .int .i64 a0_4, .string a0_5, .slice A0_6 l0_6.length c0_6] 26)) (.cells #[.bool q0, .int .i64 q1, .int .i64 q2, .int .i64 q3, .string q4] 29))
 have BQ := am_ (show ((w.alloc (.cells #[.int .i64 a0_0, .int .i64 a0_1, .slice A0_2 l0_2.length c0_2, .slice A0_3 l0_3.length c0_3, .int .i64 a0_4, .string a0_5, .slice A0_6 l0_6.length c0_6] 26)).alloc (.cells #[.bool q0, .int .i64 q1, .int .i64 q2, .int .i64 q3, .string q4] 29)).heap[w.heap.size + 1]? = some (.cells #[.bool q0, .int .i64 q1, .int .i64 q2, .int .i64 q3, .string q4] 29) by
  have := blk_new (w.alloc (.cells #[.int .i64 a0_0, .int .i64 a0_1, .slice A0_2 l0_2.length c0_2, .slice A0_3 l0_3.length c0_3, .int .i64 a0_4, .string a0_5, .slice A0_6 l0_6.length c0_6] 26)) (.cells #[.bool q0, .int .i64 q1, .int .i64 q2, .int .i64 q3, .string q4] 29)
  simpa using this)
 have u0 := bc_ BK.out 0; have u1 := bc_ BK.out 1; have u2 := bc_ BK.out 2; have u3 := bc_ BK.out 3; have u4 := bc_ BK.out 4; have u5 := bc_ BK.out 5; have u6 := bc_ BK.out 6
 have v0 := bc_ BQ.out 0; have v1 := bc_ BQ.out 1; have v2 := bc_ BQ.out 2; have v3 := bc_ BQ.out 3; have v4 := bc_ BQ.out 4
 have Cc := am_ (fun W (hb : Below w.heap.size w W) => claim_Claim.calls a0_0 a0_1 A0_2 c0_2 l0_2 A0_3 c0_3 l0_3 a0_4 a0_5 A0_6 c0_6 l0_6 A1 c1 l1 a2 a3 q0 q1 q2 q3 q4 [] 0 0 1700 W (c4_ hr0_2 hb) hc0_2 (c4_ hr0_3 hb) hc0_3 (c4_ hr0_6 hb) hc0_6 (c4_ hr1 hb) hc1 hv)
 clear hv hr0_2 hr0_3 hr0_6 hc0_2 hc0_3 hc0_6 hr1 hc1
 go_enter Tryd.func3, Tryd.ntmps3
 go_wp2_with (first | (go_at_call 8; (with_reducible refine (Cw.out _).mono ?_); rintro e w1 ⟨rfl, hb2⟩; replace HB := am_ (bt_ HB.out hb2); replace BK := am_ (kb_ BK.out hb2); replace BQ := am_ (kb_ BQ.out hb2); clear hb2; clear u0 u1 u2 u3 u4 u5 u6 v0 v1 v2 v3 v4; have u0 := bc_ BK.out 0; have u1 := bc_ BK.out 1; have u2 := bc_ BK.out 2; have u3 := bc_ BK.out 3; have u4 := bc_ BK.out 4; have u5 := bc_ BK.out 5; have u6 := bc_ BK.out 6; have v0 := bc_ BQ.out 0; have v1 := bc_ BQ.out 1; have v2 := bc_ BQ.out 2; have v3 := bc_ BQ.out 3; have v4 := bc_ BQ.out 4) | (go_at_call 9; (with_reducible refine (Cc.out _ HB.out).mono ?_); rintro e w2 ⟨va, rfl, HA, hb2⟩; obtain ⟨AA, ca, eA, hca, HA2⟩ := Kd.R_reads HA; replace eA : va = .slice AA 0 ca := eA; subst eA; replace HA2 := am_ HA2; replace hca := am_ hca; replace HB := am_ (bt_ HB.out hb2); replace BK := am_ (kb_ BK.out hb2); clear BQ HA hb2 u0 u1 u2 u3 u4 u5 u6 v0 v1 v2 v3 v4) | (go_at_call 10; (with_reducible refine (Cn.out _ _).mono ?_); rintro e wq ⟨rfl, ⟨nd, rfl⟩⟩))
 go_ret
 exact ⟨rfl, (by repeat (with_reducible first | exact HB.out | apply p3_ | apply p1_ | apply p2_))⟩
set_option maxHeartbeats 8000000 in
set_option maxRecDepth 100000 in
theorem pinfoldlaw17_ClaimOne.kept (a0_0 : Int) (a0_1 : Int) (A0_2 : Option Addr) (c0_2 : Nat) (l0_2 : List Int) (A0_3 : Option Addr) (c0_3 : Nat) (l0_3 : List S72) (a0_4 : Int) (a0_5 : ByteArray) (A0_6 : Option Addr) (c0_6 : Nat) (l0_6 : List S74) (A1 : Option Addr) (c1 : Nat) (l1 : List S36) (a2 : Int) (a3 : ByteArray) (q0 : Bool) (q1 q2 q3 : Int) (q4 : ByteArray) (a : List S36) (k : Int) (w : World) (hr0_2 : Kd.C (Kd.int .i64) w A0_2 l0_2.length l0_2) (hc0_2 : l0_2.length ≤ c0_2) (hr0_3 : Kd.C k72 w A0_3 l0_3.length l0_3) (hc0_3 : l0_3.length ≤ c0_3) (hr0_6 : Kd.C k74 w A0_6 l0_6.length l0_6) (hc0_6 : l0_6.length ≤ c0_6) (hr1 : Kd.C k36 w A1 l1.length l1) (hc1 : l1.length ≤ c1) (hv : claim_Claim.f a0_0 a0_1 l0_2 l0_3 a0_4 a0_5 l0_6 l1 a2 a3 q0 q1 q2 q3 q4 = some (a, k, 0, 0)) (hk : k ≠ 1) (hal : a.length = l1.length) (h8 : l1.length ≤ 8) (htr : tabFitR l1) (hL1 : ∀ y ∈ l1, ∃ v, findL a y.f0 = some v ∧ (liveX a2 y = true → y.f2.toList ≠ a3.toList → v = y)) :
  Calls Tryd.prog 3 #[.agg #[.int .i64 a0_0, .int .i64 a0_1, .slice A0_2 l0_2.length c0_2, .slice A0_3 l0_3.length c0_3, .int .i64 a0_4, .string a0_5, .slice A0_6 l0_6.length c0_6], .slice A1 l1.length c1, .int .i64 a2, .string a3, .agg #[.bool q0, .int .i64 q1, .int .i64 q2, .int .i64 q3, .string q4]] w fun e w' => e = .returned (.bool true) ∧ Below w.heap.size w w' := by
 have Cw := am_ (fun W => pinfoldlaw17_awake.calls true W rfl)
 have Cn := am_ (fun x W => pinfoldlaw0_Num.calls x x W rfl)
 have HB := am_ (show Below w.heap.size w ((w.alloc (.cells #[.int .i64 a0_0, .int .i64 a0_1, .slice A0_2 l0_2.length c0_2, .slice A0_3 l0_3.length c0_3, .int .i64 a0_4, .string a0_5, .slice A0_6 l0_6.length c0_6] 26)).alloc (.cells #[.bool q0, .int .i64 q1, .int .i64 q2, .int .i64 q3, .string q4] 29)) by repeat (first | exact Below.refl _ _ | apply p3_))
 have BK := am_ (k1_ (blk_new w (.cells #[.int .i64 a0_0, .int .i64 a0_1, .slice A0_2 l0_2.length c0_2, .slice A0_3 l0_3.length c0_3, .int .i64 a0_4, .string a0_5, .slice A0_6 l0_6.length c0_6] 26)) (.cells #[.bool q0, .int .i64 q1, .int .i64 q2, .int .i64 q3, .string q4] 29))
 have BQ := am_ (show ((w.alloc (.cells #[.int .i64 a0_0, .int .i64 a0_1, .slice A0_2 l0_2.length c0_2, .slice A0_3 l0_3.length c0_3, .int .i64 a0_4, .string a0_5, .slice A0_6 l0_6.length c0_6] 26)).alloc (.cells #[.bool q0, .int .i64 q1, .int .i64 q2, .int .i64 q3, .string q4] 29)).heap[w.heap.size + 1]? = some (.cells #[.bool q0, .int .i64 q1, .int .i64 q2, .int .i64 q3, .string q4] 29) by
  have := blk_new (w.alloc (.cells #[.int .i64 a0_0, .int .i64 a0_1, .slice A0_2 l0_2.length c0_2, .slice A0_3 l0_3.length c0_3, .int .i64 a0_4, .string a0_5, .slice A0_6 l0_6.length c0_6] 26)) (.cells #[.bool q0, .int .i64 q1, .int .i64 q2, .int .i64 q3, .string q4] 29)
  simpa using this)
 have u0 := bc_ BK.out 0; have u1 := bc_ BK.out 1; have u2 := bc_ BK.out 2; have u3 := bc_ BK.out 3; have u4 := bc_ BK.out 4; have u5 := bc_ BK.out 5; have u6 := bc_ BK.out 6
 have v0 := bc_ BQ.out 0; have v1 := bc_ BQ.out 1; have v2 := bc_ BQ.out 2; have v3 := bc_ BQ.out 3; have v4 := bc_ BQ.out 4
 have Cc := am_ (fun W (hb : Below w.heap.size w W) => claim_Claim.calls a0_0 a0_1 A0_2 c0_2 l0_2 A0_3 c0_3 l0_3 a0_4 a0_5 A0_6 c0_6 l0_6 A1 c1 l1 a2 a3 q0 q1 q2 q3 q4 a k 0 0 W (c4_ hr0_2 hb) hc0_2 (c4_ hr0_3 hb) hc0_3 (c4_ hr0_6 hb) hc0_6 (c4_ hr1 hb) hc1 hv)
 have HR1 := am_ hr1
 have HX := am_ htr.2
 have HL1 := am_ hL1
 have hla := am_ (show a.length ≤ 140737488351232 by omega)
 have CLg := am_ (fun x0 x1 x2 x3 x4 x5 (hx : x4.size ≤ 8796093022000) b (e : liveB x0 x1 x2 x3 x4 x5 a2 = b) W => pinfoldref11_Live_c.calls x0 x1 x2 x3 x4 x5 a2 b W (by unfold pinfoldref11_Live_c.f; rw [if_pos hx, e]))
 have ck : (k == 1) = false := beq_eq_false_iff_ne.2 hk
 have ck2 : (k != 1) = true := bne_iff_ne.2 hk
 have HAL := am_ hal
 clear hk hal htr hL1
 clear hv hr0_2 hr0_3 hr0_6 hc0_2 hc0_3 hc0_6 hr1 hc1
 go_enter Tryd.func3, Tryd.ntmps3
 go_wp2_with (first | (go_at_call 8; (with_reducible refine (Cw.out _).mono ?_); rintro e w1 ⟨rfl, hb2⟩; replace HB := am_ (bt_ HB.out hb2); replace BK := am_ (kb_ BK.out hb2); replace BQ := am_ (kb_ BQ.out hb2); clear hb2; clear u0 u1 u2 u3 u4 u5 u6 v0 v1 v2 v3 v4; have u0 := bc_ BK.out 0; have u1 := bc_ BK.out 1; have u2 := bc_ BK.out 2; have u3 := bc_ BK.out 3; have u4 := bc_ BK.out 4; have u5 := bc_ BK.out 5; have u6 := bc_ BK.out 6; have v0 := bc_ BQ.out 0; have v1 := bc_ BQ.out 1; have v2 := bc_ BQ.out 2; have v3 := bc_ BQ.out 3; have v4 := bc_ BQ.out 4) | (go_at_call 9; (with_reducible refine (Cc.out _ HB.out).mono ?_); rintro e w2 ⟨va, rfl, HA, hb2⟩; obtain ⟨AA, ca, eA, hca, HA2⟩ := Kd.R_reads HA; subst eA; replace HA2 := am_ HA2; replace hca := am_ hca; replace HB := am_ (bt_ HB.out hb2); replace BK := am_ (kb_ BK.out hb2); clear BQ HA hb2 u0 u1 u2 u3 u4 u5 u6 v0 v1 v2 v3 v4) | (go_at_call 10; (with_reducible refine (Cn.out _ _).mono ?_); rintro e wq ⟨rfl, ⟨nd, rfl⟩⟩))
 clear Cw Cc Cn BK
 have HW := am_ (show Below w2.heap.size w2 _ from by repeat (with_reducible first | exact Below.refl _ _ | apply p1_ | apply p2_))
 go_loopg [15] l1.length (fun d v w' => ∃ i : Int, 0 ≤ i ∧ i.toNat + d = l1.length ∧ v = .int .i64 i ∧ Aside0 (Below w2.heap.size w2 w'))
 case atStart => exact ⟨0, by omega, by simp, rfl, ⟨by repeat (with_reducible first | exact Below.refl _ _ | apply p1_ | apply p2_)⟩⟩
 case round =>
  clear HW
  obtain ⟨i, hi0, hd, rfl, HW⟩ := hrel
  by_cases hlt : i < (l1.length : Int)
  ·obtain ⟨ad, e1, hx⟩ := at_T36 (c4_ HR1.out HB.out) i hi0 hlt
   cases e1
   obtain ⟨x, hfx, hxy⟩ := HL1.out _ (pinfoldlaw17_ClaimOne.mem l1 i hi0 hlt)
   have hsz : (rd_T36 l1 i).f4.size ≤ 8796093022000 := HX.out _ (pinfoldlaw17_ClaimOne.mem l1 i hi0 hlt)
   generalize rd_T36 l1 i = y at hx hfx hxy hsz
   obtain ⟨y0, y1, y2, y3, y4, y5⟩ := y
   obtain ⟨x0, x1, x2, x3, x4, x5⟩ := x
   simp only at hx hfx hxy hsz
   obtain ⟨bl, hbl⟩ : ∃ b, liveB y0 y1 y2 y3 y4 y5 a2 = b := ⟨_, rfl⟩
   replace hxy : bl = true → y2.toList ≠ a3.toList → (⟨x0, x1, x2, x3, x4, x5⟩ : S36) = ⟨y0, y1, y2, y3, y4, y5⟩ := fun e => hxy (hbl.trans e)
   have CL := am_ (fun W => CLg.out y0 y1 y2 y3 y4 y5 hsz bl hbl W)
   have M1 := am_ (show 0 ≤ i + 1 by omega)
   have M2 := am_ (show (i + 1).toNat + (l1.length - (i.toNat + 1)) = l1.length by omega)
   have M3 := am_ (show l1.length - (i.toNat + 1) < gk by omega)
   have M4 := am_ (show IntKind.i64.wrap (i + 1) = i + 1 from (i64_w _).trans (by unfold wrap64; omega))
   have clt := decide_eq_true hlt
   have cle := decide_eq_true hi0
   have plt := eq_true hlt
   have ple := eq_true hi0
   have GX := am_ hx
   clear hx hbl hsz hd
   replace hi0 := am_ hi0
   clear hlt
   cases bl with
   | false =>
    clear hxy
    have CG := am_ (fun W (hb : Below w2.heap.size w2 W) => pinfoldref11_FindLease_c.calls AA ca a y0 x0 x1 x2 x3 x4 x5 true W (c4_ HA2.out hb) hca.out (by unfold pinfoldref11_FindLease_c.f; rw [if_pos hla.out, hfx]; rfl))
    clear hfx
    have t0 := (HW.out.cell (wb_ w2 _ GX.out.1)).trans GX.out.1; have t1 := (HW.out.cell (wb_ w2 _ GX.out.2.1)).trans GX.out.2.1; have t2 := (HW.out.cell (wb_ w2 _ GX.out.2.2.1)).trans GX.out.2.2.1; have t3 := (HW.out.cell (wb_ w2 _ GX.out.2.2.2.1)).trans GX.out.2.2.2.1; have t4 := (HW.out.cell (wb_ w2 _ GX.out.2.2.2.2.1)).trans GX.out.2.2.2.2.1; have t5 := (HW.out.cell (wb_ w2 _ GX.out.2.2.2.2.2)).trans GX.out.2.2.2.2.2
    go_wp2_with (first | (go_at_call 11; (with_reducible refine (CG.out _ HW.out).mono ?_); rintro e w4 ⟨rfl, hb2⟩; replace HW := am_ (p3_ (bt_ HW.out hb2) (.cells #[.int .i64 x0, .int .i64 x1, .string x2, .int .i64 x3, .string x4, .bool x5] 36)); have BX := am_ (blk_new w4 (.cells #[.int .i64 x0, .int .i64 x1, .string x2, .int .i64 x3, .string x4, .bool x5] 36)); clear hb2 t0 t1 t2 t3 t4 t5))
    refine ordS (S := pinfoldlaw17_ClaimOne.S10 (ad.add (i.toNat * 6)) w4.heap.size y0 y1 y2 y3 y4 y5 x0 x1 x2 x3 x4 x5) 27 (by kernel_rfl) rfl rfl (by unfold pinfoldlaw17_ClaimOne.S10; exact ⟨((p2_ HW.out).cell (wb_ w2 _ GX.out.1)).trans GX.out.1, ((p2_ HW.out).cell (wb_ w2 _ GX.out.2.1)).trans GX.out.2.1, ((p2_ HW.out).cell (wb_ w2 _ GX.out.2.2.1)).trans GX.out.2.2.1, ((p2_ HW.out).cell (wb_ w2 _ GX.out.2.2.2.1)).trans GX.out.2.2.2.1, ((p2_ HW.out).cell (wb_ w2 _ GX.out.2.2.2.2.1)).trans GX.out.2.2.2.2.1, ((p2_ HW.out).cell (wb_ w2 _ GX.out.2.2.2.2.2)).trans GX.out.2.2.2.2.2, bc_ (k3_ BX.out) 0, bc_ (k3_ BX.out) 1, bc_ (k3_ BX.out) 2, bc_ (k3_ BX.out) 3, bc_ (k3_ BX.out) 4, bc_ (k3_ BX.out) 5⟩) ?_
    intro hHeld
    refine with_tabW pinfoldlaw17_ClaimOne.tab10 pinfoldlaw17_ClaimOne.bits10 (fun HT_ HW_ => ?_)
    replace HW := am_ (p2_ HW.out)
    clear BX
    refine ordI [0, 1, 2, 3, 4, 5, 6, 7] ?_
    iterate 8 first | (refine ordP' HT_ (v := ?_) (a' := ?_) rfl rfl (by kernel_rfl) (fun _ _ _ h => h) (Or.inl ⟨by kernel_rfl, ?_⟩) ?_ ?_; rotate_left; (intro w'; go_simp; with_reducible rfl); rotate_left; (simp only [Act.put, sa_, sb_, sc_, i64_w, i32_w]; rfl)) | (refine ordL' HT_ HW_ (v := ?_) (a' := ?_) rfl rfl (by kernel_rfl) (fun _ _ _ h => h) (Or.inl ⟨by kernel_rfl, ?_⟩) hHeld ?_ ?_; rotate_left; (rintro w' ⟨s0, s1, s2, s3, s4, s5, s6, s7, s8, s9, s10, s11⟩; go_simp; with_reducible rfl); rotate_left; (simp only [Act.put, sa_, sb_, sc_, i64_w, i32_w]; rfl))
    refine ordN ?_
    refine ordG (fn := Tryd.f12) HT_ 8 rfl rfl (by kernel_rfl) rfl Tryd.func12 (by kernel_rfl) (by kernel_rfl) #[.agg #[.int .i64 y0, .int .i64 y1, .string y2, .int .i64 y3, .string y4, .bool y5], .int .i64 a2] (by kernel_rfl) (by (try simp only [List.map_toArray, List.map_cons, List.map_nil]); first | done | rfl) ?_
    with_reducible refine (CL.out _).mono ?_
    rintro e wg ⟨rfl, hb2⟩
    replace HW := am_ (bt_ HW.out hb2)
    refine ⟨_, rfl, (pinfoldlaw17_ClaimOne.S10_below hHeld hb2), fun hHeld => ⟨?_, ?_, ?_⟩⟩
    rotate_left
    ·simp only [Act.put, sa_, sb_, sc_, i64_w, i32_w]
     rfl
    refine ordI [9] ?_
    iterate 1 (refine ordP' HT_ (v := ?_) (a' := ?_) rfl rfl (by kernel_rfl) (fun _ _ _ h => h) (Or.inl ⟨by kernel_rfl, ?_⟩) ?_ ?_; rotate_left; (intro w'; go_simp; with_reducible rfl); rotate_left; (simp only [Act.put, sa_, sb_, sc_, i64_w, i32_w]; rfl))
    refine ordN ?_
    refine ordI [10, 11, 12, 13, 14, 15, 16] ?_
    iterate 7 (refine ordP' HT_ (v := undef) (a' := ?_) rfl rfl (by kernel_rfl) (fun _ _ _ h => h) (Or.inr ⟨by kernel_rfl, rfl⟩) ?_ ?_; rotate_left; (simp only [Act.put, sa_, sb_, sc_, i64_w, i32_w]; rfl))
    refine ordN ?_
    refine ordI [17, 18] ?_
    iterate 2 (refine ordP' HT_ (v := ?_) (a' := ?_) rfl rfl (by kernel_rfl) (fun _ _ _ h => h) (Or.inl ⟨by kernel_rfl, ?_⟩) ?_ ?_; rotate_left; (intro w'; go_simp; with_reducible rfl); rotate_left; (simp only [Act.put, sa_, sb_, sc_, i64_w, i32_w]; rfl))
    refine ordN ?_
    refine ordI [19, 20, 21, 22, 23, 24] ?_
    iterate 6 (refine ordP' HT_ (v := undef) (a' := ?_) rfl rfl (by kernel_rfl) (fun _ _ _ h => h) (Or.inr ⟨by kernel_rfl, rfl⟩) ?_ ?_; rotate_left; (simp only [Act.put, sa_, sb_, sc_, i64_w, i32_w]; rfl))
    refine ordN ?_
    refine ordI [25, 26] ?_
    iterate 2 (refine ordP' HT_ (v := ?_) (a' := ?_) rfl rfl (by kernel_rfl) (fun _ _ _ h => h) (Or.inl ⟨by kernel_rfl, ?_⟩) ?_ ?_; rotate_left; (intro w'; go_simp; with_reducible rfl); rotate_left; (simp only [Act.put, sa_, sb_, sc_, i64_w, i32_w]; rfl))
    refine ordN ?_
    refine ordE HT_ (by kernel_rfl) ?_
    go_wp2
    go_roundg (l1.length - (i.toNat + 1))
    case measure => exact M3.out
    case rel => exact ⟨i + 1, M1.out, M2.out, by first | rfl | (rw [show wrap64 (i + 1) = i + 1 from (i64_w _).symm.trans M4.out]), HW⟩
   | true =>
    by_cases q2 : y2.toList = a3.toList
    ·have c2 : (y2.toList == a3.toList) = true := by simpa using q2
     have c3 : (y2.toList != a3.toList) = false := by simpa using q2
     clear hxy q2
     have CG := am_ (fun W (hb : Below w2.heap.size w2 W) => pinfoldref11_FindLease_c.calls AA ca a y0 x0 x1 x2 x3 x4 x5 true W (c4_ HA2.out hb) hca.out (by unfold pinfoldref11_FindLease_c.f; rw [if_pos hla.out, hfx]; rfl))
     clear hfx
     have t0 := (HW.out.cell (wb_ w2 _ GX.out.1)).trans GX.out.1; have t1 := (HW.out.cell (wb_ w2 _ GX.out.2.1)).trans GX.out.2.1; have t2 := (HW.out.cell (wb_ w2 _ GX.out.2.2.1)).trans GX.out.2.2.1; have t3 := (HW.out.cell (wb_ w2 _ GX.out.2.2.2.1)).trans GX.out.2.2.2.1; have t4 := (HW.out.cell (wb_ w2 _ GX.out.2.2.2.2.1)).trans GX.out.2.2.2.2.1; have t5 := (HW.out.cell (wb_ w2 _ GX.out.2.2.2.2.2)).trans GX.out.2.2.2.2.2
     go_wp2_with (first | (go_at_call 11; (with_reducible refine (CG.out _ HW.out).mono ?_); rintro e w4 ⟨rfl, hb2⟩; replace HW := am_ (p3_ (bt_ HW.out hb2) (.cells #[.int .i64 x0, .int .i64 x1, .string x2, .int .i64 x3, .string x4, .bool x5] 36)); have BX := am_ (blk_new w4 (.cells #[.int .i64 x0, .int .i64 x1, .string x2, .int .i64 x3, .string x4, .bool x5] 36)); clear hb2 t0 t1 t2 t3 t4 t5))
     refine ordS (S := pinfoldlaw17_ClaimOne.S10 (ad.add (i.toNat * 6)) w4.heap.size y0 y1 y2 y3 y4 y5 x0 x1 x2 x3 x4 x5) 27 (by kernel_rfl) rfl rfl (by unfold pinfoldlaw17_ClaimOne.S10; exact ⟨((p2_ HW.out).cell (wb_ w2 _ GX.out.1)).trans GX.out.1, ((p2_ HW.out).cell (wb_ w2 _ GX.out.2.1)).trans GX.out.2.1, ((p2_ HW.out).cell (wb_ w2 _ GX.out.2.2.1)).trans GX.out.2.2.1, ((p2_ HW.out).cell (wb_ w2 _ GX.out.2.2.2.1)).trans GX.out.2.2.2.1, ((p2_ HW.out).cell (wb_ w2 _ GX.out.2.2.2.2.1)).trans GX.out.2.2.2.2.1, ((p2_ HW.out).cell (wb_ w2 _ GX.out.2.2.2.2.2)).trans GX.out.2.2.2.2.2, bc_ (k3_ BX.out) 0, bc_ (k3_ BX.out) 1, bc_ (k3_ BX.out) 2, bc_ (k3_ BX.out) 3, bc_ (k3_ BX.out) 4, bc_ (k3_ BX.out) 5⟩) ?_
     intro hHeld
     refine with_tabW pinfoldlaw17_ClaimOne.tab10 pinfoldlaw17_ClaimOne.bits10 (fun HT_ HW_ => ?_)
     replace HW := am_ (p2_ HW.out)
     clear BX
     refine ordI [0, 1, 2, 3, 4, 5, 6, 7] ?_
     iterate 8 first | (refine ordP' HT_ (v := ?_) (a' := ?_) rfl rfl (by kernel_rfl) (fun _ _ _ h => h) (Or.inl ⟨by kernel_rfl, ?_⟩) ?_ ?_; rotate_left; (intro w'; go_simp; with_reducible rfl); rotate_left; (simp only [Act.put, sa_, sb_, sc_, i64_w, i32_w]; rfl)) | (refine ordL' HT_ HW_ (v := ?_) (a' := ?_) rfl rfl (by kernel_rfl) (fun _ _ _ h => h) (Or.inl ⟨by kernel_rfl, ?_⟩) hHeld ?_ ?_; rotate_left; (rintro w' ⟨s0, s1, s2, s3, s4, s5, s6, s7, s8, s9, s10, s11⟩; go_simp; with_reducible rfl); rotate_left; (simp only [Act.put, sa_, sb_, sc_, i64_w, i32_w]; rfl))
     refine ordN ?_
     refine ordG (fn := Tryd.f12) HT_ 8 rfl rfl (by kernel_rfl) rfl Tryd.func12 (by kernel_rfl) (by kernel_rfl) #[.agg #[.int .i64 y0, .int .i64 y1, .string y2, .int .i64 y3, .string y4, .bool y5], .int .i64 a2] (by kernel_rfl) (by (try simp only [List.map_toArray, List.map_cons, List.map_nil]); first | done | rfl) ?_
     with_reducible refine (CL.out _).mono ?_
     rintro e wg ⟨rfl, hb2⟩
     replace HW := am_ (bt_ HW.out hb2)
     refine ⟨_, rfl, (pinfoldlaw17_ClaimOne.S10_below hHeld hb2), fun hHeld => ⟨?_, ?_, ?_⟩⟩
     rotate_left
     ·simp only [Act.put, sa_, sb_, sc_, i64_w, i32_w]
      rfl
     refine ordI [9, 10, 11, 12, 13, 14, 15, 16, 17, 18] ?_
     iterate 10 first | (refine ordP' HT_ (v := ?_) (a' := ?_) rfl rfl (by kernel_rfl) (fun _ _ _ h => h) (Or.inl ⟨by kernel_rfl, ?_⟩) ?_ ?_; rotate_left; (intro w'; go_simp; with_reducible rfl); rotate_left; (simp only [Act.put, sa_, sb_, sc_, i64_w, i32_w]; rfl)) | (refine ordL' HT_ HW_ (v := ?_) (a' := ?_) rfl rfl (by kernel_rfl) (fun _ _ _ h => h) (Or.inl ⟨by kernel_rfl, ?_⟩) hHeld ?_ ?_; rotate_left; (rintro w' ⟨s0, s1, s2, s3, s4, s5, s6, s7, s8, s9, s10, s11⟩; go_simp; with_reducible rfl); rotate_left; (simp only [Act.put, sa_, sb_, sc_, i64_w, i32_w]; rfl))
     refine ordN ?_
     refine ordI [19, 20, 21, 22, 23, 24] ?_
     iterate 6 (refine ordP' HT_ (v := undef) (a' := ?_) rfl rfl (by kernel_rfl) (fun _ _ _ h => h) (Or.inr ⟨by kernel_rfl, rfl⟩) ?_ ?_; rotate_left; (simp only [Act.put, sa_, sb_, sc_, i64_w, i32_w]; rfl))
     refine ordN ?_
     refine ordI [25, 26] ?_
     iterate 2 (refine ordP' HT_ (v := ?_) (a' := ?_) rfl rfl (by kernel_rfl) (fun _ _ _ h => h) (Or.inl ⟨by kernel_rfl, ?_⟩) ?_ ?_; rotate_left; (intro w'; go_simp; with_reducible rfl); rotate_left; (simp only [Act.put, sa_, sb_, sc_, i64_w, i32_w]; rfl))
     refine ordN ?_
     refine ordE HT_ (by kernel_rfl) ?_
     go_wp2
     go_roundg (l1.length - (i.toNat + 1))
     case measure => exact M3.out
     case rel => exact ⟨i + 1, M1.out, M2.out, by first | rfl | (rw [show wrap64 (i + 1) = i + 1 from (i64_w _).symm.trans M4.out]), HW⟩
    ·have c2 : (y2.toList == a3.toList) = false := by simpa using q2
     have c3 : (y2.toList != a3.toList) = true := by simpa using q2
     injection (hxy rfl q2).symm with e0 e1 e2 e3 e4 e5
     subst e0 e1 e2 e3 e4 e5
     clear q2
     have CG := am_ (fun W (hb : Below w2.heap.size w2 W) => pinfoldref11_FindLease_c.calls AA ca a y0 y0 y1 y2 y3 y4 y5 true W (c4_ HA2.out hb) hca.out (by unfold pinfoldref11_FindLease_c.f; rw [if_pos hla.out, hfx]; rfl))
     clear hfx
     have t0 := (HW.out.cell (wb_ w2 _ GX.out.1)).trans GX.out.1; have t1 := (HW.out.cell (wb_ w2 _ GX.out.2.1)).trans GX.out.2.1; have t2 := (HW.out.cell (wb_ w2 _ GX.out.2.2.1)).trans GX.out.2.2.1; have t3 := (HW.out.cell (wb_ w2 _ GX.out.2.2.2.1)).trans GX.out.2.2.2.1; have t4 := (HW.out.cell (wb_ w2 _ GX.out.2.2.2.2.1)).trans GX.out.2.2.2.2.1; have t5 := (HW.out.cell (wb_ w2 _ GX.out.2.2.2.2.2)).trans GX.out.2.2.2.2.2
     go_wp2_with (first | (go_at_call 11; (with_reducible refine (CG.out _ HW.out).mono ?_); rintro e w4 ⟨rfl, hb2⟩; replace HW := am_ (p3_ (bt_ HW.out hb2) (.cells #[.int .i64 y0, .int .i64 y1, .string y2, .int .i64 y3, .string y4, .bool y5] 36)); have BX := am_ (blk_new w4 (.cells #[.int .i64 y0, .int .i64 y1, .string y2, .int .i64 y3, .string y4, .bool y5] 36)); clear hb2 t0 t1 t2 t3 t4 t5))
     refine ordS (S := pinfoldlaw17_ClaimOne.S10 (ad.add (i.toNat * 6)) w4.heap.size y0 y1 y2 y3 y4 y5 y0 y1 y2 y3 y4 y5) 27 (by kernel_rfl) rfl rfl (by unfold pinfoldlaw17_ClaimOne.S10; exact ⟨((p2_ HW.out).cell (wb_ w2 _ GX.out.1)).trans GX.out.1, ((p2_ HW.out).cell (wb_ w2 _ GX.out.2.1)).trans GX.out.2.1, ((p2_ HW.out).cell (wb_ w2 _ GX.out.2.2.1)).trans GX.out.2.2.1, ((p2_ HW.out).cell (wb_ w2 _ GX.out.2.2.2.1)).trans GX.out.2.2.2.1, ((p2_ HW.out).cell (wb_ w2 _ GX.out.2.2.2.2.1)).trans GX.out.2.2.2.2.1, ((p2_ HW.out).cell (wb_ w2 _ GX.out.2.2.2.2.2)).trans GX.out.2.2.2.2.2, bc_ (k3_ BX.out) 0, bc_ (k3_ BX.out) 1, bc_ (k3_ BX.out) 2, bc_ (k3_ BX.out) 3, bc_ (k3_ BX.out) 4, bc_ (k3_ BX.out) 5⟩) ?_
     intro hHeld
     refine with_tabW pinfoldlaw17_ClaimOne.tab10 pinfoldlaw17_ClaimOne.bits10 (fun HT_ HW_ => ?_)
     replace HW := am_ (p2_ HW.out)
     clear BX
     refine ordI [0, 1, 2, 3, 4, 5, 6, 7] ?_
     iterate 8 first | (refine ordP' HT_ (v := ?_) (a' := ?_) rfl rfl (by kernel_rfl) (fun _ _ _ h => h) (Or.inl ⟨by kernel_rfl, ?_⟩) ?_ ?_; rotate_left; (intro w'; go_simp; with_reducible rfl); rotate_left; (simp only [Act.put, sa_, sb_, sc_, i64_w, i32_w]; rfl)) | (refine ordL' HT_ HW_ (v := ?_) (a' := ?_) rfl rfl (by kernel_rfl) (fun _ _ _ h => h) (Or.inl ⟨by kernel_rfl, ?_⟩) hHeld ?_ ?_; rotate_left; (rintro w' ⟨s0, s1, s2, s3, s4, s5, s6, s7, s8, s9, s10, s11⟩; go_simp; with_reducible rfl); rotate_left; (simp only [Act.put, sa_, sb_, sc_, i64_w, i32_w]; rfl))
     refine ordN ?_
     refine ordG (fn := Tryd.f12) HT_ 8 rfl rfl (by kernel_rfl) rfl Tryd.func12 (by kernel_rfl) (by kernel_rfl) #[.agg #[.int .i64 y0, .int .i64 y1, .string y2, .int .i64 y3, .string y4, .bool y5], .int .i64 a2] (by kernel_rfl) (by (try simp only [List.map_toArray, List.map_cons, List.map_nil]); first | done | rfl) ?_
     with_reducible refine (CL.out _).mono ?_
     rintro e wg ⟨rfl, hb2⟩
     replace HW := am_ (bt_ HW.out hb2)
     refine ⟨_, rfl, (pinfoldlaw17_ClaimOne.S10_below hHeld hb2), fun hHeld => ⟨?_, ?_, ?_⟩⟩
     rotate_left
     ·simp only [Act.put, sa_, sb_, sc_, i64_w, i32_w]
      rfl
     refine ordI [9, 10, 11, 12, 13, 14, 15, 16, 17, 18, 19, 20, 21, 22, 23, 24, 25, 26] ?_
     iterate 18 first | (refine ordP' HT_ (v := ?_) (a' := ?_) rfl rfl (by kernel_rfl) (fun _ _ _ h => h) (Or.inl ⟨by kernel_rfl, ?_⟩) ?_ ?_; rotate_left; (intro w'; go_simp; with_reducible rfl); rotate_left; (simp only [Act.put, sa_, sb_, sc_, i64_w, i32_w]; rfl)) | (refine ordL' HT_ HW_ (v := ?_) (a' := ?_) rfl rfl (by kernel_rfl) (fun _ _ _ h => h) (Or.inl ⟨by kernel_rfl, ?_⟩) hHeld ?_ ?_; rotate_left; (rintro w' ⟨s0, s1, s2, s3, s4, s5, s6, s7, s8, s9, s10, s11⟩; go_simp; with_reducible rfl); rotate_left; (simp only [Act.put, sa_, sb_, sc_, i64_w, i32_w]; rfl))
     refine ordN ?_
     refine ordE HT_ (by kernel_rfl) ?_
     go_wp2
     go_roundg (l1.length - (i.toNat + 1))
     case measure => exact M3.out
     case rel => exact ⟨i + 1, M1.out, M2.out, by first | rfl | (rw [show wrap64 (i + 1) = i + 1 from (i64_w _).symm.trans M4.out]), HW⟩
  ·have cal : ((a.length : Int) == (l1.length : Int)) = true := by rw [HAL.out]; simp
   go_wp2
   go_ret
   exact ⟨rfl, bt_ HB.out HW.out⟩
set_option maxHeartbeats 8000000 in
set_option maxRecDepth 100000 in
theorem pinfoldlaw17_ClaimOne.given (a0_0 : Int) (a0_1 : Int) (A0_2 : Option Addr) (c0_2 : Nat) (l0_2 : List Int) (A0_3 : Option Addr) (c0_3 : Nat) (l0_3 : List S72) (a0_4 : Int) (a0_5 : ByteArray) (A0_6 : Option Addr) (c0_6 : Nat) (l0_6 : List S74) (A1 : Option Addr) (c1 : Nat) (l1 : List S36) (a2 : Int) (a3 : ByteArray) (q0 : Bool) (q1 q2 q3 : Int) (q4 : ByteArray) (a : List S36) (hh : Int) (w : World) (hr0_2 : Kd.C (Kd.int .i64) w A0_2 l0_2.length l0_2) (hc0_2 : l0_2.length ≤ c0_2) (hr0_3 : Kd.C k72 w A0_3 l0_3.length l0_3) (hc0_3 : l0_3.length ≤ c0_3) (hr0_6 : Kd.C k74 w A0_6 l0_6.length l0_6) (hc0_6 : l0_6.length ≤ c0_6) (hr1 : Kd.C k36 w A1 l1.length l1) (hc1 : l1.length ≤ c1) (hv : claim_Claim.f a0_0 a0_1 l0_2 l0_3 a0_4 a0_5 l0_6 l1 a2 a3 q0 q1 q2 q3 q4 = some (a, 1, hh, 0)) (h8 : l1.length ≤ 8) (htr : tabFitR l1) (hcf : confFitR l0_2 l0_3 a0_5 l0_6) (hz : a0_5.size ≤ 1048576) (hL1 : ∀ y ∈ l1, ∃ v, findL a y.f0 = some v ∧ (liveX a2 y = true → y.f2.toList ≠ a3.toList → v = y)) (b4 : ByteArray) (b5 : Bool) (hb : findL a hh = some (⟨hh, 2, a3, a2 + a0_4, b4, b5⟩ : S36)) (hw : IntKind.i64.wrap (a2 + a0_4) = a2 + a0_4) (hu : usableB a0_0 a0_1 l0_2 l0_3 a0_4 a0_5 l0_6 hh = true) (hone : (a.filter (holdsX a3 a2)).length = 1) (hn : b5 = true → ∀ y ∈ a, y.f0 ≠ hh → y.f5 = true → liveX a2 y = true → (fullB a0_0 a0_1 l0_2 l0_3 a0_4 a0_5 l0_6 y.f4).toList ≠ (fullB a0_0 a0_1 l0_2 l0_3 a0_4 a0_5 l0_6 b4).toList) (hT : tableB a = true) (hal : a.length ≤ 8) (h72 : ∀ y ∈ a, y.f4.size ≤ 72) (hb72 : b4.size ≤ 72) :
  Calls Tryd.prog 3 #[.agg #[.int .i64 a0_0, .int .i64 a0_1, .slice A0_2 l0_2.length c0_2, .slice A0_3 l0_3.length c0_3, .int .i64 a0_4, .string a0_5, .slice A0_6 l0_6.length c0_6], .slice A1 l1.length c1, .int .i64 a2, .string a3, .agg #[.bool q0, .int .i64 q1, .int .i64 q2, .int .i64 q3, .string q4]] w fun e w' => e = .returned (.bool true) ∧ Below w.heap.size w w' := by
 have Cw := am_ (fun W => pinfoldlaw17_awake.calls true W rfl)
 have Cn := am_ (fun x W => pinfoldlaw0_Num.calls x x W rfl)
 have HB := am_ (show Below w.heap.size w ((w.alloc (.cells #[.int .i64 a0_0, .int .i64 a0_1, .slice A0_2 l0_2.length c0_2, .slice A0_3 l0_3.length c0_3, .int .i64 a0_4, .string a0_5, .slice A0_6 l0_6.length c0_6] 26)).alloc (.cells #[.bool q0, .int .i64 q1, .int .i64 q2, .int .i64 q3, .string q4] 29)) by repeat (first | exact Below.refl _ _ | apply p3_))
 have BK := am_ (k1_ (blk_new w (.cells #[.int .i64 a0_0, .int .i64 a0_1, .slice A0_2 l0_2.length c0_2, .slice A0_3 l0_3.length c0_3, .int .i64 a0_4, .string a0_5, .slice A0_6 l0_6.length c0_6] 26)) (.cells #[.bool q0, .int .i64 q1, .int .i64 q2, .int .i64 q3, .string q4] 29))
 have BQ := am_ (show ((w.alloc (.cells #[.int .i64 a0_0, .int .i64 a0_1, .slice A0_2 l0_2.length c0_2, .slice A0_3 l0_3.length c0_3, .int .i64 a0_4, .string a0_5, .slice A0_6 l0_6.length c0_6] 26)).alloc (.cells #[.bool q0, .int .i64 q1, .int .i64 q2, .int .i64 q3, .string q4] 29)).heap[w.heap.size + 1]? = some (.cells #[.bool q0, .int .i64 q1, .int .i64 q2, .int .i64 q3, .string q4] 29) by
  have := blk_new (w.alloc (.cells #[.int .i64 a0_0, .int .i64 a0_1, .slice A0_2 l0_2.length c0_2, .slice A0_3 l0_3.length c0_3, .int .i64 a0_4, .string a0_5, .slice A0_6 l0_6.length c0_6] 26)) (.cells #[.bool q0, .int .i64 q1, .int .i64 q2, .int .i64 q3, .string q4] 29)
  simpa using this)
 have u0 := bc_ BK.out 0; have u1 := bc_ BK.out 1; have u2 := bc_ BK.out 2; have u3 := bc_ BK.out 3; have u4 := bc_ BK.out 4; have u5 := bc_ BK.out 5; have u6 := bc_ BK.out 6
 have v0 := bc_ BQ.out 0; have v1 := bc_ BQ.out 1; have v2 := bc_ BQ.out 2; have v3 := bc_ BQ.out 3; have v4 := bc_ BQ.out 4
 have Cc := am_ (fun W (hb : Below w.heap.size w W) => claim_Claim.calls a0_0 a0_1 A0_2 c0_2 l0_2 A0_3 c0_3 l0_3 a0_4 a0_5 A0_6 c0_6 l0_6 A1 c1 l1 a2 a3 q0 q1 q2 q3 q4 a 1 hh 0 W (c4_ hr0_2 hb) hc0_2 (c4_ hr0_3 hb) hc0_3 (c4_ hr0_6 hb) hc0_6 (c4_ hr1 hb) hc1 hv)
 have HR1 := am_ hr1
 have HX := am_ htr.2
 have HL1 := am_ hL1
 have hla := am_ (show a.length ≤ 140737488351232 by omega)
 have CLg := am_ (fun x0 x1 x2 x3 x4 x5 (hx : x4.size ≤ 8796093022000) b (e : liveB x0 x1 x2 x3 x4 x5 a2 = b) W => pinfoldref11_Live_c.calls x0 x1 x2 x3 x4 x5 a2 b W (by unfold pinfoldref11_Live_c.f; rw [if_pos hx, e]))
 have hta := table_fitr hT
 have HL8 := am_ hal
 have HT72 := am_ h72
 have HTA := am_ (⟨hT, hta⟩ : tableB a = true ∧ tabFitR a)
 have HON := am_ hone
 have HN := am_ hn
 have HFB := am_ hb
 have HW0 := am_ hw
 have CU := am_ (fun W (hb : Below w.heap.size w W) => pinfoldref11_Usable_c.calls a0_0 a0_1 A0_2 c0_2 l0_2 A0_3 c0_3 l0_3 a0_4 a0_5 A0_6 c0_6 l0_6 hh true W (c4_ hr0_2 hb) hc0_2 (c4_ hr0_3 hb) hc0_3 (c4_ hr0_6 hb) hc0_6 (by unfold pinfoldref11_Usable_c.f; rw [if_pos hcf, hu]))
 have CFg := am_ (fun (nm : ByteArray) (h : nm.size ≤ 72) (r : ByteArray) (e : fullB a0_0 a0_1 l0_2 l0_3 a0_4 a0_5 l0_6 nm = r) W (hb : Below w.heap.size w W) => pinfoldref11_Full_c.calls a0_0 a0_1 A0_2 c0_2 l0_2 A0_3 c0_3 l0_3 a0_4 a0_5 A0_6 c0_6 l0_6 nm r W (c4_ hr0_2 hb) hc0_2 (c4_ hr0_3 hb) hc0_3 (c4_ hr0_6 hb) hc0_6 (by unfold pinfoldref11_Full_c.f; rw [if_pos ⟨hcf, by omega, hz⟩, e]))
 obtain ⟨FB, hFB⟩ : ∃ r, fullB a0_0 a0_1 l0_2 l0_3 a0_4 a0_5 l0_6 b4 = r := ⟨_, rfl⟩
 have CFB := am_ (CFg.out b4 hb72 FB hFB)
 rw [hFB] at HN
 clear hT hta hal h72 hone hn hb hw hu hcf hz hb72 hFB htr hL1
 clear hv hr0_2 hr0_3 hr0_6 hc0_2 hc0_3 hc0_6 hr1 hc1
 go_enter Tryd.func3, Tryd.ntmps3
 go_wp2_with (first | (go_at_call 8; (with_reducible refine (Cw.out _).mono ?_); rintro e w1 ⟨rfl, hb2⟩; replace HB := am_ (bt_ HB.out hb2); replace BK := am_ (kb_ BK.out hb2); replace BQ := am_ (kb_ BQ.out hb2); clear hb2; clear u0 u1 u2 u3 u4 u5 u6 v0 v1 v2 v3 v4; have u0 := bc_ BK.out 0; have u1 := bc_ BK.out 1; have u2 := bc_ BK.out 2; have u3 := bc_ BK.out 3; have u4 := bc_ BK.out 4; have u5 := bc_ BK.out 5; have u6 := bc_ BK.out 6; have v0 := bc_ BQ.out 0; have v1 := bc_ BQ.out 1; have v2 := bc_ BQ.out 2; have v3 := bc_ BQ.out 3; have v4 := bc_ BQ.out 4) | (go_at_call 9; (with_reducible refine (Cc.out _ HB.out).mono ?_); rintro e w2 ⟨va, rfl, HA, hb2⟩; obtain ⟨AA, ca, eA, hca, HA2⟩ := Kd.R_reads HA; subst eA; replace HA2 := am_ HA2; replace hca := am_ hca; replace HB := am_ (bt_ HB.out hb2); replace BK := am_ (kb_ BK.out hb2); clear BQ HA hb2 u0 u1 u2 u3 u4 u5 u6 v0 v1 v2 v3 v4) | (go_at_call 10; (with_reducible refine (Cn.out _ _).mono ?_); rintro e wq ⟨rfl, ⟨nd, rfl⟩⟩))
 clear Cw Cc Cn
 have HW := am_ (show Below w2.heap.size w2 _ from by repeat (with_reducible first | exact Below.refl _ _ | apply p1_ | apply p2_))
 go_loopg [15] l1.length (fun d v w' => ∃ i : Int, 0 ≤ i ∧ i.toNat + d = l1.length ∧ v = .int .i64 i ∧ Aside0 (Below w2.heap.size w2 w'))
 case atStart => exact ⟨0, by omega, by simp, rfl, ⟨by repeat (with_reducible first | exact Below.refl _ _ | apply p1_ | apply p2_)⟩⟩
 case round =>
  clear HW
  obtain ⟨i, hi0, hd, rfl, HW⟩ := hrel
  by_cases hlt : i < (l1.length : Int)
  ·obtain ⟨ad, e1, hx⟩ := at_T36 (c4_ HR1.out HB.out) i hi0 hlt
   cases e1
   obtain ⟨x, hfx, hxy⟩ := HL1.out _ (pinfoldlaw17_ClaimOne.mem l1 i hi0 hlt)
   have hsz : (rd_T36 l1 i).f4.size ≤ 8796093022000 := HX.out _ (pinfoldlaw17_ClaimOne.mem l1 i hi0 hlt)
   generalize rd_T36 l1 i = y at hx hfx hxy hsz
   obtain ⟨y0, y1, y2, y3, y4, y5⟩ := y
   obtain ⟨x0, x1, x2, x3, x4, x5⟩ := x
   simp only at hx hfx hxy hsz
   obtain ⟨bl, hbl⟩ : ∃ b, liveB y0 y1 y2 y3 y4 y5 a2 = b := ⟨_, rfl⟩
   replace hxy : bl = true → y2.toList ≠ a3.toList → (⟨x0, x1, x2, x3, x4, x5⟩ : S36) = ⟨y0, y1, y2, y3, y4, y5⟩ := fun e => hxy (hbl.trans e)
   have CL := am_ (fun W => CLg.out y0 y1 y2 y3 y4 y5 hsz bl hbl W)
   have M1 := am_ (show 0 ≤ i + 1 by omega)
   have M2 := am_ (show (i + 1).toNat + (l1.length - (i.toNat + 1)) = l1.length by omega)
   have M3 := am_ (show l1.length - (i.toNat + 1) < gk by omega)
   have M4 := am_ (show IntKind.i64.wrap (i + 1) = i + 1 from (i64_w _).trans (by unfold wrap64; omega))
   have clt := decide_eq_true hlt
   have cle := decide_eq_true hi0
   have plt := eq_true hlt
   have ple := eq_true hi0
   have GX := am_ hx
   clear hx hbl hsz hd
   replace hi0 := am_ hi0
   clear hlt
   cases bl with
   | false =>
    clear hxy
    have CG := am_ (fun W (hb : Below w2.heap.size w2 W) => pinfoldref11_FindLease_c.calls AA ca a y0 x0 x1 x2 x3 x4 x5 true W (c4_ HA2.out hb) hca.out (by unfold pinfoldref11_FindLease_c.f; rw [if_pos hla.out, hfx]; rfl))
    clear hfx
    have t0 := (HW.out.cell (wb_ w2 _ GX.out.1)).trans GX.out.1; have t1 := (HW.out.cell (wb_ w2 _ GX.out.2.1)).trans GX.out.2.1; have t2 := (HW.out.cell (wb_ w2 _ GX.out.2.2.1)).trans GX.out.2.2.1; have t3 := (HW.out.cell (wb_ w2 _ GX.out.2.2.2.1)).trans GX.out.2.2.2.1; have t4 := (HW.out.cell (wb_ w2 _ GX.out.2.2.2.2.1)).trans GX.out.2.2.2.2.1; have t5 := (HW.out.cell (wb_ w2 _ GX.out.2.2.2.2.2)).trans GX.out.2.2.2.2.2
    go_wp2_with (first | (go_at_call 11; (with_reducible refine (CG.out _ HW.out).mono ?_); rintro e w4 ⟨rfl, hb2⟩; replace HW := am_ (p3_ (bt_ HW.out hb2) (.cells #[.int .i64 x0, .int .i64 x1, .string x2, .int .i64 x3, .string x4, .bool x5] 36)); have BX := am_ (blk_new w4 (.cells #[.int .i64 x0, .int .i64 x1, .string x2, .int .i64 x3, .string x4, .bool x5] 36)); clear hb2 t0 t1 t2 t3 t4 t5))
    refine ordS (S := pinfoldlaw17_ClaimOne.S10 (ad.add (i.toNat * 6)) w4.heap.size y0 y1 y2 y3 y4 y5 x0 x1 x2 x3 x4 x5) 27 (by kernel_rfl) rfl rfl (by unfold pinfoldlaw17_ClaimOne.S10; exact ⟨((p2_ HW.out).cell (wb_ w2 _ GX.out.1)).trans GX.out.1, ((p2_ HW.out).cell (wb_ w2 _ GX.out.2.1)).trans GX.out.2.1, ((p2_ HW.out).cell (wb_ w2 _ GX.out.2.2.1)).trans GX.out.2.2.1, ((p2_ HW.out).cell (wb_ w2 _ GX.out.2.2.2.1)).trans GX.out.2.2.2.1, ((p2_ HW.out).cell (wb_ w2 _ GX.out.2.2.2.2.1)).trans GX.out.2.2.2.2.1, ((p2_ HW.out).cell (wb_ w2 _ GX.out.2.2.2.2.2)).trans GX.out.2.2.2.2.2, bc_ (k3_ BX.out) 0, bc_ (k3_ BX.out) 1, bc_ (k3_ BX.out) 2, bc_ (k3_ BX.out) 3, bc_ (k3_ BX.out) 4, bc_ (k3_ BX.out) 5⟩) ?_
    intro hHeld
    refine with_tabW pinfoldlaw17_ClaimOne.tab10 pinfoldlaw17_ClaimOne.bits10 (fun HT_ HW_ => ?_)
    replace HW := am_ (p2_ HW.out)
    clear BX
    refine ordI [0, 1, 2, 3, 4, 5, 6, 7] ?_
    iterate 8 first | (refine ordP' HT_ (v := ?_) (a' := ?_) rfl rfl (by kernel_rfl) (fun _ _ _ h => h) (Or.inl ⟨by kernel_rfl, ?_⟩) ?_ ?_; rotate_left; (intro w'; go_simp; with_reducible rfl); rotate_left; (simp only [Act.put, sa_, sb_, sc_, i64_w, i32_w]; rfl)) | (refine ordL' HT_ HW_ (v := ?_) (a' := ?_) rfl rfl (by kernel_rfl) (fun _ _ _ h => h) (Or.inl ⟨by kernel_rfl, ?_⟩) hHeld ?_ ?_; rotate_left; (rintro w' ⟨s0, s1, s2, s3, s4, s5, s6, s7, s8, s9, s10, s11⟩; go_simp; with_reducible rfl); rotate_left; (simp only [Act.put, sa_, sb_, sc_, i64_w, i32_w]; rfl))
    refine ordN ?_
    refine ordG (fn := Tryd.f12) HT_ 8 rfl rfl (by kernel_rfl) rfl Tryd.func12 (by kernel_rfl) (by kernel_rfl) #[.agg #[.int .i64 y0, .int .i64 y1, .string y2, .int .i64 y3, .string y4, .bool y5], .int .i64 a2] (by kernel_rfl) (by (try simp only [List.map_toArray, List.map_cons, List.map_nil]); first | done | rfl) ?_
    with_reducible refine (CL.out _).mono ?_
    rintro e wg ⟨rfl, hb2⟩
    replace HW := am_ (bt_ HW.out hb2)
    refine ⟨_, rfl, (pinfoldlaw17_ClaimOne.S10_below hHeld hb2), fun hHeld => ⟨?_, ?_, ?_⟩⟩
    rotate_left
    ·simp only [Act.put, sa_, sb_, sc_, i64_w, i32_w]
     rfl
    refine ordI [9] ?_
    iterate 1 (refine ordP' HT_ (v := ?_) (a' := ?_) rfl rfl (by kernel_rfl) (fun _ _ _ h => h) (Or.inl ⟨by kernel_rfl, ?_⟩) ?_ ?_; rotate_left; (intro w'; go_simp; with_reducible rfl); rotate_left; (simp only [Act.put, sa_, sb_, sc_, i64_w, i32_w]; rfl))
    refine ordN ?_
    refine ordI [10, 11, 12, 13, 14, 15, 16] ?_
    iterate 7 (refine ordP' HT_ (v := undef) (a' := ?_) rfl rfl (by kernel_rfl) (fun _ _ _ h => h) (Or.inr ⟨by kernel_rfl, rfl⟩) ?_ ?_; rotate_left; (simp only [Act.put, sa_, sb_, sc_, i64_w, i32_w]; rfl))
    refine ordN ?_
    refine ordI [17, 18] ?_
    iterate 2 (refine ordP' HT_ (v := ?_) (a' := ?_) rfl rfl (by kernel_rfl) (fun _ _ _ h => h) (Or.inl ⟨by kernel_rfl, ?_⟩) ?_ ?_; rotate_left; (intro w'; go_simp; with_reducible rfl); rotate_left; (simp only [Act.put, sa_, sb_, sc_, i64_w, i32_w]; rfl))
    refine ordN ?_
    refine ordI [19, 20, 21, 22, 23, 24] ?_
    iterate 6 (refine ordP' HT_ (v := undef) (a' := ?_) rfl rfl (by kernel_rfl) (fun _ _ _ h => h) (Or.inr ⟨by kernel_rfl, rfl⟩) ?_ ?_; rotate_left; (simp only [Act.put, sa_, sb_, sc_, i64_w, i32_w]; rfl))
    refine ordN ?_
    refine ordI [25, 26] ?_
    iterate 2 (refine ordP' HT_ (v := ?_) (a' := ?_) rfl rfl (by kernel_rfl) (fun _ _ _ h => h) (Or.inl ⟨by kernel_rfl, ?_⟩) ?_ ?_; rotate_left; (intro w'; go_simp; with_reducible rfl); rotate_left; (simp only [Act.put, sa_, sb_, sc_, i64_w, i32_w]; rfl))
    refine ordN ?_
    refine ordE HT_ (by kernel_rfl) ?_
    go_wp2
    go_roundg (l1.length - (i.toNat + 1))
    case measure => exact M3.out
    case rel => exact ⟨i + 1, M1.out, M2.out, by first | rfl | (rw [show wrap64 (i + 1) = i + 1 from (i64_w _).symm.trans M4.out]), HW⟩
   | true =>
    by_cases q2 : y2.toList = a3.toList
    ·have c2 : (y2.toList == a3.toList) = true := by simpa using q2
     have c3 : (y2.toList != a3.toList) = false := by simpa using q2
     clear hxy q2
     have CG := am_ (fun W (hb : Below w2.heap.size w2 W) => pinfoldref11_FindLease_c.calls AA ca a y0 x0 x1 x2 x3 x4 x5 true W (c4_ HA2.out hb) hca.out (by unfold pinfoldref11_FindLease_c.f; rw [if_pos hla.out, hfx]; rfl))
     clear hfx
     have t0 := (HW.out.cell (wb_ w2 _ GX.out.1)).trans GX.out.1; have t1 := (HW.out.cell (wb_ w2 _ GX.out.2.1)).trans GX.out.2.1; have t2 := (HW.out.cell (wb_ w2 _ GX.out.2.2.1)).trans GX.out.2.2.1; have t3 := (HW.out.cell (wb_ w2 _ GX.out.2.2.2.1)).trans GX.out.2.2.2.1; have t4 := (HW.out.cell (wb_ w2 _ GX.out.2.2.2.2.1)).trans GX.out.2.2.2.2.1; have t5 := (HW.out.cell (wb_ w2 _ GX.out.2.2.2.2.2)).trans GX.out.2.2.2.2.2
     go_wp2_with (first | (go_at_call 11; (with_reducible refine (CG.out _ HW.out).mono ?_); rintro e w4 ⟨rfl, hb2⟩; replace HW := am_ (p3_ (bt_ HW.out hb2) (.cells #[.int .i64 x0, .int .i64 x1, .string x2, .int .i64 x3, .string x4, .bool x5] 36)); have BX := am_ (blk_new w4 (.cells #[.int .i64 x0, .int .i64 x1, .string x2, .int .i64 x3, .string x4, .bool x5] 36)); clear hb2 t0 t1 t2 t3 t4 t5))
     refine ordS (S := pinfoldlaw17_ClaimOne.S10 (ad.add (i.toNat * 6)) w4.heap.size y0 y1 y2 y3 y4 y5 x0 x1 x2 x3 x4 x5) 27 (by kernel_rfl) rfl rfl (by unfold pinfoldlaw17_ClaimOne.S10; exact ⟨((p2_ HW.out).cell (wb_ w2 _ GX.out.1)).trans GX.out.1, ((p2_ HW.out).cell (wb_ w2 _ GX.out.2.1)).trans GX.out.2.1, ((p2_ HW.out).cell (wb_ w2 _ GX.out.2.2.1)).trans GX.out.2.2.1, ((p2_ HW.out).cell (wb_ w2 _ GX.out.2.2.2.1)).trans GX.out.2.2.2.1, ((p2_ HW.out).cell (wb_ w2 _ GX.out.2.2.2.2.1)).trans GX.out.2.2.2.2.1, ((p2_ HW.out).cell (wb_ w2 _ GX.out.2.2.2.2.2)).trans GX.out.2.2.2.2.2, bc_ (k3_ BX.out) 0, bc_ (k3_ BX.out) 1, bc_ (k3_ BX.out) 2, bc_ (k3_ BX.out) 3, bc_ (k3_ BX.out) 4, bc_ (k3_ BX.out) 5⟩) ?_
     intro hHeld
     refine with_tabW pinfoldlaw17_ClaimOne.tab10 pinfoldlaw17_ClaimOne.bits10 (fun HT_ HW_ => ?_)
     replace HW := am_ (p2_ HW.out)
     clear BX
     refine ordI [0, 1, 2, 3, 4, 5, 6, 7] ?_
     iterate 8 first | (refine ordP' HT_ (v := ?_) (a' := ?_) rfl rfl (by kernel_rfl) (fun _ _ _ h => h) (Or.inl ⟨by kernel_rfl, ?_⟩) ?_ ?_; rotate_left; (intro w'; go_simp; with_reducible rfl); rotate_left; (simp only [Act.put, sa_, sb_, sc_, i64_w, i32_w]; rfl)) | (refine ordL' HT_ HW_ (v := ?_) (a' := ?_) rfl rfl (by kernel_rfl) (fun _ _ _ h => h) (Or.inl ⟨by kernel_rfl, ?_⟩) hHeld ?_ ?_; rotate_left; (rintro w' ⟨s0, s1, s2, s3, s4, s5, s6, s7, s8, s9, s10, s11⟩; go_simp; with_reducible rfl); rotate_left; (simp only [Act.put, sa_, sb_, sc_, i64_w, i32_w]; rfl))
     refine ordN ?_
     refine ordG (fn := Tryd.f12) HT_ 8 rfl rfl (by kernel_rfl) rfl Tryd.func12 (by kernel_rfl) (by kernel_rfl) #[.agg #[.int .i64 y0, .int .i64 y1, .string y2, .int .i64 y3, .string y4, .bool y5], .int .i64 a2] (by kernel_rfl) (by (try simp only [List.map_toArray, List.map_cons, List.map_nil]); first | done | rfl) ?_
     with_reducible refine (CL.out _).mono ?_
     rintro e wg ⟨rfl, hb2⟩
     replace HW := am_ (bt_ HW.out hb2)
     refine ⟨_, rfl, (pinfoldlaw17_ClaimOne.S10_below hHeld hb2), fun hHeld => ⟨?_, ?_, ?_⟩⟩
     rotate_left
     ·simp only [Act.put, sa_, sb_, sc_, i64_w, i32_w]
      rfl
     refine ordI [9, 10, 11, 12, 13, 14, 15, 16, 17, 18] ?_
     iterate 10 first | (refine ordP' HT_ (v := ?_) (a' := ?_) rfl rfl (by kernel_rfl) (fun _ _ _ h => h) (Or.inl ⟨by kernel_rfl, ?_⟩) ?_ ?_; rotate_left; (intro w'; go_simp; with_reducible rfl); rotate_left; (simp only [Act.put, sa_, sb_, sc_, i64_w, i32_w]; rfl)) | (refine ordL' HT_ HW_ (v := ?_) (a' := ?_) rfl rfl (by kernel_rfl) (fun _ _ _ h => h) (Or.inl ⟨by kernel_rfl, ?_⟩) hHeld ?_ ?_; rotate_left; (rintro w' ⟨s0, s1, s2, s3, s4, s5, s6, s7, s8, s9, s10, s11⟩; go_simp; with_reducible rfl); rotate_left; (simp only [Act.put, sa_, sb_, sc_, i64_w, i32_w]; rfl))
     refine ordN ?_
     refine ordI [19, 20, 21, 22, 23, 24] ?_
     iterate 6 (refine ordP' HT_ (v := undef) (a' := ?_) rfl rfl (by kernel_rfl) (fun _ _ _ h => h) (Or.inr ⟨by kernel_rfl, rfl⟩) ?_ ?_; rotate_left; (simp only [Act.put, sa_, sb_, sc_, i64_w, i32_w]; rfl))
     refine ordN ?_
     refine ordI [25, 26] ?_
     iterate 2 (refine ordP' HT_ (v := ?_) (a' := ?_) rfl rfl (by kernel_rfl) (fun _ _ _ h => h) (Or.inl ⟨by kernel_rfl, ?_⟩) ?_ ?_; rotate_left; (intro w'; go_simp; with_reducible rfl); rotate_left; (simp only [Act.put, sa_, sb_, sc_, i64_w, i32_w]; rfl))
     refine ordN ?_
     refine ordE HT_ (by kernel_rfl) ?_
     go_wp2
     go_roundg (l1.length - (i.toNat + 1))
     case measure => exact M3.out
     case rel => exact ⟨i + 1, M1.out, M2.out, by first | rfl | (rw [show wrap64 (i + 1) = i + 1 from (i64_w _).symm.trans M4.out]), HW⟩
    ·have c2 : (y2.toList == a3.toList) = false := by simpa using q2
     have c3 : (y2.toList != a3.toList) = true := by simpa using q2
     injection (hxy rfl q2).symm with e0 e1 e2 e3 e4 e5
     subst e0 e1 e2 e3 e4 e5
     clear q2
     have CG := am_ (fun W (hb : Below w2.heap.size w2 W) => pinfoldref11_FindLease_c.calls AA ca a y0 y0 y1 y2 y3 y4 y5 true W (c4_ HA2.out hb) hca.out (by unfold pinfoldref11_FindLease_c.f; rw [if_pos hla.out, hfx]; rfl))
     clear hfx
     have t0 := (HW.out.cell (wb_ w2 _ GX.out.1)).trans GX.out.1; have t1 := (HW.out.cell (wb_ w2 _ GX.out.2.1)).trans GX.out.2.1; have t2 := (HW.out.cell (wb_ w2 _ GX.out.2.2.1)).trans GX.out.2.2.1; have t3 := (HW.out.cell (wb_ w2 _ GX.out.2.2.2.1)).trans GX.out.2.2.2.1; have t4 := (HW.out.cell (wb_ w2 _ GX.out.2.2.2.2.1)).trans GX.out.2.2.2.2.1; have t5 := (HW.out.cell (wb_ w2 _ GX.out.2.2.2.2.2)).trans GX.out.2.2.2.2.2
     go_wp2_with (first | (go_at_call 11; (with_reducible refine (CG.out _ HW.out).mono ?_); rintro e w4 ⟨rfl, hb2⟩; replace HW := am_ (p3_ (bt_ HW.out hb2) (.cells #[.int .i64 y0, .int .i64 y1, .string y2, .int .i64 y3, .string y4, .bool y5] 36)); have BX := am_ (blk_new w4 (.cells #[.int .i64 y0, .int .i64 y1, .string y2, .int .i64 y3, .string y4, .bool y5] 36)); clear hb2 t0 t1 t2 t3 t4 t5))
     refine ordS (S := pinfoldlaw17_ClaimOne.S10 (ad.add (i.toNat * 6)) w4.heap.size y0 y1 y2 y3 y4 y5 y0 y1 y2 y3 y4 y5) 27 (by kernel_rfl) rfl rfl (by unfold pinfoldlaw17_ClaimOne.S10; exact ⟨((p2_ HW.out).cell (wb_ w2 _ GX.out.1)).trans GX.out.1, ((p2_ HW.out).cell (wb_ w2 _ GX.out.2.1)).trans GX.out.2.1, ((p2_ HW.out).cell (wb_ w2 _ GX.out.2.2.1)).trans GX.out.2.2.1, ((p2_ HW.out).cell (wb_ w2 _ GX.out.2.2.2.1)).trans GX.out.2.2.2.1, ((p2_ HW.out).cell (wb_ w2 _ GX.out.2.2.2.2.1)).trans GX.out.2.2.2.2.1, ((p2_ HW.out).cell (wb_ w2 _ GX.out.2.2.2.2.2)).trans GX.out.2.2.2.2.2, bc_ (k3_ BX.out) 0, bc_ (k3_ BX.out) 1, bc_ (k3_ BX.out) 2, bc_ (k3_ BX.out) 3, bc_ (k3_ BX.out) 4, bc_ (k3_ BX.out) 5⟩) ?_
     intro hHeld
     refine with_tabW pinfoldlaw17_ClaimOne.tab10 pinfoldlaw17_ClaimOne.bits10 (fun HT_ HW_ => ?_)
     replace HW := am_ (p2_ HW.out)
     clear BX
     refine ordI [0, 1, 2, 3, 4, 5, 6, 7] ?_
     iterate 8 first | (refine ordP' HT_ (v := ?_) (a' := ?_) rfl rfl (by kernel_rfl) (fun _ _ _ h => h) (Or.inl ⟨by kernel_rfl, ?_⟩) ?_ ?_; rotate_left; (intro w'; go_simp; with_reducible rfl); rotate_left; (simp only [Act.put, sa_, sb_, sc_, i64_w, i32_w]; rfl)) | (refine ordL' HT_ HW_ (v := ?_) (a' := ?_) rfl rfl (by kernel_rfl) (fun _ _ _ h => h) (Or.inl ⟨by kernel_rfl, ?_⟩) hHeld ?_ ?_; rotate_left; (rintro w' ⟨s0, s1, s2, s3, s4, s5, s6, s7, s8, s9, s10, s11⟩; go_simp; with_reducible rfl); rotate_left; (simp only [Act.put, sa_, sb_, sc_, i64_w, i32_w]; rfl))
     refine ordN ?_
     refine ordG (fn := Tryd.f12) HT_ 8 rfl rfl (by kernel_rfl) rfl Tryd.func12 (by kernel_rfl) (by kernel_rfl) #[.agg #[.int .i64 y0, .int .i64 y1, .string y2, .int .i64 y3, .string y4, .bool y5], .int .i64 a2] (by kernel_rfl) (by (try simp only [List.map_toArray, List.map_cons, List.map_nil]); first | done | rfl) ?_
     with_reducible refine (CL.out _).mono ?_
     rintro e wg ⟨rfl, hb2⟩
     replace HW := am_ (bt_ HW.out hb2)
     refine ⟨_, rfl, (pinfoldlaw17_ClaimOne.S10_below hHeld hb2), fun hHeld => ⟨?_, ?_, ?_⟩⟩
     rotate_left
     ·simp only [Act.put, sa_, sb_, sc_, i64_w, i32_w]
      rfl
     refine ordI [9, 10, 11, 12, 13, 14, 15, 16, 17, 18, 19, 20, 21, 22, 23, 24, 25, 26] ?_
     iterate 18 first | (refine ordP' HT_ (v := ?_) (a' := ?_) rfl rfl (by kernel_rfl) (fun _ _ _ h => h) (Or.inl ⟨by kernel_rfl, ?_⟩) ?_ ?_; rotate_left; (intro w'; go_simp; with_reducible rfl); rotate_left; (simp only [Act.put, sa_, sb_, sc_, i64_w, i32_w]; rfl)) | (refine ordL' HT_ HW_ (v := ?_) (a' := ?_) rfl rfl (by kernel_rfl) (fun _ _ _ h => h) (Or.inl ⟨by kernel_rfl, ?_⟩) hHeld ?_ ?_; rotate_left; (rintro w' ⟨s0, s1, s2, s3, s4, s5, s6, s7, s8, s9, s10, s11⟩; go_simp; with_reducible rfl); rotate_left; (simp only [Act.put, sa_, sb_, sc_, i64_w, i32_w]; rfl))
     refine ordN ?_
     refine ordE HT_ (by kernel_rfl) ?_
     go_wp2
     go_roundg (l1.length - (i.toNat + 1))
     case measure => exact M3.out
     case rel => exact ⟨i + 1, M1.out, M2.out, by first | rfl | (rw [show wrap64 (i + 1) = i + 1 from (i64_w _).symm.trans M4.out]), HW⟩
  ·have hla8 := HL8.out
   clear HL1 HX HR1 h8
   go_wp2
   go_loopg [18, 19] a.length (fun d vm v w' => ∃ i : Int, 0 ≤ i ∧ i.toNat + d = a.length ∧ v = .int .i64 i ∧ vm = .int .i64 (((a.take i.toNat).filter (holdsX a3 a2)).length : Nat) ∧ Aside0 (Below w2.heap.size w2 w'))
   case atStart => exact ⟨0, by omega, by simp, rfl, rfl, ⟨by repeat (with_reducible first | exact HW.out | exact Below.refl _ _ | apply p3_ | apply p1_ | apply p2_)⟩⟩
   case round =>
    clear HW
    obtain ⟨i, hi0, hd, rfl, rfl, HW⟩ := hrel
    by_cases hlt : i < (a.length : Int)
    ·obtain ⟨ad, e1, hx⟩ := at_T36 HA2.out i hi0 hlt
     cases e1
     have hcn := pinfoldlaw17_ClaimOne.cnt (holdsX a3 a2) a i hi0 hlt
     have hfl := List.length_filter_le (holdsX a3 a2) (a.take i.toNat)
     have htl := List.length_take_le i.toNat a
     have hsz : (rd_T36 a i).f4.size ≤ 8796093022000 := HTA.out.2.2 _ (pinfoldlaw17_ClaimOne.mem a i hi0 hlt)
     generalize rd_T36 a i = y at hx hcn hsz
     obtain ⟨y0, y1, y2, y3, y4, y5⟩ := y
     simp only at hx hsz
     obtain ⟨bl, hbl⟩ : ∃ b, liveB y0 y1 y2 y3 y4 y5 a2 = b := ⟨_, rfl⟩
     have hho : holdsX a3 a2 ⟨y0, y1, y2, y3, y4, y5⟩ = (bl && (decide (y1 ≠ 3) && decide (y2.toList = a3.toList))) := by rw [← hbl]; rfl
     rw [hho] at hcn
     obtain ⟨m, hm⟩ : ∃ m, ((a.take i.toNat).filter (holdsX a3 a2)).length = m := ⟨_, rfl⟩
     rw [hm] at hcn hfl ⊢
     have CL := am_ (fun W => CLg.out y0 y1 y2 y3 y4 y5 hsz bl hbl W)
     have M1 := am_ (show 0 ≤ i + 1 by omega)
     have M2 := am_ (show (i + 1).toNat + (a.length - (i.toNat + 1)) = a.length by omega)
     have M3 := am_ (show a.length - (i.toNat + 1) < gk by omega)
     have M4 := am_ (show IntKind.i64.wrap (i + 1) = i + 1 from (i64_w _).trans (by unfold wrap64; omega))
     have M5 := am_ (show IntKind.i64.wrap ((m : Int) + 1) = ((m + 1 : Nat) : Int) from (i64_w _).trans (by unfold wrap64; omega))
     have clt := decide_eq_true hlt
     have cle := decide_eq_true hi0
     have plt := eq_true hlt
     have ple := eq_true hi0
     have GX := am_ hx
     clear hx hbl hsz hd hho hfl htl hm
     replace hi0 := am_ hi0
     clear hlt
     cases bl with
     | false =>
      replace hcn : ((a.take (i + 1).toNat).filter (holdsX a3 a2)).length = m := hcn
      have HCN := am_ hcn
      clear hcn
      have t0 := (HW.out.cell (wb_ w2 _ GX.out.1)).trans GX.out.1; have t1 := (HW.out.cell (wb_ w2 _ GX.out.2.1)).trans GX.out.2.1; have t2 := (HW.out.cell (wb_ w2 _ GX.out.2.2.1)).trans GX.out.2.2.1; have t3 := (HW.out.cell (wb_ w2 _ GX.out.2.2.2.1)).trans GX.out.2.2.2.1; have t4 := (HW.out.cell (wb_ w2 _ GX.out.2.2.2.2.1)).trans GX.out.2.2.2.2.1; have t5 := (HW.out.cell (wb_ w2 _ GX.out.2.2.2.2.2)).trans GX.out.2.2.2.2.2
      go_wp2_with (first | (go_at_call 12; (with_reducible refine (CL.out _).mono ?_); rintro e w6 ⟨rfl, hb2⟩; replace HW := am_ (bt_ HW.out hb2); clear hb2 t0 t1 t2 t3 t4 t5; have t0 := (HW.out.cell (wb_ w2 _ GX.out.1)).trans GX.out.1; have t1 := (HW.out.cell (wb_ w2 _ GX.out.2.1)).trans GX.out.2.1; have t2 := (HW.out.cell (wb_ w2 _ GX.out.2.2.1)).trans GX.out.2.2.1; have t3 := (HW.out.cell (wb_ w2 _ GX.out.2.2.2.1)).trans GX.out.2.2.2.1; have t4 := (HW.out.cell (wb_ w2 _ GX.out.2.2.2.2.1)).trans GX.out.2.2.2.2.1; have t5 := (HW.out.cell (wb_ w2 _ GX.out.2.2.2.2.2)).trans GX.out.2.2.2.2.2))
      go_roundg (a.length - (i.toNat + 1))
      case measure => exact M3.out
      case rel => exact ⟨i + 1, M1.out, M2.out, by first | rfl | (rw [show wrap64 (i + 1) = i + 1 from (i64_w _).symm.trans M4.out]), by first | (rw [HCN.out]; done) | (rw [HCN.out]; rfl) | (rw [HCN.out]; first | rfl | (rw [← M5.out]; first | rfl | (rw [i64_w]))), ⟨by repeat (with_reducible first | exact HW.out | exact Below.refl _ _ | apply p3_ | apply p1_ | apply p2_)⟩⟩
     | true =>
      by_cases q1 : y1 = 3
      ·have c1 : (y1 != 3) = false := by simpa using q1
       have HCN := am_ (show ((a.take (i + 1).toNat).filter (holdsX a3 a2)).length = m by rw [hcn, decide_eq_false (fun e => e q1)]; rfl)
       clear hcn q1
       have t0 := (HW.out.cell (wb_ w2 _ GX.out.1)).trans GX.out.1; have t1 := (HW.out.cell (wb_ w2 _ GX.out.2.1)).trans GX.out.2.1; have t2 := (HW.out.cell (wb_ w2 _ GX.out.2.2.1)).trans GX.out.2.2.1; have t3 := (HW.out.cell (wb_ w2 _ GX.out.2.2.2.1)).trans GX.out.2.2.2.1; have t4 := (HW.out.cell (wb_ w2 _ GX.out.2.2.2.2.1)).trans GX.out.2.2.2.2.1; have t5 := (HW.out.cell (wb_ w2 _ GX.out.2.2.2.2.2)).trans GX.out.2.2.2.2.2
       go_wp2_with (first | (go_at_call 12; (with_reducible refine (CL.out _).mono ?_); rintro e w6 ⟨rfl, hb2⟩; replace HW := am_ (bt_ HW.out hb2); clear hb2 t0 t1 t2 t3 t4 t5; have t0 := (HW.out.cell (wb_ w2 _ GX.out.1)).trans GX.out.1; have t1 := (HW.out.cell (wb_ w2 _ GX.out.2.1)).trans GX.out.2.1; have t2 := (HW.out.cell (wb_ w2 _ GX.out.2.2.1)).trans GX.out.2.2.1; have t3 := (HW.out.cell (wb_ w2 _ GX.out.2.2.2.1)).trans GX.out.2.2.2.1; have t4 := (HW.out.cell (wb_ w2 _ GX.out.2.2.2.2.1)).trans GX.out.2.2.2.2.1; have t5 := (HW.out.cell (wb_ w2 _ GX.out.2.2.2.2.2)).trans GX.out.2.2.2.2.2))
       go_roundg (a.length - (i.toNat + 1))
       case measure => exact M3.out
       case rel => exact ⟨i + 1, M1.out, M2.out, by first | rfl | (rw [show wrap64 (i + 1) = i + 1 from (i64_w _).symm.trans M4.out]), by first | (rw [HCN.out]; done) | (rw [HCN.out]; rfl) | (rw [HCN.out]; first | rfl | (rw [← M5.out]; first | rfl | (rw [i64_w]))), ⟨by repeat (with_reducible first | exact HW.out | exact Below.refl _ _ | apply p3_ | apply p1_ | apply p2_)⟩⟩
      have c1 : (y1 != 3) = true := by simpa using q1
      by_cases q2 : y2.toList = a3.toList
      ·have c2 : (y2.toList == a3.toList) = true := by simpa using q2
       have HCN := am_ (show ((a.take (i + 1).toNat).filter (holdsX a3 a2)).length = m + 1 by rw [hcn, decide_eq_true q1, decide_eq_true q2]; rfl)
       clear hcn q1 q2
       have t0 := (HW.out.cell (wb_ w2 _ GX.out.1)).trans GX.out.1; have t1 := (HW.out.cell (wb_ w2 _ GX.out.2.1)).trans GX.out.2.1; have t2 := (HW.out.cell (wb_ w2 _ GX.out.2.2.1)).trans GX.out.2.2.1; have t3 := (HW.out.cell (wb_ w2 _ GX.out.2.2.2.1)).trans GX.out.2.2.2.1; have t4 := (HW.out.cell (wb_ w2 _ GX.out.2.2.2.2.1)).trans GX.out.2.2.2.2.1; have t5 := (HW.out.cell (wb_ w2 _ GX.out.2.2.2.2.2)).trans GX.out.2.2.2.2.2
       go_wp2_with (first | (go_at_call 12; (with_reducible refine (CL.out _).mono ?_); rintro e w6 ⟨rfl, hb2⟩; replace HW := am_ (bt_ HW.out hb2); clear hb2 t0 t1 t2 t3 t4 t5; have t0 := (HW.out.cell (wb_ w2 _ GX.out.1)).trans GX.out.1; have t1 := (HW.out.cell (wb_ w2 _ GX.out.2.1)).trans GX.out.2.1; have t2 := (HW.out.cell (wb_ w2 _ GX.out.2.2.1)).trans GX.out.2.2.1; have t3 := (HW.out.cell (wb_ w2 _ GX.out.2.2.2.1)).trans GX.out.2.2.2.1; have t4 := (HW.out.cell (wb_ w2 _ GX.out.2.2.2.2.1)).trans GX.out.2.2.2.2.1; have t5 := (HW.out.cell (wb_ w2 _ GX.out.2.2.2.2.2)).trans GX.out.2.2.2.2.2))
       go_roundg (a.length - (i.toNat + 1))
       case measure => exact M3.out
       case rel => exact ⟨i + 1, M1.out, M2.out, by first | rfl | (rw [show wrap64 (i + 1) = i + 1 from (i64_w _).symm.trans M4.out]), by first | (rw [HCN.out]; done) | (rw [HCN.out]; rfl) | (rw [HCN.out]; first | rfl | (rw [← M5.out]; first | rfl | (rw [i64_w]))), ⟨by repeat (with_reducible first | exact HW.out | exact Below.refl _ _ | apply p3_ | apply p1_ | apply p2_)⟩⟩
      ·have c2 : (y2.toList == a3.toList) = false := by simpa using q2
       have HCN := am_ (show ((a.take (i + 1).toNat).filter (holdsX a3 a2)).length = m by rw [hcn, decide_eq_false q2, Bool.and_false, Bool.and_false]; rfl)
       clear hcn q1 q2
       have t0 := (HW.out.cell (wb_ w2 _ GX.out.1)).trans GX.out.1; have t1 := (HW.out.cell (wb_ w2 _ GX.out.2.1)).trans GX.out.2.1; have t2 := (HW.out.cell (wb_ w2 _ GX.out.2.2.1)).trans GX.out.2.2.1; have t3 := (HW.out.cell (wb_ w2 _ GX.out.2.2.2.1)).trans GX.out.2.2.2.1; have t4 := (HW.out.cell (wb_ w2 _ GX.out.2.2.2.2.1)).trans GX.out.2.2.2.2.1; have t5 := (HW.out.cell (wb_ w2 _ GX.out.2.2.2.2.2)).trans GX.out.2.2.2.2.2
       go_wp2_with (first | (go_at_call 12; (with_reducible refine (CL.out _).mono ?_); rintro e w6 ⟨rfl, hb2⟩; replace HW := am_ (bt_ HW.out hb2); clear hb2 t0 t1 t2 t3 t4 t5; have t0 := (HW.out.cell (wb_ w2 _ GX.out.1)).trans GX.out.1; have t1 := (HW.out.cell (wb_ w2 _ GX.out.2.1)).trans GX.out.2.1; have t2 := (HW.out.cell (wb_ w2 _ GX.out.2.2.1)).trans GX.out.2.2.1; have t3 := (HW.out.cell (wb_ w2 _ GX.out.2.2.2.1)).trans GX.out.2.2.2.1; have t4 := (HW.out.cell (wb_ w2 _ GX.out.2.2.2.2.1)).trans GX.out.2.2.2.2.1; have t5 := (HW.out.cell (wb_ w2 _ GX.out.2.2.2.2.2)).trans GX.out.2.2.2.2.2))
       go_roundg (a.length - (i.toNat + 1))
       case measure => exact M3.out
       case rel => exact ⟨i + 1, M1.out, M2.out, by first | rfl | (rw [show wrap64 (i + 1) = i + 1 from (i64_w _).symm.trans M4.out]), by first | (rw [HCN.out]; done) | (rw [HCN.out]; rfl) | (rw [HCN.out]; first | rfl | (rw [← M5.out]; first | rfl | (rw [i64_w]))), ⟨by repeat (with_reducible first | exact HW.out | exact Below.refl _ _ | apply p3_ | apply p1_ | apply p2_)⟩⟩
    ·have hm : ((a.take i.toNat).filter (holdsX a3 a2)).length = 1 := by rw [List.take_of_length_le (by omega)]; exact HON.out
     rw [hm]
     clear hm HON hd
     have HB3 := am_ (bt_ HB.out HW.out)
     have CGh := am_ (fun W (hb : Below w2.heap.size w2 W) => pinfoldref11_FindLease_c.calls AA ca a hh hh 2 a3 (a2 + a0_4) b4 b5 true W (c4_ HA2.out hb) hca.out (by unfold pinfoldref11_FindLease_c.f; rw [if_pos hla.out, HFB.out]; rfl))
     go_wp2_with (first | (go_at_call 11; (with_reducible refine (CGh.out _ HW.out).mono ?_); rintro e w5 ⟨rfl, hb2⟩; replace HW := am_ (p3_ (bt_ HW.out hb2) (.cells #[.int .i64 hh, .int .i64 2, .string a3, .int .i64 (a2 + a0_4), .string b4, .bool b5] 36)); have BX := am_ (blk_new w5 (.cells #[.int .i64 hh, .int .i64 2, .string a3, .int .i64 (a2 + a0_4), .string b4, .bool b5] 36)); clear hb2; have u0 := bc_ (kb_ BK.out HW.out) 0; have u1 := bc_ (kb_ BK.out HW.out) 1; have u2 := bc_ (kb_ BK.out HW.out) 2; have u3 := bc_ (kb_ BK.out HW.out) 3; have u4 := bc_ (kb_ BK.out HW.out) 4; have u5 := bc_ (kb_ BK.out HW.out) 5; have u6 := bc_ (kb_ BK.out HW.out) 6; have hw5 := HW0.out) | (go_at_call 13; (with_reducible refine (CU.out _ (bt_ HB.out HW.out)).mono ?_); rintro e w6 ⟨rfl, hb2⟩; replace BX := am_ (kb_ BX.out hb2); replace HW := am_ (bt_ HW.out hb2); clear hb2 hw5 u0 u1 u2 u3 u4 u5 u6))
     have H26 := HW
     have BK6 := am_ (kb_ BK.out HW.out)
     have HB6 := am_ (bt_ HB.out HW.out)
     clear HW HB3 CGh CU HFB BK
     have HW := am_ (show Below w6.heap.size w6 _ from by repeat (with_reducible first | exact Below.refl _ _ | apply p1_ | apply p2_))
     clear hi0 hlt
     go_loopg [22] a.length (fun d v w' => ∃ i : Int, 0 ≤ i ∧ i.toNat + d = a.length ∧ v = .int .i64 i ∧ Aside0 (Below w6.heap.size w6 w'))
     case atStart => exact ⟨0, by omega, by simp, rfl, ⟨by repeat (with_reducible first | exact HW.out | exact Below.refl _ _ | apply p3_ | apply p1_ | apply p2_)⟩⟩
     case round =>
      clear HW
      obtain ⟨i, hi0, hd, rfl, HW⟩ := hrel
      by_cases hlt : i < (a.length : Int)
      ·obtain ⟨ad, e1, hx⟩ := at_T36 (c4_ HA2.out H26.out) i hi0 hlt
       cases e1
       have hsz : (rd_T36 a i).f4.size ≤ 72 := HT72.out _ (pinfoldlaw17_ClaimOne.mem a i hi0 hlt)
       have hne := fun e => HN.out e _ (pinfoldlaw17_ClaimOne.mem a i hi0 hlt)
       generalize rd_T36 a i = y at hx hsz hne
       obtain ⟨y0, y1, y2, y3, y4, y5⟩ := y
       simp only at hx hsz hne
       obtain ⟨bl, hbl⟩ : ∃ b, liveB y0 y1 y2 y3 y4 y5 a2 = b := ⟨_, rfl⟩
       replace hne : b5 = true → y0 ≠ hh → y5 = true → bl = true → (fullB a0_0 a0_1 l0_2 l0_3 a0_4 a0_5 l0_6 y4).toList ≠ FB.toList := fun e e1 e2 e3 => hne e e1 e2 (hbl.trans e3)
       have CL := am_ (fun W => CLg.out y0 y1 y2 y3 y4 y5 (by omega) bl hbl W)
       obtain ⟨FY, hFY⟩ : ∃ r, fullB a0_0 a0_1 l0_2 l0_3 a0_4 a0_5 l0_6 y4 = r := ⟨_, rfl⟩
       have CFY := am_ (CFg.out y4 hsz FY hFY)
       rw [hFY] at hne
       have M1 := am_ (show 0 ≤ i + 1 by omega)
       have M2 := am_ (show (i + 1).toNat + (a.length - (i.toNat + 1)) = a.length by omega)
       have M3 := am_ (show a.length - (i.toNat + 1) < gk by omega)
       have M4 := am_ (show IntKind.i64.wrap (i + 1) = i + 1 from (i64_w _).trans (by unfold wrap64; omega))
       have clt := decide_eq_true hlt
       have cle := decide_eq_true hi0
       have plt := eq_true hlt
       have ple := eq_true hi0
       have GX := am_ hx
       clear hx hbl hsz hd hFY
       replace hi0 := am_ hi0
       clear hlt
       cases b5 with
       | false =>
        clear hne
        go_wp2_with (fail)
        refine ordS (S := pinfoldlaw17_ClaimOne.S26 w5.heap.size w.heap.size (ad.add (i.toNat * 6)) hh 2 a3 (a2 + a0_4) b4 false y0 y1 y2 y3 y4 y5 a0_0 a0_1 A0_2 c0_2 l0_2 A0_3 c0_3 l0_3 a0_4 a0_5 A0_6 c0_6 l0_6) 40 (by kernel_rfl) rfl rfl (by unfold pinfoldlaw17_ClaimOne.S26; exact ⟨bc_ (kb_ BX.out (p2_ HW.out)) 0, bc_ (kb_ BX.out (p2_ HW.out)) 1, bc_ (kb_ BX.out (p2_ HW.out)) 2, bc_ (kb_ BX.out (p2_ HW.out)) 3, bc_ (kb_ BX.out (p2_ HW.out)) 4, bc_ (kb_ BX.out (p2_ HW.out)) 5, ((p2_ HW.out).cell (wb_ w6 _ GX.out.1)).trans GX.out.1, ((p2_ HW.out).cell (wb_ w6 _ GX.out.2.1)).trans GX.out.2.1, ((p2_ HW.out).cell (wb_ w6 _ GX.out.2.2.1)).trans GX.out.2.2.1, ((p2_ HW.out).cell (wb_ w6 _ GX.out.2.2.2.1)).trans GX.out.2.2.2.1, ((p2_ HW.out).cell (wb_ w6 _ GX.out.2.2.2.2.1)).trans GX.out.2.2.2.2.1, ((p2_ HW.out).cell (wb_ w6 _ GX.out.2.2.2.2.2)).trans GX.out.2.2.2.2.2, bc_ (kb_ BK6.out (p2_ HW.out)) 0, bc_ (kb_ BK6.out (p2_ HW.out)) 1, bc_ (kb_ BK6.out (p2_ HW.out)) 2, bc_ (kb_ BK6.out (p2_ HW.out)) 3, bc_ (kb_ BK6.out (p2_ HW.out)) 4, bc_ (kb_ BK6.out (p2_ HW.out)) 5, bc_ (kb_ BK6.out (p2_ HW.out)) 6⟩) ?_
        intro hHeld
        refine with_tabW pinfoldlaw17_ClaimOne.tab26 pinfoldlaw17_ClaimOne.bits26 (fun HT_ HW_ => ?_)
        replace HW := am_ (p2_ HW.out)
        refine ordI [0, 1, 2] ?_
        iterate 3 first | (refine ordP' HT_ (v := ?_) (a' := ?_) rfl rfl (by kernel_rfl) (fun _ _ _ h => h) (Or.inl ⟨by kernel_rfl, ?_⟩) ?_ ?_; rotate_left; (intro w'; go_simp; with_reducible rfl); rotate_left; (simp only [Act.put, sa_, sb_, sc_, i64_w, i32_w]; rfl)) | (refine ordL' HT_ HW_ (v := ?_) (a' := ?_) rfl rfl (by kernel_rfl) (fun _ _ _ h => h) (Or.inl ⟨by kernel_rfl, ?_⟩) hHeld ?_ ?_; rotate_left; (rintro w' ⟨s0, s1, s2, s3, s4, s5, s6, s7, s8, s9, s10, s11, s12, s13, s14, s15, s16, s17, s18⟩; go_simp; with_reducible rfl); rotate_left; (simp only [Act.put, sa_, sb_, sc_, i64_w, i32_w]; rfl))
        refine ordN ?_
        refine ordI [3, 4, 5, 6, 7, 8, 9] ?_
        iterate 7 (refine ordP' HT_ (v := undef) (a' := ?_) rfl rfl (by kernel_rfl) (fun _ _ _ h => h) (Or.inr ⟨by kernel_rfl, rfl⟩) ?_ ?_; rotate_left; (simp only [Act.put, sa_, sb_, sc_, i64_w, i32_w]; rfl))
        refine ordN ?_
        refine ordI [10, 11] ?_
        iterate 2 (refine ordP' HT_ (v := ?_) (a' := ?_) rfl rfl (by kernel_rfl) (fun _ _ _ h => h) (Or.inl ⟨by kernel_rfl, ?_⟩) ?_ ?_; rotate_left; (intro w'; go_simp; with_reducible rfl); rotate_left; (simp only [Act.put, sa_, sb_, sc_, i64_w, i32_w]; rfl))
        refine ordN ?_
        refine ordI [12, 13, 14, 15, 16] ?_
        iterate 5 (refine ordP' HT_ (v := undef) (a' := ?_) rfl rfl (by kernel_rfl) (fun _ _ _ h => h) (Or.inr ⟨by kernel_rfl, rfl⟩) ?_ ?_; rotate_left; (simp only [Act.put, sa_, sb_, sc_, i64_w, i32_w]; rfl))
        refine ordN ?_
        refine ordI [17, 18] ?_
        iterate 2 (refine ordP' HT_ (v := ?_) (a' := ?_) rfl rfl (by kernel_rfl) (fun _ _ _ h => h) (Or.inl ⟨by kernel_rfl, ?_⟩) ?_ ?_; rotate_left; (intro w'; go_simp; with_reducible rfl); rotate_left; (simp only [Act.put, sa_, sb_, sc_, i64_w, i32_w]; rfl))
        refine ordN ?_
        refine ordI [19, 20, 21, 22, 23, 24] ?_
        iterate 6 (refine ordP' HT_ (v := undef) (a' := ?_) rfl rfl (by kernel_rfl) (fun _ _ _ h => h) (Or.inr ⟨by kernel_rfl, rfl⟩) ?_ ?_; rotate_left; (simp only [Act.put, sa_, sb_, sc_, i64_w, i32_w]; rfl))
        refine ordN ?_
        refine ordI [25, 26] ?_
        iterate 2 (refine ordP' HT_ (v := ?_) (a' := ?_) rfl rfl (by kernel_rfl) (fun _ _ _ h => h) (Or.inl ⟨by kernel_rfl, ?_⟩) ?_ ?_; rotate_left; (intro w'; go_simp; with_reducible rfl); rotate_left; (simp only [Act.put, sa_, sb_, sc_, i64_w, i32_w]; rfl))
        refine ordN ?_
        refine ordI [27, 28, 29, 30, 31, 32, 33, 34, 35, 36, 37, 38] ?_
        iterate 12 (refine ordP' HT_ (v := undef) (a' := ?_) rfl rfl (by kernel_rfl) (fun _ _ _ h => h) (Or.inr ⟨by kernel_rfl, rfl⟩) ?_ ?_; rotate_left; (simp only [Act.put, sa_, sb_, sc_, i64_w, i32_w]; rfl))
        refine ordN ?_
        refine ordI [39] ?_
        iterate 1 (refine ordP' HT_ (v := ?_) (a' := ?_) rfl rfl (by kernel_rfl) (fun _ _ _ h => h) (Or.inl ⟨by kernel_rfl, ?_⟩) ?_ ?_; rotate_left; (intro w'; go_simp; with_reducible rfl); rotate_left; (simp only [Act.put, sa_, sb_, sc_, i64_w, i32_w]; rfl))
        refine ordN ?_
        refine ordE HT_ (by kernel_rfl) ?_
        go_wp2
        go_roundg (a.length - (i.toNat + 1))
        case measure => exact M3.out
        case rel => exact ⟨i + 1, M1.out, M2.out, by first | rfl | (rw [show wrap64 (i + 1) = i + 1 from (i64_w _).symm.trans M4.out]), HW⟩
       | true =>
        by_cases q0 : hh = y0
        ·subst q0
         have c0 : (hh != hh) = false := by simp
         clear hne
         go_wp2_with (fail)
         refine ordS (S := pinfoldlaw17_ClaimOne.S26 w5.heap.size w.heap.size (ad.add (i.toNat * 6)) hh 2 a3 (a2 + a0_4) b4 true hh y1 y2 y3 y4 y5 a0_0 a0_1 A0_2 c0_2 l0_2 A0_3 c0_3 l0_3 a0_4 a0_5 A0_6 c0_6 l0_6) 40 (by kernel_rfl) rfl rfl (by unfold pinfoldlaw17_ClaimOne.S26; exact ⟨bc_ (kb_ BX.out (p2_ HW.out)) 0, bc_ (kb_ BX.out (p2_ HW.out)) 1, bc_ (kb_ BX.out (p2_ HW.out)) 2, bc_ (kb_ BX.out (p2_ HW.out)) 3, bc_ (kb_ BX.out (p2_ HW.out)) 4, bc_ (kb_ BX.out (p2_ HW.out)) 5, ((p2_ HW.out).cell (wb_ w6 _ GX.out.1)).trans GX.out.1, ((p2_ HW.out).cell (wb_ w6 _ GX.out.2.1)).trans GX.out.2.1, ((p2_ HW.out).cell (wb_ w6 _ GX.out.2.2.1)).trans GX.out.2.2.1, ((p2_ HW.out).cell (wb_ w6 _ GX.out.2.2.2.1)).trans GX.out.2.2.2.1, ((p2_ HW.out).cell (wb_ w6 _ GX.out.2.2.2.2.1)).trans GX.out.2.2.2.2.1, ((p2_ HW.out).cell (wb_ w6 _ GX.out.2.2.2.2.2)).trans GX.out.2.2.2.2.2, bc_ (kb_ BK6.out (p2_ HW.out)) 0, bc_ (kb_ BK6.out (p2_ HW.out)) 1, bc_ (kb_ BK6.out (p2_ HW.out)) 2, bc_ (kb_ BK6.out (p2_ HW.out)) 3, bc_ (kb_ BK6.out (p2_ HW.out)) 4, bc_ (kb_ BK6.out (p2_ HW.out)) 5, bc_ (kb_ BK6.out (p2_ HW.out)) 6⟩) ?_
         intro hHeld
         refine with_tabW pinfoldlaw17_ClaimOne.tab26 pinfoldlaw17_ClaimOne.bits26 (fun HT_ HW_ => ?_)
         replace HW := am_ (p2_ HW.out)
         refine ordI [0, 1, 2, 3, 4, 5, 6, 7, 8, 9, 10, 11] ?_
         iterate 12 first | (refine ordP' HT_ (v := ?_) (a' := ?_) rfl rfl (by kernel_rfl) (fun _ _ _ h => h) (Or.inl ⟨by kernel_rfl, ?_⟩) ?_ ?_; rotate_left; (intro w'; go_simp; with_reducible rfl); rotate_left; (simp only [Act.put, sa_, sb_, sc_, i64_w, i32_w]; rfl)) | (refine ordL' HT_ HW_ (v := ?_) (a' := ?_) rfl rfl (by kernel_rfl) (fun _ _ _ h => h) (Or.inl ⟨by kernel_rfl, ?_⟩) hHeld ?_ ?_; rotate_left; (rintro w' ⟨s0, s1, s2, s3, s4, s5, s6, s7, s8, s9, s10, s11, s12, s13, s14, s15, s16, s17, s18⟩; go_simp; with_reducible rfl); rotate_left; (simp only [Act.put, sa_, sb_, sc_, i64_w, i32_w]; rfl))
         refine ordN ?_
         refine ordI [12, 13, 14, 15, 16] ?_
         iterate 5 (refine ordP' HT_ (v := undef) (a' := ?_) rfl rfl (by kernel_rfl) (fun _ _ _ h => h) (Or.inr ⟨by kernel_rfl, rfl⟩) ?_ ?_; rotate_left; (simp only [Act.put, sa_, sb_, sc_, i64_w, i32_w]; rfl))
         refine ordN ?_
         refine ordI [17, 18] ?_
         iterate 2 (refine ordP' HT_ (v := ?_) (a' := ?_) rfl rfl (by kernel_rfl) (fun _ _ _ h => h) (Or.inl ⟨by kernel_rfl, ?_⟩) ?_ ?_; rotate_left; (intro w'; go_simp; with_reducible rfl); rotate_left; (simp only [Act.put, sa_, sb_, sc_, i64_w, i32_w]; rfl))
         refine ordN ?_
         refine ordI [19, 20, 21, 22, 23, 24] ?_
         iterate 6 (refine ordP' HT_ (v := undef) (a' := ?_) rfl rfl (by kernel_rfl) (fun _ _ _ h => h) (Or.inr ⟨by kernel_rfl, rfl⟩) ?_ ?_; rotate_left; (simp only [Act.put, sa_, sb_, sc_, i64_w, i32_w]; rfl))
         refine ordN ?_
         refine ordI [25, 26] ?_
         iterate 2 (refine ordP' HT_ (v := ?_) (a' := ?_) rfl rfl (by kernel_rfl) (fun _ _ _ h => h) (Or.inl ⟨by kernel_rfl, ?_⟩) ?_ ?_; rotate_left; (intro w'; go_simp; with_reducible rfl); rotate_left; (simp only [Act.put, sa_, sb_, sc_, i64_w, i32_w]; rfl))
         refine ordN ?_
         refine ordI [27, 28, 29, 30, 31, 32, 33, 34, 35, 36, 37, 38] ?_
         iterate 12 (refine ordP' HT_ (v := undef) (a' := ?_) rfl rfl (by kernel_rfl) (fun _ _ _ h => h) (Or.inr ⟨by kernel_rfl, rfl⟩) ?_ ?_; rotate_left; (simp only [Act.put, sa_, sb_, sc_, i64_w, i32_w]; rfl))
         refine ordN ?_
         refine ordI [39] ?_
         iterate 1 (refine ordP' HT_ (v := ?_) (a' := ?_) rfl rfl (by kernel_rfl) (fun _ _ _ h => h) (Or.inl ⟨by kernel_rfl, ?_⟩) ?_ ?_; rotate_left; (intro w'; go_simp; with_reducible rfl); rotate_left; (simp only [Act.put, sa_, sb_, sc_, i64_w, i32_w]; rfl))
         refine ordN ?_
         refine ordE HT_ (by kernel_rfl) ?_
         go_wp2
         go_roundg (a.length - (i.toNat + 1))
         case measure => exact M3.out
         case rel => exact ⟨i + 1, M1.out, M2.out, by first | rfl | (rw [show wrap64 (i + 1) = i + 1 from (i64_w _).symm.trans M4.out]), HW⟩
        have c0 : (y0 != hh) = true := bne_iff_ne.2 (fun e => q0 e.symm)
        replace hne := fun e => hne rfl (fun e => q0 e.symm) e
        clear q0
        cases y5 with
        | false =>
         clear hne
         go_wp2_with (fail)
         refine ordS (S := pinfoldlaw17_ClaimOne.S26 w5.heap.size w.heap.size (ad.add (i.toNat * 6)) hh 2 a3 (a2 + a0_4) b4 true y0 y1 y2 y3 y4 false a0_0 a0_1 A0_2 c0_2 l0_2 A0_3 c0_3 l0_3 a0_4 a0_5 A0_6 c0_6 l0_6) 40 (by kernel_rfl) rfl rfl (by unfold pinfoldlaw17_ClaimOne.S26; exact ⟨bc_ (kb_ BX.out (p2_ HW.out)) 0, bc_ (kb_ BX.out (p2_ HW.out)) 1, bc_ (kb_ BX.out (p2_ HW.out)) 2, bc_ (kb_ BX.out (p2_ HW.out)) 3, bc_ (kb_ BX.out (p2_ HW.out)) 4, bc_ (kb_ BX.out (p2_ HW.out)) 5, ((p2_ HW.out).cell (wb_ w6 _ GX.out.1)).trans GX.out.1, ((p2_ HW.out).cell (wb_ w6 _ GX.out.2.1)).trans GX.out.2.1, ((p2_ HW.out).cell (wb_ w6 _ GX.out.2.2.1)).trans GX.out.2.2.1, ((p2_ HW.out).cell (wb_ w6 _ GX.out.2.2.2.1)).trans GX.out.2.2.2.1, ((p2_ HW.out).cell (wb_ w6 _ GX.out.2.2.2.2.1)).trans GX.out.2.2.2.2.1, ((p2_ HW.out).cell (wb_ w6 _ GX.out.2.2.2.2.2)).trans GX.out.2.2.2.2.2, bc_ (kb_ BK6.out (p2_ HW.out)) 0, bc_ (kb_ BK6.out (p2_ HW.out)) 1, bc_ (kb_ BK6.out (p2_ HW.out)) 2, bc_ (kb_ BK6.out (p2_ HW.out)) 3, bc_ (kb_ BK6.out (p2_ HW.out)) 4, bc_ (kb_ BK6.out (p2_ HW.out)) 5, bc_ (kb_ BK6.out (p2_ HW.out)) 6⟩) ?_
         intro hHeld
         refine with_tabW pinfoldlaw17_ClaimOne.tab26 pinfoldlaw17_ClaimOne.bits26 (fun HT_ HW_ => ?_)
         replace HW := am_ (p2_ HW.out)
         refine ordI [0, 1, 2, 3, 4, 5, 6, 7, 8, 9, 10, 11, 12, 13, 14, 15, 16, 17, 18] ?_
         iterate 19 first | (refine ordP' HT_ (v := ?_) (a' := ?_) rfl rfl (by kernel_rfl) (fun _ _ _ h => h) (Or.inl ⟨by kernel_rfl, ?_⟩) ?_ ?_; rotate_left; (intro w'; go_simp; with_reducible rfl); rotate_left; (simp only [Act.put, sa_, sb_, sc_, i64_w, i32_w]; rfl)) | (refine ordL' HT_ HW_ (v := ?_) (a' := ?_) rfl rfl (by kernel_rfl) (fun _ _ _ h => h) (Or.inl ⟨by kernel_rfl, ?_⟩) hHeld ?_ ?_; rotate_left; (rintro w' ⟨s0, s1, s2, s3, s4, s5, s6, s7, s8, s9, s10, s11, s12, s13, s14, s15, s16, s17, s18⟩; go_simp; with_reducible rfl); rotate_left; (simp only [Act.put, sa_, sb_, sc_, i64_w, i32_w]; rfl))
         refine ordN ?_
         refine ordI [19, 20, 21, 22, 23, 24] ?_
         iterate 6 (refine ordP' HT_ (v := undef) (a' := ?_) rfl rfl (by kernel_rfl) (fun _ _ _ h => h) (Or.inr ⟨by kernel_rfl, rfl⟩) ?_ ?_; rotate_left; (simp only [Act.put, sa_, sb_, sc_, i64_w, i32_w]; rfl))
         refine ordN ?_
         refine ordI [25, 26] ?_
         iterate 2 (refine ordP' HT_ (v := ?_) (a' := ?_) rfl rfl (by kernel_rfl) (fun _ _ _ h => h) (Or.inl ⟨by kernel_rfl, ?_⟩) ?_ ?_; rotate_left; (intro w'; go_simp; with_reducible rfl); rotate_left; (simp only [Act.put, sa_, sb_, sc_, i64_w, i32_w]; rfl))
         refine ordN ?_
         refine ordI [27, 28, 29, 30, 31, 32, 33, 34, 35, 36, 37, 38] ?_
         iterate 12 (refine ordP' HT_ (v := undef) (a' := ?_) rfl rfl (by kernel_rfl) (fun _ _ _ h => h) (Or.inr ⟨by kernel_rfl, rfl⟩) ?_ ?_; rotate_left; (simp only [Act.put, sa_, sb_, sc_, i64_w, i32_w]; rfl))
         refine ordN ?_
         refine ordI [39] ?_
         iterate 1 (refine ordP' HT_ (v := ?_) (a' := ?_) rfl rfl (by kernel_rfl) (fun _ _ _ h => h) (Or.inl ⟨by kernel_rfl, ?_⟩) ?_ ?_; rotate_left; (intro w'; go_simp; with_reducible rfl); rotate_left; (simp only [Act.put, sa_, sb_, sc_, i64_w, i32_w]; rfl))
         refine ordN ?_
         refine ordE HT_ (by kernel_rfl) ?_
         go_wp2
         go_roundg (a.length - (i.toNat + 1))
         case measure => exact M3.out
         case rel => exact ⟨i + 1, M1.out, M2.out, by first | rfl | (rw [show wrap64 (i + 1) = i + 1 from (i64_w _).symm.trans M4.out]), HW⟩
        | true =>
         cases bl with
         | false =>
          clear hne
          go_wp2_with (fail)
          refine ordS (S := pinfoldlaw17_ClaimOne.S26 w5.heap.size w.heap.size (ad.add (i.toNat * 6)) hh 2 a3 (a2 + a0_4) b4 true y0 y1 y2 y3 y4 true a0_0 a0_1 A0_2 c0_2 l0_2 A0_3 c0_3 l0_3 a0_4 a0_5 A0_6 c0_6 l0_6) 40 (by kernel_rfl) rfl rfl (by unfold pinfoldlaw17_ClaimOne.S26; exact ⟨bc_ (kb_ BX.out (p2_ HW.out)) 0, bc_ (kb_ BX.out (p2_ HW.out)) 1, bc_ (kb_ BX.out (p2_ HW.out)) 2, bc_ (kb_ BX.out (p2_ HW.out)) 3, bc_ (kb_ BX.out (p2_ HW.out)) 4, bc_ (kb_ BX.out (p2_ HW.out)) 5, ((p2_ HW.out).cell (wb_ w6 _ GX.out.1)).trans GX.out.1, ((p2_ HW.out).cell (wb_ w6 _ GX.out.2.1)).trans GX.out.2.1, ((p2_ HW.out).cell (wb_ w6 _ GX.out.2.2.1)).trans GX.out.2.2.1, ((p2_ HW.out).cell (wb_ w6 _ GX.out.2.2.2.1)).trans GX.out.2.2.2.1, ((p2_ HW.out).cell (wb_ w6 _ GX.out.2.2.2.2.1)).trans GX.out.2.2.2.2.1, ((p2_ HW.out).cell (wb_ w6 _ GX.out.2.2.2.2.2)).trans GX.out.2.2.2.2.2, bc_ (kb_ BK6.out (p2_ HW.out)) 0, bc_ (kb_ BK6.out (p2_ HW.out)) 1, bc_ (kb_ BK6.out (p2_ HW.out)) 2, bc_ (kb_ BK6.out (p2_ HW.out)) 3, bc_ (kb_ BK6.out (p2_ HW.out)) 4, bc_ (kb_ BK6.out (p2_ HW.out)) 5, bc_ (kb_ BK6.out (p2_ HW.out)) 6⟩) ?_
          intro hHeld
          refine with_tabW pinfoldlaw17_ClaimOne.tab26 pinfoldlaw17_ClaimOne.bits26 (fun HT_ HW_ => ?_)
          replace HW := am_ (p2_ HW.out)
          refine ordI [0, 1, 2, 3, 4, 5, 6, 7, 8, 9, 10, 11, 12, 13, 14, 15, 16, 17, 18, 19, 20, 21, 22, 23] ?_
          iterate 24 first | (refine ordP' HT_ (v := ?_) (a' := ?_) rfl rfl (by kernel_rfl) (fun _ _ _ h => h) (Or.inl ⟨by kernel_rfl, ?_⟩) ?_ ?_; rotate_left; (intro w'; go_simp; with_reducible rfl); rotate_left; (simp only [Act.put, sa_, sb_, sc_, i64_w, i32_w]; rfl)) | (refine ordL' HT_ HW_ (v := ?_) (a' := ?_) rfl rfl (by kernel_rfl) (fun _ _ _ h => h) (Or.inl ⟨by kernel_rfl, ?_⟩) hHeld ?_ ?_; rotate_left; (rintro w' ⟨s0, s1, s2, s3, s4, s5, s6, s7, s8, s9, s10, s11, s12, s13, s14, s15, s16, s17, s18⟩; go_simp; with_reducible rfl); rotate_left; (simp only [Act.put, sa_, sb_, sc_, i64_w, i32_w]; rfl))
          refine ordN ?_
          refine ordG (fn := Tryd.f12) HT_ 24 rfl rfl (by kernel_rfl) rfl Tryd.func12 (by kernel_rfl) (by kernel_rfl) #[.agg #[.int .i64 y0, .int .i64 y1, .string y2, .int .i64 y3, .string y4, .bool true], .int .i64 a2] (by kernel_rfl) (by (try simp only [List.map_toArray, List.map_cons, List.map_nil]); first | done | rfl) ?_
          with_reducible refine (CL.out _).mono ?_
          rintro e wg ⟨rfl, hb2⟩
          replace HW := am_ (bt_ HW.out hb2)
          refine ⟨_, rfl, (pinfoldlaw17_ClaimOne.S26_below hHeld hb2), fun hHeld => ⟨?_, ?_, ?_⟩⟩
          rotate_left
          ·simp only [Act.put, sa_, sb_, sc_, i64_w, i32_w]
           rfl
          refine ordI [25, 26] ?_
          iterate 2 (refine ordP' HT_ (v := ?_) (a' := ?_) rfl rfl (by kernel_rfl) (fun _ _ _ h => h) (Or.inl ⟨by kernel_rfl, ?_⟩) ?_ ?_; rotate_left; (intro w'; go_simp; with_reducible rfl); rotate_left; (simp only [Act.put, sa_, sb_, sc_, i64_w, i32_w]; rfl))
          refine ordN ?_
          refine ordI [27, 28, 29, 30, 31, 32, 33, 34, 35, 36, 37, 38] ?_
          iterate 12 (refine ordP' HT_ (v := undef) (a' := ?_) rfl rfl (by kernel_rfl) (fun _ _ _ h => h) (Or.inr ⟨by kernel_rfl, rfl⟩) ?_ ?_; rotate_left; (simp only [Act.put, sa_, sb_, sc_, i64_w, i32_w]; rfl))
          refine ordN ?_
          refine ordI [39] ?_
          iterate 1 (refine ordP' HT_ (v := ?_) (a' := ?_) rfl rfl (by kernel_rfl) (fun _ _ _ h => h) (Or.inl ⟨by kernel_rfl, ?_⟩) ?_ ?_; rotate_left; (intro w'; go_simp; with_reducible rfl); rotate_left; (simp only [Act.put, sa_, sb_, sc_, i64_w, i32_w]; rfl))
          refine ordN ?_
          refine ordE HT_ (by kernel_rfl) ?_
          go_wp2
          go_roundg (a.length - (i.toNat + 1))
          case measure => exact M3.out
          case rel => exact ⟨i + 1, M1.out, M2.out, by first | rfl | (rw [show wrap64 (i + 1) = i + 1 from (i64_w _).symm.trans M4.out]), HW⟩
         | true =>
          have c4 : (FY.toList == FB.toList) = false := by simpa using hne rfl rfl
          clear hne
          go_wp2_with (fail)
          refine ordS (S := pinfoldlaw17_ClaimOne.S26 w5.heap.size w.heap.size (ad.add (i.toNat * 6)) hh 2 a3 (a2 + a0_4) b4 true y0 y1 y2 y3 y4 true a0_0 a0_1 A0_2 c0_2 l0_2 A0_3 c0_3 l0_3 a0_4 a0_5 A0_6 c0_6 l0_6) 40 (by kernel_rfl) rfl rfl (by unfold pinfoldlaw17_ClaimOne.S26; exact ⟨bc_ (kb_ BX.out (p2_ HW.out)) 0, bc_ (kb_ BX.out (p2_ HW.out)) 1, bc_ (kb_ BX.out (p2_ HW.out)) 2, bc_ (kb_ BX.out (p2_ HW.out)) 3, bc_ (kb_ BX.out (p2_ HW.out)) 4, bc_ (kb_ BX.out (p2_ HW.out)) 5, ((p2_ HW.out).cell (wb_ w6 _ GX.out.1)).trans GX.out.1, ((p2_ HW.out).cell (wb_ w6 _ GX.out.2.1)).trans GX.out.2.1, ((p2_ HW.out).cell (wb_ w6 _ GX.out.2.2.1)).trans GX.out.2.2.1, ((p2_ HW.out).cell (wb_ w6 _ GX.out.2.2.2.1)).trans GX.out.2.2.2.1, ((p2_ HW.out).cell (wb_ w6 _ GX.out.2.2.2.2.1)).trans GX.out.2.2.2.2.1, ((p2_ HW.out).cell (wb_ w6 _ GX.out.2.2.2.2.2)).trans GX.out.2.2.2.2.2, bc_ (kb_ BK6.out (p2_ HW.out)) 0, bc_ (kb_ BK6.out (p2_ HW.out)) 1, bc_ (kb_ BK6.out (p2_ HW.out)) 2, bc_ (kb_ BK6.out (p2_ HW.out)) 3, bc_ (kb_ BK6.out (p2_ HW.out)) 4, bc_ (kb_ BK6.out (p2_ HW.out)) 5, bc_ (kb_ BK6.out (p2_ HW.out)) 6⟩) ?_
          intro hHeld
          refine with_tabW pinfoldlaw17_ClaimOne.tab26 pinfoldlaw17_ClaimOne.bits26 (fun HT_ HW_ => ?_)
          replace HW := am_ (p2_ HW.out)
          refine ordI [0, 1, 2, 3, 4, 5, 6, 7, 8, 9, 10, 11, 12, 13, 14, 15, 16, 17, 18, 19, 20, 21, 22, 23] ?_
          iterate 24 first | (refine ordP' HT_ (v := ?_) (a' := ?_) rfl rfl (by kernel_rfl) (fun _ _ _ h => h) (Or.inl ⟨by kernel_rfl, ?_⟩) ?_ ?_; rotate_left; (intro w'; go_simp; with_reducible rfl); rotate_left; (simp only [Act.put, sa_, sb_, sc_, i64_w, i32_w]; rfl)) | (refine ordL' HT_ HW_ (v := ?_) (a' := ?_) rfl rfl (by kernel_rfl) (fun _ _ _ h => h) (Or.inl ⟨by kernel_rfl, ?_⟩) hHeld ?_ ?_; rotate_left; (rintro w' ⟨s0, s1, s2, s3, s4, s5, s6, s7, s8, s9, s10, s11, s12, s13, s14, s15, s16, s17, s18⟩; go_simp; with_reducible rfl); rotate_left; (simp only [Act.put, sa_, sb_, sc_, i64_w, i32_w]; rfl))
          refine ordN ?_
          refine ordG (fn := Tryd.f12) HT_ 24 rfl rfl (by kernel_rfl) rfl Tryd.func12 (by kernel_rfl) (by kernel_rfl) #[.agg #[.int .i64 y0, .int .i64 y1, .string y2, .int .i64 y3, .string y4, .bool true], .int .i64 a2] (by kernel_rfl) (by (try simp only [List.map_toArray, List.map_cons, List.map_nil]); first | done | rfl) ?_
          with_reducible refine (CL.out _).mono ?_
          rintro e wg ⟨rfl, hb2⟩
          replace HW := am_ (bt_ HW.out hb2)
          refine ⟨_, rfl, (pinfoldlaw17_ClaimOne.S26_below hHeld hb2), fun hHeld => ⟨?_, ?_, ?_⟩⟩
          rotate_left
          ·simp only [Act.put, sa_, sb_, sc_, i64_w, i32_w]
           rfl
          refine ordI [25, 26, 27, 28, 29, 30, 31, 32, 34, 35, 36] ?_
          iterate 11 first | (refine ordP' HT_ (v := ?_) (a' := ?_) rfl rfl (by kernel_rfl) (fun _ _ _ h => h) (Or.inl ⟨by kernel_rfl, ?_⟩) ?_ ?_; rotate_left; (intro w'; go_simp; with_reducible rfl); rotate_left; (simp only [Act.put, sa_, sb_, sc_, i64_w, i32_w]; rfl)) | (refine ordL' HT_ HW_ (v := ?_) (a' := ?_) rfl rfl (by kernel_rfl) (fun _ _ _ h => h) (Or.inl ⟨by kernel_rfl, ?_⟩) hHeld ?_ ?_; rotate_left; (rintro w' ⟨s0, s1, s2, s3, s4, s5, s6, s7, s8, s9, s10, s11, s12, s13, s14, s15, s16, s17, s18⟩; go_simp; with_reducible rfl); rotate_left; (simp only [Act.put, sa_, sb_, sc_, i64_w, i32_w]; rfl))
          refine ordN ?_
          refine ordG (fn := Tryd.f14) HT_ 33 rfl rfl (by kernel_rfl) rfl Tryd.func14 (by kernel_rfl) (by kernel_rfl) #[.agg #[.int .i64 a0_0, .int .i64 a0_1, .slice A0_2 l0_2.length c0_2, .slice A0_3 l0_3.length c0_3, .int .i64 a0_4, .string a0_5, .slice A0_6 l0_6.length c0_6], .string y4] (by kernel_rfl) (by (try simp only [List.map_toArray, List.map_cons, List.map_nil]); first | done | rfl) ?_
          with_reducible refine (CFY.out _ (bt_ HB6.out HW.out)).mono ?_
          rintro e wg ⟨rfl, hb2⟩
          replace HW := am_ (bt_ HW.out hb2)
          refine ⟨_, rfl, (pinfoldlaw17_ClaimOne.S26_below hHeld hb2), fun hHeld => ⟨?_, ?_, ?_⟩⟩
          rotate_left
          ·simp only [Act.put, sa_, sb_, sc_, i64_w, i32_w]
           rfl
          refine ordG (fn := Tryd.f14) HT_ 37 rfl rfl (by kernel_rfl) rfl Tryd.func14 (by kernel_rfl) (by kernel_rfl) #[.agg #[.int .i64 a0_0, .int .i64 a0_1, .slice A0_2 l0_2.length c0_2, .slice A0_3 l0_3.length c0_3, .int .i64 a0_4, .string a0_5, .slice A0_6 l0_6.length c0_6], .string b4] (by kernel_rfl) (by (try simp only [List.map_toArray, List.map_cons, List.map_nil]); first | done | rfl) ?_
          with_reducible refine (CFB.out _ (bt_ HB6.out HW.out)).mono ?_
          rintro e wg ⟨rfl, hb2⟩
          replace HW := am_ (bt_ HW.out hb2)
          refine ⟨_, rfl, (pinfoldlaw17_ClaimOne.S26_below hHeld hb2), fun hHeld => ⟨?_, ?_, ?_⟩⟩
          rotate_left
          ·simp only [Act.put, sa_, sb_, sc_, i64_w, i32_w]
           rfl
          refine ordI [38, 39] ?_
          iterate 2 (refine ordP' HT_ (v := ?_) (a' := ?_) rfl rfl (by kernel_rfl) (fun _ _ _ h => h) (Or.inl ⟨by kernel_rfl, ?_⟩) ?_ ?_; rotate_left; (intro w'; go_simp; with_reducible rfl); rotate_left; (simp only [Act.put, sa_, sb_, sc_, i64_w, i32_w]; rfl))
          refine ordN ?_
          refine ordE HT_ (by kernel_rfl) ?_
          go_wp2
          go_roundg (a.length - (i.toNat + 1))
          case measure => exact M3.out
          case rel => exact ⟨i + 1, M1.out, M2.out, by first | rfl | (rw [show wrap64 (i + 1) = i + 1 from (i64_w _).symm.trans M4.out]), HW⟩
      ·have CT := am_ (fun W (hb : Below w2.heap.size w2 W) => pinfoldref11_TableMay_c.calls AA ca a true W (c4_ HA2.out hb) hca.out (by unfold pinfoldref11_TableMay_c.f; rw [if_pos HTA.out.2, HTA.out.1]))
       go_wp2_with (go_at_call 15; (with_reducible refine (CT.out _ (bt_ H26.out HW.out)).mono ?_); rintro e w7 ⟨rfl, hb2⟩; replace HW := am_ (bt_ HW.out hb2); clear hb2)
       go_ret
       exact ⟨rfl, bt_ HB6.out HW.out⟩
theorem pinfoldlaw17_ClaimOne.small {y : S36} {ls : List S36} (h : tableB ls = true) (hy : y ∈ ls) : y.f4.size ≤ 72 := by
 have hk := (table_sorted h).1 y hy
 have h1 : leaseB y.f0 y.f1 y.f2 y.f3 y.f4 y.f5 = true := hk
 unfold leaseB at h1
 simp only [Bool.and_eq_true] at h1
 exact name_size _ h1.2
theorem pinfoldlaw17_ClaimOne.calls (a0_0 : Int) (a0_1 : Int) (A0_2 : Option Addr) (c0_2 : Nat) (l0_2 : List Int) (A0_3 : Option Addr) (c0_3 : Nat) (l0_3 : List S72) (a0_4 : Int) (a0_5 : ByteArray) (A0_6 : Option Addr) (c0_6 : Nat) (l0_6 : List S74) (A1 : Option Addr) (c1 : Nat) (l1 : List S36) (a2 : Int) (a3 : ByteArray) (q0 : Bool) (q1 q2 q3 : Int) (q4 : ByteArray) (r : Bool) (w : World) (hr0_2 : Kd.C (Kd.int .i64) w A0_2 l0_2.length l0_2) (hc0_2 : l0_2.length ≤ c0_2) (hr0_3 : Kd.C k72 w A0_3 l0_3.length l0_3) (hc0_3 : l0_3.length ≤ c0_3) (hr0_6 : Kd.C k74 w A0_6 l0_6.length l0_6) (hc0_6 : l0_6.length ≤ c0_6) (hr1 : Kd.C k36 w A1 l1.length l1) (hc1 : l1.length ≤ c1) (h : pinfoldlaw17_ClaimOne.f a0_0 a0_1 l0_2 l0_3 a0_4 a0_5 l0_6 l1 a2 a3 q0 q1 q2 q3 q4 = some r) :
  Calls Tryd.prog 3 #[.agg #[.int .i64 a0_0, .int .i64 a0_1, .slice A0_2 l0_2.length c0_2, .slice A0_3 l0_3.length c0_3, .int .i64 a0_4, .string a0_5, .slice A0_6 l0_6.length c0_6], .slice A1 l1.length c1, .int .i64 a2, .string a3, .agg #[.bool q0, .int .i64 q1, .int .i64 q2, .int .i64 q3, .string q4]] w fun e w' => e = .returned (.bool r) ∧ Below w.heap.size w w' := by
 unfold pinfoldlaw17_ClaimOne.f at h
 by_cases hs : pickFit l0_2 l0_3 a0_5 l0_6 l1 ∧ q4.size ≤ 140737488351232
 rotate_left
 ·rw [if_neg hs] at h
  cases h
 rw [if_pos hs] at h
 obtain rfl := e5_ h
 obtain ⟨a, k, hh, e, hv⟩ : ∃ a k h e, claimV (freeB a0_0 a0_1 l0_2 l0_3 a0_4 a0_5 l0_6 l1 a2 a3) a0_0 a0_1 l0_2 l0_3 a0_4 a0_5 l0_6 l1 a2 a3 q0 q1 q2 q3 q4 = (a, k, h, e) := ⟨_, _, _, _, rfl⟩
 have hF : claim_Claim.f a0_0 a0_1 l0_2 l0_3 a0_4 a0_5 l0_6 l1 a2 a3 q0 q1 q2 q3 q4 = some (a, k, hh, e) := by unfold claim_Claim.f; rw [if_pos hs, hv]
 rcases claim_told hv with ⟨rfl, rfl, rfl, rfl⟩ | ⟨rfl, hm, hn, hr, hcase⟩
 ·exact pinfoldlaw17_ClaimOne.no a0_0 a0_1 A0_2 c0_2 l0_2 A0_3 c0_3 l0_3 a0_4 a0_5 A0_6 c0_6 l0_6 A1 c1 l1 a2 a3 q0 q1 q2 q3 q4 w hr0_2 hc0_2 hr0_3 hc0_3 hr0_6 hc0_6 hr1 hc1 hF
 have hp := may_parts hm
 have hT := hp.2.2.2.1
 have h8 := (table_sorted hT).2.2
 by_cases hk : k = 1
 ·subst hk
  have hcf := conf_fitr hp.2.2.1 hs.1.1.2.1 hs.1.1.1
  have hcb := hp.2.2.1
  unfold confB at hcb
  simp only [Bool.and_eq_true, decide_eq_true_eq] at hcb
  have hz := name_size _ hcb.1.2.2.1
  have ha4 : 1 ≤ a0_4 ∧ a0_4 ≤ 1048576 := hcb.2.1
  obtain ⟨hL, b, hb, h1, h2, h3, hu, hone, hnn, hTa, hlen⟩ := claim_one hv
  have hbm := find_some hb
  have hb72 := pinfoldlaw17_ClaimOne.small hTa hbm.1
  obtain ⟨b0, b1, b2, b3, b4, b5⟩ := b
  simp only at h1 h2 h3 hbm hb72 hnn
  obtain ⟨_, hb0⟩ := hbm
  replace hb0 := hb0.symm
  replace h2 := h2.symm
  subst hb0 h1 h2 h3
  exact pinfoldlaw17_ClaimOne.given a0_0 a0_1 A0_2 c0_2 l0_2 A0_3 c0_3 l0_3 a0_4 a0_5 A0_6 c0_6 l0_6 A1 c1 l1 a2 a3 q0 q1 q2 q3 q4 a hh w hr0_2 hc0_2 hr0_3 hc0_3 hr0_6 hc0_6 hr1 hc1 hF h8 (table_fitr hT) hcf (by omega) hL b4 b5 hb ((i64_w _).trans (by unfold wrap64; omega)) hu hone hnn hTa (by omega) (fun y hy => pinfoldlaw17_ClaimOne.small hTa hy) hb72
 ·obtain ⟨rfl, hal, hL⟩ := claim_none hv hk
  exact pinfoldlaw17_ClaimOne.kept a0_0 a0_1 A0_2 c0_2 l0_2 A0_3 c0_3 l0_3 a0_4 a0_5 A0_6 c0_6 l0_6 A1 c1 l1 a2 a3 q0 q1 q2 q3 q4 a k w hr0_2 hc0_2 hr0_3 hc0_3 hr0_6 hc0_6 hr1 hc1 hF hk hal h8 (table_fitr hT) hL


/-- THE ONE PURE STATEMENT of pinfoldlaw17_ClaimOne. -/
def pinfoldlaw17_ClaimOne.Pure : Prop := ∀ (a0_0 : Int) (a0_1 : Int) (l0_2 : List Int) (l0_3 : List (S72)) (a0_4 : Int) (a0_5 : ByteArray) (l0_6 : List (S74)) (l1 : List (S36)) (a2 : Int) (a3 : ByteArray) (a4_0 : Bool) (a4_1 : Int) (a4_2 : Int) (a4_3 : Int) (a4_4 : ByteArray), (Lit.int .i64 a0_0).wf = true → (Lit.int .i64 a0_1).wf = true → (l0_2.length * Tryd.prog.bytesOf 3 ≤ 140737488351232 ∧ ∀ y0_ ∈ l0_2, (Lit.int .i64 y0_).wf = true) → (l0_3.length * Tryd.prog.bytesOf 72 ≤ 140737488351232 ∧ ∀ y0_ ∈ l0_3, (y0_.f0.size ≤ 140737488351232 ∧ (Lit.int .i64 y0_.f1).wf = true)) → (Lit.int .i64 a0_4).wf = true → a0_5.size ≤ 140737488351232 → (l0_6.length * Tryd.prog.bytesOf 74 ≤ 140737488351232 ∧ ∀ y0_ ∈ l0_6, (y0_.f0.size ≤ 140737488351232 ∧ ((Lit.int .i64 y0_.f1).wf = true ∧ ((Lit.int .i64 y0_.f2).wf = true ∧ ((Lit.int .i64 y0_.f3).wf = true ∧ (y0_.f4.size ≤ 140737488351232 ∧ (y0_.f5.size ≤ 140737488351232 ∧ (Lit.int .i64 y0_.f6).wf = true))))))) → (l1.length * Tryd.prog.bytesOf 36 ≤ 140737488351232 ∧ ∀ y0_ ∈ l1, ((Lit.int .i64 y0_.f0).wf = true ∧ ((Lit.int .i64 y0_.f1).wf = true ∧ (y0_.f2.size ≤ 140737488351232 ∧ ((Lit.int .i64 y0_.f3).wf = true ∧ (y0_.f4.size ≤ 140737488351232 ∧ True)))))) → (Lit.int .i64 a2).wf = true → a3.size ≤ 140737488351232 → (Lit.int .i64 a4_1).wf = true → (Lit.int .i64 a4_2).wf = true → (Lit.int .i64 a4_3).wf = true → a4_4.size ≤ 140737488351232 → pinfoldlaw17_ClaimOne.f a0_0 a0_1 l0_2 l0_3 a0_4 a0_5 l0_6 l1 a2 a3 a4_0 a4_1 a4_2 a4_3 a4_4 = some true
theorem pinfoldlaw17_ClaimOne.walk (P : pinfoldlaw17_ClaimOne.Pure) (a0_0 : Int) (a0_1 : Int) (A0_2 : Option Addr) (c0_2 : Nat) (l0_2 : List Int) (A0_3 : Option Addr) (c0_3 : Nat) (l0_3 : List (S72)) (a0_4 : Int) (a0_5 : ByteArray) (A0_6 : Option Addr) (c0_6 : Nat) (l0_6 : List (S74)) (A1 : Option Addr) (c1 : Nat) (l1 : List (S36)) (a2 : Int) (a3 : ByteArray) (a4_0 : Bool) (a4_1 : Int) (a4_2 : Int) (a4_3 : Int) (a4_4 : ByteArray) (w : World) (hr0_2 : Kd.C (Kd.int .i64) w A0_2 l0_2.length l0_2) (hc0_2 : l0_2.length ≤ c0_2) (hr0_3 : Kd.C k72 w A0_3 l0_3.length l0_3) (hc0_3 : l0_3.length ≤ c0_3) (hr0_6 : Kd.C k74 w A0_6 l0_6.length l0_6) (hc0_6 : l0_6.length ≤ c0_6) (hr1 : Kd.C k36 w A1 l1.length l1) (hc1 : l1.length ≤ c1) (w0_0 : (Lit.int .i64 a0_0).wf = true) (w0_1 : (Lit.int .i64 a0_1).wf = true) (w0_2 : (l0_2.length * Tryd.prog.bytesOf 3 ≤ 140737488351232 ∧ ∀ y0_ ∈ l0_2, (Lit.int .i64 y0_).wf = true)) (w0_3 : (l0_3.length * Tryd.prog.bytesOf 72 ≤ 140737488351232 ∧ ∀ y0_ ∈ l0_3, (y0_.f0.size ≤ 140737488351232 ∧ (Lit.int .i64 y0_.f1).wf = true))) (w0_4 : (Lit.int .i64 a0_4).wf = true) (w0_5 : a0_5.size ≤ 140737488351232) (w0_6 : (l0_6.length * Tryd.prog.bytesOf 74 ≤ 140737488351232 ∧ ∀ y0_ ∈ l0_6, (y0_.f0.size ≤ 140737488351232 ∧ ((Lit.int .i64 y0_.f1).wf = true ∧ ((Lit.int .i64 y0_.f2).wf = true ∧ ((Lit.int .i64 y0_.f3).wf = true ∧ (y0_.f4.size ≤ 140737488351232 ∧ (y0_.f5.size ≤ 140737488351232 ∧ (Lit.int .i64 y0_.f6).wf = true)))))))) (w1 : (l1.length * Tryd.prog.bytesOf 36 ≤ 140737488351232 ∧ ∀ y0_ ∈ l1, ((Lit.int .i64 y0_.f0).wf = true ∧ ((Lit.int .i64 y0_.f1).wf = true ∧ (y0_.f2.size ≤ 140737488351232 ∧ ((Lit.int .i64 y0_.f3).wf = true ∧ (y0_.f4.size ≤ 140737488351232 ∧ True))))))) (w2 : (Lit.int .i64 a2).wf = true) (w3 : a3.size ≤ 140737488351232) (w4_1 : (Lit.int .i64 a4_1).wf = true) (w4_2 : (Lit.int .i64 a4_2).wf = true) (w4_3 : (Lit.int .i64 a4_3).wf = true) (w4_4 : a4_4.size ≤ 140737488351232) :
  Calls Tryd.prog 3 #[.agg #[.int .i64 a0_0, .int .i64 a0_1, .slice A0_2 l0_2.length c0_2, .slice A0_3 l0_3.length c0_3, .int .i64 a0_4, .string a0_5, .slice A0_6 l0_6.length c0_6], .slice A1 l1.length c1, .int .i64 a2, .string a3, .agg #[.bool a4_0, .int .i64 a4_1, .int .i64 a4_2, .int .i64 a4_3, .string a4_4]] w fun e w' => e = .returned (.bool true) ∧ Below w.heap.size w w' := by
 have h := P a0_0 a0_1 l0_2 l0_3 a0_4 a0_5 l0_6 l1 a2 a3 a4_0 a4_1 a4_2 a4_3 a4_4 w0_0 w0_1 w0_2 w0_3 w0_4 w0_5 w0_6 w1 w2 w3 w4_1 w4_2 w4_3 w4_4
 refine (pinfoldlaw17_ClaimOne.calls a0_0 a0_1 _ _ l0_2 _ _ l0_3 a0_4 a0_5 _ _ l0_6 _ _ l1 a2 a3 a4_0 a4_1 a4_2 a4_3 a4_4 true w hr0_2 hc0_2 hr0_3 hc0_3 hr0_6 hc0_6 hr1 hc1 h).mono ?_
 rintro e w' ⟨rfl, hd⟩
 exact ⟨rfl, hd⟩
end Go.Proofs.YtibalpbkmgegnaaDoor.PN
