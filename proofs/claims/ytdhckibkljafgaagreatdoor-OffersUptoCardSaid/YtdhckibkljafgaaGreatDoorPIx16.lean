-- Made by wip/pr.py out of the translation (a turned copy of the kit's print; contracts by hand where said).
import Derived.Test.YtdhckibkljafgaaGreatDoorPIx0
import Derived.Test.YtdhckibkljafgaaGreatDoorPIx1
import Derived.Test.YtdhckibkljafgaaGreatDoorPIx4
import Derived.Test.YtdhckibkljafgaaGreatDoorPIx5
import Derived.Test.YtdhckibkljafgaaGreatDoorPIx12
import Derived.Test.YtdhckibkljafgaaGreatDoorPIx13
import Derived.Test.YtdhckibkljafgaaGreatDoorPIx14
import Derived.Test.YtdhckibkljafgaaGreatDoorPIx15
namespace Go.Proofs.YtdhckibkljafgaaGreatDoor.PI
open Go.RowKit Go.Proofs.YtdhckibkljafgaaGreatDoorW.PrintWords Go.Proofs.YtdhckibkljafgaaGreatDoorW.PrintLast Go.Proofs.YtdhckibkljafgaaGreatDoorW.PrintMore
-- shrunk
attribute [local go_sem] max2_int min2_int max_two min_two max_three min_three max_four min_four   -- for this text's walks alone
set_option linter.unusedVariables false
set_option linter.unusedSimpArgs false

attribute [local go_sem high] eqA44
/-! ### pinfoldref11_Reserved: function 36 -/
-- BY HAND
-- 56
def pinfoldref11_Reserved_c.f (a0_0 : Int) (a0_1 : Int) (l0_2 : List Int) (l0_3 : List S81) (a0_4 : Int) (a0_5 : ByteArray) (l0_6 : List S83) (a1 : ByteArray) : Option (Int × Bool) := if confFitR l0_2 l0_3 a0_5 l0_6 then some (foundH (reservR a0_0 a0_1 l0_2 l0_3 a0_4 a0_5 l0_6 a1), foundIs (reservR a0_0 a0_1 l0_2 l0_3 a0_4 a0_5 l0_6 a1)) else none
set_option maxHeartbeats 8000000 in
set_option maxRecDepth 100000 in
theorem pinfoldref11_Reserved_c.calls (a0_0 : Int) (a0_1 : Int) (A0_2 : Option Addr) (c0_2 : Nat) (l0_2 : List Int) (A0_3 : Option Addr) (c0_3 : Nat) (l0_3 : List S81) (a0_4 : Int) (a0_5 : ByteArray) (A0_6 : Option Addr) (c0_6 : Nat) (l0_6 : List S83) (a1 : ByteArray) (r1 : Int) (r2 : Bool) (w : World) (hr0_2 : Kd.C (Kd.int .i64) w A0_2 l0_2.length l0_2) (hc0_2 : l0_2.length ≤ c0_2) (hr0_3 : Kd.C k81 w A0_3 l0_3.length l0_3) (hc0_3 : l0_3.length ≤ c0_3) (hr0_6 : Kd.C k83 w A0_6 l0_6.length l0_6) (hc0_6 : l0_6.length ≤ c0_6) (h : pinfoldref11_Reserved_c.f a0_0 a0_1 l0_2 l0_3 a0_4 a0_5 l0_6 a1 = some (r1, r2)) :
  Calls Tryz.prog 36 #[.agg #[.int .i64 a0_0, .int .i64 a0_1, .slice A0_2 l0_2.length c0_2, .slice A0_3 l0_3.length c0_3, .int .i64 a0_4, .string a0_5, .slice A0_6 l0_6.length c0_6], .string a1] w fun e w' => e = .returned (.tuple #[.int .i64 r1, .bool r2]) ∧ Below w.heap.size w w' := by
 unfold pinfoldref11_Reserved_c.f at h
 by_cases hs : confFitR l0_2 l0_3 a0_5 l0_6
 rotate_left
 ·rw [if_neg hs] at h
  cases h
 rw [if_pos hs] at h
 simp only [Option.some.injEq, Prod.mk.injEq] at h
 obtain ⟨hR1, hR2⟩ := h
 obtain ⟨b1, h1⟩ : ∃ b, confB a0_0 a0_1 l0_2 l0_3 a0_4 a0_5 l0_6 = b := ⟨_, rfl⟩
 have C1 := am_ (fun W (hb : Below w.heap.size w W) => pinfoldref11_ConfMay.calls a0_0 a0_1 A0_2 c0_2 l0_2 A0_3 c0_3 l0_3 a0_4 a0_5 A0_6 c0_6 l0_6 b1 W (c4_ hr0_2 hb) hc0_2 (c4_ hr0_3 hb) hc0_3 (c4_ hr0_6 hb) hc0_6 (by unfold pinfoldref11_ConfMay.f; rw [if_pos hs, h1]))
 obtain ⟨o, ho⟩ : ∃ o, findS (fun x => x.f0.toList == a1.toList) b1 l0_3 = o := ⟨_, rfl⟩
 have ho2 : reservR a0_0 a0_1 l0_2 l0_3 a0_4 a0_5 l0_6 a1 = o := by rw [← ho, ← h1]; rfl
 rw [ho2] at hR1 hR2
 replace HR1 := am_ hR1
 replace HR2 := am_ hR2
 have HO := am_ (show findS (fun x => x.f0.toList == a1.toList) b1 (l0_3.drop (0 : Int).toNat) = o from ho)
 have hl := hs.2.1
 have HK3 := am_ hr0_3
 have HB := am_ (Below.refl w.heap.size w)
 have BK := am_ (blk_new w (.cells #[.int .i64 a0_0, .int .i64 a0_1, .slice A0_2 l0_2.length c0_2, .slice A0_3 l0_3.length c0_3, .int .i64 a0_4, .string a0_5, .slice A0_6 l0_6.length c0_6] 26))
 clear hR1 hR2 ho ho2 hs h1 hr0_2 hr0_3 hr0_6 hc0_2 hc0_3 hc0_6
 go_enter Tryz.func36, Tryz.ntmps36
 go_wp2
 replace HB := am_ (p3_ HB.out (.cells #[.int .i64 a0_0, .int .i64 a0_1, .slice A0_2 l0_2.length c0_2, .slice A0_3 l0_3.length c0_3, .int .i64 a0_4, .string a0_5, .slice A0_6 l0_6.length c0_6] 26))
 go_loopg [6] l0_3.length (fun d v w' => ∃ i : Int, 0 ≤ i ∧ i.toNat + d = l0_3.length ∧ v = .int .i64 i ∧ Aside0 (Below w.heap.size w w') ∧ Aside0 (w'.heap[w.heap.size]? = some (.cells #[.int .i64 a0_0, .int .i64 a0_1, .slice A0_2 l0_2.length c0_2, .slice A0_3 l0_3.length c0_3, .int .i64 a0_4, .string a0_5, .slice A0_6 l0_6.length c0_6] 26)) ∧ Aside0 (findS (fun x => x.f0.toList == a1.toList) b1 (l0_3.drop i.toNat) = o))
 case atStart => exact ⟨0, by omega, by simp, rfl, HB, BK, HO⟩
 case round =>
  clear HB BK HO
  obtain ⟨i, hi0, hd, rfl, HB, BK, HO⟩ := hrel
  have u0 := bc_ BK.out 0
  have u1 := bc_ BK.out 1
  have u2 := bc_ BK.out 2
  have u3 := bc_ BK.out 3
  have u4 := bc_ BK.out 4
  have u5 := bc_ BK.out 5
  have u6 := bc_ BK.out 6
  by_cases hlt : i < (l0_3.length : Int)
  ·cases b1 with
   | false =>
    have e1 := am_ (show 0 = r1 by rw [← HR1.out, ← HO.out]; rfl)
    have e2 := am_ (show false = r2 by rw [← HR2.out, ← HO.out]; rfl)
    clear HR1 HR2 HO HK3
    go_wp2_with (first | (go_at_call 56; (with_reducible refine (C1.out _ (by repeat (with_reducible first | exact HB.out | apply p3_ | apply p1_ | apply p2_))).mono ?_); rintro e w1 ⟨rfl, hb2⟩; replace BK := am_ (kb_ (show _ from (by (with_reducible repeat (first | exact BK.out | refine k2_ ?_ _ | refine k3_ ?_ | refine k1_ ?_ _)))) hb2); replace HB := am_ (bt_ (show Below w.heap.size w _ from (by repeat (with_reducible first | exact HB.out | apply p3_ | apply p1_ | apply p2_))) hb2); clear hb2; clear u0 u1 u2 u3 u4 u5 u6))
    go_ret2
    exact ⟨by rw [← e1.out, ← e2.out] <;> rfl, HB.out⟩
   | true =>
   obtain ⟨ad, e1, hx0, hx1⟩ := at_T81 HK3.out i hi0 hlt
   cases e1
   have ho := HO.out
   rw [dropRs_ l0_3 i hi0 hlt] at ho
   clear HO
   generalize rd_T81 l0_3 i = x at hx0 hx1 ho
   obtain ⟨x0, x1⟩ := x
   simp only at hx0 hx1
   unfold findS at ho
   rw [if_pos rfl, List.find?_cons] at ho
   replace hx0 := am_ hx0
   replace hx1 := am_ hx1
   by_cases q : x0.toList = a1.toList
   ·have qb : (x0.toList == a1.toList) = true := by simpa using q
    simp only [qb] at ho
    have e1 := am_ (show x1 = r1 by rw [← HR1.out, ← ho]; rfl)
    have e2 := am_ (show true = r2 by rw [← HR2.out, ← ho]; rfl)
    clear HR1 HR2 ho q HK3
    go_wp2_with (first | (go_at_call 56; (with_reducible refine (C1.out _ (by repeat (with_reducible first | exact HB.out | apply p3_ | apply p1_ | apply p2_))).mono ?_); rintro e w1 ⟨rfl, hb2⟩; replace BK := am_ (kb_ (show _ from (by (with_reducible repeat (first | exact BK.out | refine k2_ ?_ _ | refine k3_ ?_ | refine k1_ ?_ _)))) hb2); replace HB := am_ (bt_ (show Below w.heap.size w _ from (by repeat (with_reducible first | exact HB.out | apply p3_ | apply p1_ | apply p2_))) hb2); clear hb2; clear u0 u1 u2 u3 u4 u5 u6; have u0 := bc_ BK.out 0; have u1 := bc_ BK.out 1; have u2 := bc_ BK.out 2; have u3 := bc_ BK.out 3; have u4 := bc_ BK.out 4; have u5 := bc_ BK.out 5; have u6 := bc_ BK.out 6; have y0 := (HB.out.cell (wb_ w _ hx0.out)).trans hx0.out; have y1 := (HB.out.cell (wb_ w _ hx1.out)).trans hx1.out))
    go_ret2
    exact ⟨by rw [← e1.out, ← e2.out] <;> rfl, HB.out⟩
   ·have qb : (x0.toList == a1.toList) = false := by simpa using q
    simp only [qb] at ho
    have HN := am_ (show findS (fun x => x.f0.toList == a1.toList) true (l0_3.drop (i + 1).toNat) = o by rw [show (i + 1).toNat = i.toNat + 1 by omega]; unfold findS; rw [if_pos rfl]; exact ho)
    clear ho q
    go_wp2_with (first | (go_at_call 56; (with_reducible refine (C1.out _ (by repeat (with_reducible first | exact HB.out | apply p3_ | apply p1_ | apply p2_))).mono ?_); rintro e w1 ⟨rfl, hb2⟩; replace BK := am_ (kb_ (show _ from (by (with_reducible repeat (first | exact BK.out | refine k2_ ?_ _ | refine k3_ ?_ | refine k1_ ?_ _)))) hb2); replace HB := am_ (bt_ (show Below w.heap.size w _ from (by repeat (with_reducible first | exact HB.out | apply p3_ | apply p1_ | apply p2_))) hb2); clear hb2; clear u0 u1 u2 u3 u4 u5 u6; have u0 := bc_ BK.out 0; have u1 := bc_ BK.out 1; have u2 := bc_ BK.out 2; have u3 := bc_ BK.out 3; have u4 := bc_ BK.out 4; have u5 := bc_ BK.out 5; have u6 := bc_ BK.out 6; have y0 := (HB.out.cell (wb_ w _ hx0.out)).trans hx0.out; have y1 := (HB.out.cell (wb_ w _ hx1.out)).trans hx1.out))
    go_roundg (l0_3.length - (i.toNat + 1))
    case measure => first | omega | (simp; omega)
    case rel => exact ⟨i + 1, by omega, by omega, by go_num, HB, BK, HN⟩
  ·have ho := HO.out
   rw [List.drop_eq_nil_of_le (by omega)] at ho
   have e1 := am_ (show 0 = r1 by rw [← HR1.out, ← ho]; cases b1 <;> rfl)
   have e2 := am_ (show false = r2 by rw [← HR2.out, ← ho]; cases b1 <;> rfl)
   clear HR1 HR2 ho HO HK3
   go_wp2
   go_ret2
   exact ⟨by rw [← e1.out, ← e2.out] <;> rfl, HB.out⟩

/-! ### pinfoldref11_Pick: function 15 -/
-- BY HAND
-- 33 34 35 36 16 26
def pinfoldref11_Pick.S (pb : Addr) (x0 x1 : Int) (x2 : ByteArray) (x3 : Int) (x4 : ByteArray) (x5 : Bool) (g : Nat) (a0_0 a0_1 : Int) (A0_2 : Option Addr) (n0_2 c0_2 : Nat) (A0_3 : Option Addr) (n0_3 c0_3 : Nat) (a0_4 : Int) (a0_5 : ByteArray) (A0_6 : Option Addr) (n0_6 c0_6 : Nat) (w' : World) : Prop := w'.cell? pb = some (.int .i64 x0) ∧ w'.cell? ⟨pb.block, pb.off + 1, none⟩ = some (.int .i64 x1) ∧ w'.cell? ⟨pb.block, pb.off + 2, none⟩ = some (.string x2) ∧ w'.cell? ⟨pb.block, pb.off + 3, none⟩ = some (.int .i64 x3) ∧ w'.cell? ⟨pb.block, pb.off + 4, none⟩ = some (.string x4) ∧ w'.cell? ⟨pb.block, pb.off + 5, none⟩ = some (.bool x5) ∧ w'.cell? ⟨g, 0, none⟩ = some (.int .i64 a0_0) ∧ w'.cell? ⟨g, 1, none⟩ = some (.int .i64 a0_1) ∧ w'.cell? ⟨g, 2, none⟩ = some (.slice A0_2 n0_2 c0_2) ∧ w'.cell? ⟨g, 3, none⟩ = some (.slice A0_3 n0_3 c0_3) ∧ w'.cell? ⟨g, 4, none⟩ = some (.int .i64 a0_4) ∧ w'.cell? ⟨g, 5, none⟩ = some (.string a0_5) ∧ w'.cell? ⟨g, 6, none⟩ = some (.slice A0_6 n0_6 c0_6)
theorem pinfoldref11_Pick.S_below {w w2 : World} {pb : Addr} {x0 x1 : Int} {x2 : ByteArray} {x3 : Int} {x4 : ByteArray} {x5 : Bool} {g : Nat} {a0_0 a0_1 : Int} {A0_2 : Option Addr} {n0_2 c0_2 : Nat} {A0_3 : Option Addr} {n0_3 c0_3 : Nat} {a0_4 : Int} {a0_5 : ByteArray} {A0_6 : Option Addr} {n0_6 c0_6 : Nat} (h : pinfoldref11_Pick.S pb x0 x1 x2 x3 x4 x5 g a0_0 a0_1 A0_2 n0_2 c0_2 A0_3 n0_3 c0_3 a0_4 a0_5 A0_6 n0_6 c0_6 w) (hb : Below w.heap.size w w2) : pinfoldref11_Pick.S pb x0 x1 x2 x3 x4 x5 g a0_0 a0_1 A0_2 n0_2 c0_2 A0_3 n0_3 c0_3 a0_4 a0_5 A0_6 n0_6 c0_6 w2 := by
 obtain ⟨s0, s1, s2, s3, s4, s5, s6, s7, s8, s9, s10, s11, s12⟩ := h
 exact ⟨(hb.cell (wb_ _ _ s0)).trans s0, (hb.cell (wb_ _ _ s1)).trans s1, (hb.cell (wb_ _ _ s2)).trans s2, (hb.cell (wb_ _ _ s3)).trans s3, (hb.cell (wb_ _ _ s4)).trans s4, (hb.cell (wb_ _ _ s5)).trans s5, (hb.cell (wb_ _ _ s6)).trans s6, (hb.cell (wb_ _ _ s7)).trans s7, (hb.cell (wb_ _ _ s8)).trans s8, (hb.cell (wb_ _ _ s9)).trans s9, (hb.cell (wb_ _ _ s10)).trans s10, (hb.cell (wb_ _ _ s11)).trans s11, (hb.cell (wb_ _ _ s12)).trans s12⟩
theorem conf_bnd {a0 a1 : Int} {l2 : List Int} {l3 : List S81} {a4 : Int} {z : ByteArray} {l6 : List S83} (h : confB a0 a1 l2 l3 a4 z l6 = true) : 2 ≤ a0 ∧ a0 ≤ a1 ∧ a1 ≤ 254 ∧ a1 - a0 < 8 := by
 unfold confB at h
 simp only [Bool.and_eq_true, decide_eq_true_eq] at h
 exact h.1.1
def pinfoldref11_Pick_c.f (a0_0 : Int) (a0_1 : Int) (l0_2 : List Int) (l0_3 : List S81) (a0_4 : Int) (a0_5 : ByteArray) (l0_6 : List S83) (l1 : List S44) (now : Int) (client : ByteArray) (wanted : Int) : Option (Int × Int) := if confFitR l0_2 l0_3 a0_5 l0_6 ∧ tabFitR l1 then some (if pickMayB a0_0 a0_1 l0_2 l0_3 a0_4 a0_5 l0_6 l1 now client = true then refPickP a0_0 a0_1 l0_2 l0_3 a0_4 a0_5 l0_6 l1 now client wanted else (0, 1400)) else none
set_option maxHeartbeats 8000000 in
set_option maxRecDepth 100000 in
theorem pinfoldref11_Pick_c.calls (a0_0 : Int) (a0_1 : Int) (A0_2 : Option Addr) (c0_2 : Nat) (l0_2 : List Int) (A0_3 : Option Addr) (c0_3 : Nat) (l0_3 : List S81) (a0_4 : Int) (a0_5 : ByteArray) (A0_6 : Option Addr) (c0_6 : Nat) (l0_6 : List S83) (A1 : Option Addr) (c1 : Nat) (l1 : List S44) (now : Int) (client : ByteArray) (wanted r1 r2 : Int) (w : World) (hr0_2 : Kd.C (Kd.int .i64) w A0_2 l0_2.length l0_2) (hc0_2 : l0_2.length ≤ c0_2) (hr0_3 : Kd.C k81 w A0_3 l0_3.length l0_3) (hc0_3 : l0_3.length ≤ c0_3) (hr0_6 : Kd.C k83 w A0_6 l0_6.length l0_6) (hc0_6 : l0_6.length ≤ c0_6) (hr1 : Kd.C k44 w A1 l1.length l1) (hc1 : l1.length ≤ c1) (h : pinfoldref11_Pick_c.f a0_0 a0_1 l0_2 l0_3 a0_4 a0_5 l0_6 l1 now client wanted = some (r1, r2)) :
  Calls Tryz.prog 15 #[.agg #[.int .i64 a0_0, .int .i64 a0_1, .slice A0_2 l0_2.length c0_2, .slice A0_3 l0_3.length c0_3, .int .i64 a0_4, .string a0_5, .slice A0_6 l0_6.length c0_6], .slice A1 l1.length c1, .int .i64 now, .string client, .int .i64 wanted] w fun e w' => e = .returned (.tuple #[.int .i64 r1, .int .i64 r2]) ∧ Below w.heap.size w w' := by
 unfold pinfoldref11_Pick_c.f at h
 by_cases hs : confFitR l0_2 l0_3 a0_5 l0_6 ∧ tabFitR l1
 rotate_left
 ·rw [if_neg hs] at h
  cases h
 rw [if_pos hs] at h
 replace h := e5_ h
 obtain ⟨b1, h1⟩ : ∃ b, pickMayB a0_0 a0_1 l0_2 l0_3 a0_4 a0_5 l0_6 l1 now client = b := ⟨_, rfl⟩
 have Ca := am_ (fun W (hb : Below w.heap.size w W) => pinfoldref11_asked_c.calls a0_0 a0_1 A0_2 c0_2 l0_2 A0_3 c0_3 l0_3 a0_4 a0_5 A0_6 c0_6 l0_6 A1 c1 l1 now client 1099511627776 b1 W (c4_ hr0_2 hb) hc0_2 (c4_ hr0_3 hb) hc0_3 (c4_ hr0_6 hb) hc0_6 (c4_ hr1 hb) hc1 (by unfold pinfoldref11_asked_c.f; rw [if_pos hs]; exact congrArg some h1))
 have CO := am_ (fun host W (hb : Below w.heap.size w W) => pinfoldref11_open_c.calls a0_0 a0_1 A0_2 c0_2 l0_2 A0_3 c0_3 l0_3 a0_4 a0_5 A0_6 c0_6 l0_6 A1 c1 l1 now client host (openB a0_0 a0_1 l0_2 l0_3 a0_4 a0_5 l0_6 l1 now client host) W (c4_ hr0_2 hb) hc0_2 (c4_ hr0_3 hb) hc0_3 (c4_ hr0_6 hb) hc0_6 (c4_ hr1 hb) hc1 (by unfold pinfoldref11_open_c.f; rw [if_pos hs]))
 have CF := am_ (fun W (hb : Below w.heap.size w W) => pinfoldref11_Of_c.calls A1 c1 l1 client now (gotL (ofL l1 client now)).f0 (gotL (ofL l1 client now)).f1 (gotL (ofL l1 client now)).f2 (gotL (ofL l1 client now)).f3 (gotL (ofL l1 client now)).f4 (gotL (ofL l1 client now)).f5 (ofL l1 client now).isSome W (c4_ hr1 hb) hc1 (by unfold pinfoldref11_Of_c.f; rw [if_pos hs.2]))
 have CR := am_ (fun W (hb : Below w.heap.size w W) => pinfoldref11_Reserved_c.calls a0_0 a0_1 A0_2 c0_2 l0_2 A0_3 c0_3 l0_3 a0_4 a0_5 A0_6 c0_6 l0_6 client (foundH (reservR a0_0 a0_1 l0_2 l0_3 a0_4 a0_5 l0_6 client)) (foundIs (reservR a0_0 a0_1 l0_2 l0_3 a0_4 a0_5 l0_6 client)) W (c4_ hr0_2 hb) hc0_2 (c4_ hr0_3 hb) hc0_3 (c4_ hr0_6 hb) hc0_6 (by unfold pinfoldref11_Reserved_c.f; rw [if_pos hs.1]))
 have CFi := am_ (fun host (x : S44) b (e : gotL (findL l1 host) = x ∧ (findL l1 host).isSome = b) W (hb : Below w.heap.size w W) => pinfoldref11_FindLease_c.calls A1 c1 l1 host x.f0 x.f1 x.f2 x.f3 x.f4 x.f5 b W (c4_ hr1 hb) hc1 (by unfold pinfoldref11_FindLease_c.f; rw [if_pos hs.2.1, e.1, e.2]))
 have CL := am_ (fun x0 x1 x2 x3 x4 x5 (hx : x4.size ≤ 8796093022000) b (e : liveB x0 x1 x2 x3 x4 x5 now = b) W => pinfoldref11_Live_c.calls x0 x1 x2 x3 x4 x5 now b W (by unfold pinfoldref11_Live_c.f; rw [if_pos hx, e]))
 have HX := am_ hs.2.2
 have hl := hs.2.1
 have hbd : b1 = true → 2 ≤ a0_0 ∧ a0_0 ≤ a0_1 ∧ a0_1 ≤ 254 := fun e => by
  have h2 := h1.trans e
  unfold pickMayB at h2
  rw [Bool.and_eq_true] at h2
  have := conf_bnd h2.1
  exact ⟨this.1, this.2.1, this.2.2.1⟩
 rw [h1] at h
 have HK1 := am_ hr1
 have HB := am_ (Below.refl w.heap.size w)
 have BK := am_ (blk_new w (.cells #[.int .i64 a0_0, .int .i64 a0_1, .slice A0_2 l0_2.length c0_2, .slice A0_3 l0_3.length c0_3, .int .i64 a0_4, .string a0_5, .slice A0_6 l0_6.length c0_6] 26))
 have u0 := bc_ BK.out 0
 have u1 := bc_ BK.out 1
 have u2 := bc_ BK.out 2
 have u3 := bc_ BK.out 3
 have u4 := bc_ BK.out 4
 have u5 := bc_ BK.out 5
 have u6 := bc_ BK.out 6
 clear h1 hr0_2 hr0_3 hr0_6 hc0_2 hc0_3 hc0_6 hr1 hc1 hs
 cases b1 with
 | false =>
  rw [if_neg (by decide)] at h
  obtain ⟨rfl, rfl⟩ := Prod.mk.inj h
  clear h hbd CO CF CR CFi CL HX HK1
  go_enter Tryz.func15, Tryz.ntmps15
  go_wp2_with (first | (go_at_call 33; (with_reducible refine (Ca.out _ (by repeat (with_reducible first | exact HB.out | apply p3_ | apply p1_ | apply p2_))).mono ?_); rintro e w1 ⟨rfl, hb2⟩; replace BK := am_ (kb_ (show _ from (by (with_reducible repeat (first | exact BK.out | refine k2_ ?_ _ | refine k3_ ?_ | refine k1_ ?_ _)))) hb2); replace HB := am_ (bt_ (show Below w.heap.size w _ from (by repeat (with_reducible first | exact HB.out | apply p3_ | apply p1_ | apply p2_))) hb2); clear hb2; clear u0 u1 u2 u3 u4 u5 u6; have u0 := bc_ BK.out 0; have u1 := bc_ BK.out 1; have u2 := bc_ BK.out 2; have u3 := bc_ BK.out 3; have u4 := bc_ BK.out 4; have u5 := bc_ BK.out 5; have u6 := bc_ BK.out 6))
  go_ret2
  exact ⟨rfl, HB.out⟩
 | true =>
 obtain ⟨n0, n1, n2⟩ := hbd rfl
 clear hbd
 rw [if_pos rfl] at h
 unfold refPickP refEnd at h
 have hh : hadC a0_0 a0_1 l0_2 l0_3 a0_4 a0_5 l0_6 l1 now client = hadP (openB a0_0 a0_1 l0_2 l0_3 a0_4 a0_5 l0_6 l1 now client) now client := rfl
 rw [hh] at h
 generalize openB a0_0 a0_1 l0_2 l0_3 a0_4 a0_5 l0_6 l1 now client = q at h CO
 generalize foundIs (reservR a0_0 a0_1 l0_2 l0_3 a0_4 a0_5 l0_6 client) = hi at h CR
 generalize foundH (reservR a0_0 a0_1 l0_2 l0_3 a0_4 a0_5 l0_6 client) = h0 at h CR
 generalize (ofL l1 client now).isSome = oi at h CF
 generalize gotL (ofL l1 client now) = o at h CF
 obtain ⟨o0, o1, o2, o3, o4, o5⟩ := o
 simp only at h CF
 clear hh
 by_cases q1 : (oi && q o0) = true
 ·rw [if_pos q1] at h
  obtain ⟨rfl, rfl⟩ := Prod.mk.inj h
  rw [Bool.and_eq_true] at q1
  obtain ⟨rfl, q1⟩ := q1
  clear h CR CFi CL HX HK1
  go_enter Tryz.func15, Tryz.ntmps15
  go_wp2_with (first | (go_at_call 33; (with_reducible refine (Ca.out _ (by repeat (with_reducible first | exact HB.out | apply p3_ | apply p1_ | apply p2_))).mono ?_); rintro e w1 ⟨rfl, hb2⟩; replace BK := am_ (kb_ (show _ from (by (with_reducible repeat (first | exact BK.out | refine k2_ ?_ _ | refine k3_ ?_ | refine k1_ ?_ _)))) hb2); replace HB := am_ (bt_ (show Below w.heap.size w _ from (by repeat (with_reducible first | exact HB.out | apply p3_ | apply p1_ | apply p2_))) hb2); clear hb2; clear u0 u1 u2 u3 u4 u5 u6; have u0 := bc_ BK.out 0; have u1 := bc_ BK.out 1; have u2 := bc_ BK.out 2; have u3 := bc_ BK.out 3; have u4 := bc_ BK.out 4; have u5 := bc_ BK.out 5; have u6 := bc_ BK.out 6) | (go_at_call 34; (with_reducible refine (CF.out _ (by repeat (with_reducible first | exact HB.out | apply p3_ | apply p1_ | apply p2_))).mono ?_); rintro e w2 ⟨rfl, hb2⟩; replace BK := am_ (kb_ (show _ from (by (with_reducible repeat (first | exact BK.out | refine k2_ ?_ _ | refine k3_ ?_ | refine k1_ ?_ _)))) hb2); replace HB := am_ (bt_ (show Below w.heap.size w _ from (by repeat (with_reducible first | exact HB.out | apply p3_ | apply p1_ | apply p2_))) hb2); clear hb2; replace BK := am_ (k1_ BK.out (.cells #[.int .i64 o0, .int .i64 o1, .string o2, .int .i64 o3, .string o4, .bool o5] 44)); clear u0 u1 u2 u3 u4 u5 u6; have u0 := bc_ BK.out 0; have u1 := bc_ BK.out 1; have u2 := bc_ BK.out 2; have u3 := bc_ BK.out 3; have u4 := bc_ BK.out 4; have u5 := bc_ BK.out 5; have u6 := bc_ BK.out 6) | (go_at_call 35; (with_reducible refine (CO.out _ _ (by repeat (with_reducible first | exact HB.out | apply p3_ | apply p1_ | apply p2_))).mono ?_); rintro e w3 ⟨rfl, hb2⟩; have BX := am_ (kb_ (blk_new w2 (.cells #[.int .i64 o0, .int .i64 o1, .string o2, .int .i64 o3, .string o4, .bool o5] 44)) hb2); have v0 := bc_ BX.out 0; replace HB := am_ (bt_ (show Below w.heap.size w _ from (by repeat (with_reducible first | exact HB.out | apply p3_ | apply p1_ | apply p2_))) hb2); clear hb2 u0 u1 u2 u3 u4 u5 u6))
  go_ret2
  exact ⟨rfl, HB.out⟩
 rw [if_neg q1] at h
 by_cases q2 : (hi && q h0) = true
 ·rw [if_pos q2] at h
  obtain ⟨rfl, rfl⟩ := Prod.mk.inj h
  rw [Bool.and_eq_true] at q2
  obtain ⟨rfl, q2⟩ := q2
  clear h CFi CL HX HK1
  have q1' : oi = false ∨ oi = true ∧ q o0 = false := by cases oi <;> simp_all
  clear q1
  rcases q1' with rfl | ⟨rfl, q1⟩
  all_goals (go_enter Tryz.func15, Tryz.ntmps15; go_wp2_with (first | (go_at_call 33; (with_reducible refine (Ca.out _ (by repeat (with_reducible first | exact HB.out | apply p3_ | apply p1_ | apply p2_))).mono ?_); rintro e w1 ⟨rfl, hb2⟩; replace BK := am_ (kb_ (show _ from (by (with_reducible repeat (first | exact BK.out | refine k2_ ?_ _ | refine k3_ ?_ | refine k1_ ?_ _)))) hb2); replace HB := am_ (bt_ (show Below w.heap.size w _ from (by repeat (with_reducible first | exact HB.out | apply p3_ | apply p1_ | apply p2_))) hb2); clear hb2; clear u0 u1 u2 u3 u4 u5 u6; have u0 := bc_ BK.out 0; have u1 := bc_ BK.out 1; have u2 := bc_ BK.out 2; have u3 := bc_ BK.out 3; have u4 := bc_ BK.out 4; have u5 := bc_ BK.out 5; have u6 := bc_ BK.out 6) | (go_at_call 34; (with_reducible refine (CF.out _ (by repeat (with_reducible first | exact HB.out | apply p3_ | apply p1_ | apply p2_))).mono ?_); rintro e w2 ⟨rfl, hb2⟩; replace BK := am_ (kb_ (show _ from (by (with_reducible repeat (first | exact BK.out | refine k2_ ?_ _ | refine k3_ ?_ | refine k1_ ?_ _)))) hb2); replace HB := am_ (bt_ (show Below w.heap.size w _ from (by repeat (with_reducible first | exact HB.out | apply p3_ | apply p1_ | apply p2_))) hb2); clear hb2; replace BK := am_ (k1_ BK.out (.cells #[.int .i64 o0, .int .i64 o1, .string o2, .int .i64 o3, .string o4, .bool o5] 44)); clear u0 u1 u2 u3 u4 u5 u6; have u0 := bc_ BK.out 0; have u1 := bc_ BK.out 1; have u2 := bc_ BK.out 2; have u3 := bc_ BK.out 3; have u4 := bc_ BK.out 4; have u5 := bc_ BK.out 5; have u6 := bc_ BK.out 6) | (go_at_call 35; (with_reducible refine (CO.out _ _ (by repeat (with_reducible first | exact HB.out | apply p3_ | apply p1_ | apply p2_))).mono ?_); rintro e w3 ⟨rfl, hb2⟩; replace BK := am_ (kb_ (show _ from (by (with_reducible repeat (first | exact BK.out | refine k2_ ?_ _ | refine k3_ ?_ | refine k1_ ?_ _)))) hb2); replace HB := am_ (bt_ (show Below w.heap.size w _ from (by repeat (with_reducible first | exact HB.out | apply p3_ | apply p1_ | apply p2_))) hb2); clear hb2; clear u0 u1 u2 u3 u4 u5 u6; have u0 := bc_ BK.out 0; have u1 := bc_ BK.out 1; have u2 := bc_ BK.out 2; have u3 := bc_ BK.out 3; have u4 := bc_ BK.out 4; have u5 := bc_ BK.out 5; have u6 := bc_ BK.out 6) | (go_at_call 36; (with_reducible refine (CR.out _ (by repeat (with_reducible first | exact HB.out | apply p3_ | apply p1_ | apply p2_))).mono ?_); rintro e w4 ⟨rfl, hb2⟩; replace BK := am_ (kb_ (show _ from (by (with_reducible repeat (first | exact BK.out | refine k2_ ?_ _ | refine k3_ ?_ | refine k1_ ?_ _)))) hb2); replace HB := am_ (bt_ (show Below w.heap.size w _ from (by repeat (with_reducible first | exact HB.out | apply p3_ | apply p1_ | apply p2_))) hb2); clear hb2; clear u0 u1 u2 u3 u4 u5 u6; have u0 := bc_ BK.out 0; have u1 := bc_ BK.out 1; have u2 := bc_ BK.out 2; have u3 := bc_ BK.out 3; have u4 := bc_ BK.out 4; have u5 := bc_ BK.out 5; have u6 := bc_ BK.out 6)))
  all_goals (go_ret2; exact ⟨rfl, HB.out⟩)
 rw [if_neg q2] at h
 by_cases q3 : q wanted = true
 ·rw [if_pos q3] at h
  obtain ⟨rfl, rfl⟩ := Prod.mk.inj h
  clear h CFi CL HX HK1
  have q1' : oi = false ∨ oi = true ∧ q o0 = false := by cases oi <;> simp_all
  have q2' : hi = false ∨ hi = true ∧ q h0 = false := by cases hi <;> simp_all
  clear q1 q2
  rcases q1' with rfl | ⟨rfl, q1⟩ <;> rcases q2' with rfl | ⟨rfl, q2⟩
  all_goals (go_enter Tryz.func15, Tryz.ntmps15; go_wp2_with (first | (go_at_call 33; (with_reducible refine (Ca.out _ (by repeat (with_reducible first | exact HB.out | apply p3_ | apply p1_ | apply p2_))).mono ?_); rintro e w1 ⟨rfl, hb2⟩; replace BK := am_ (kb_ (show _ from (by (with_reducible repeat (first | exact BK.out | refine k2_ ?_ _ | refine k3_ ?_ | refine k1_ ?_ _)))) hb2); replace HB := am_ (bt_ (show Below w.heap.size w _ from (by repeat (with_reducible first | exact HB.out | apply p3_ | apply p1_ | apply p2_))) hb2); clear hb2; clear u0 u1 u2 u3 u4 u5 u6; have u0 := bc_ BK.out 0; have u1 := bc_ BK.out 1; have u2 := bc_ BK.out 2; have u3 := bc_ BK.out 3; have u4 := bc_ BK.out 4; have u5 := bc_ BK.out 5; have u6 := bc_ BK.out 6) | (go_at_call 34; (with_reducible refine (CF.out _ (by repeat (with_reducible first | exact HB.out | apply p3_ | apply p1_ | apply p2_))).mono ?_); rintro e w2 ⟨rfl, hb2⟩; replace BK := am_ (kb_ (show _ from (by (with_reducible repeat (first | exact BK.out | refine k2_ ?_ _ | refine k3_ ?_ | refine k1_ ?_ _)))) hb2); replace HB := am_ (bt_ (show Below w.heap.size w _ from (by repeat (with_reducible first | exact HB.out | apply p3_ | apply p1_ | apply p2_))) hb2); clear hb2; replace BK := am_ (k1_ BK.out (.cells #[.int .i64 o0, .int .i64 o1, .string o2, .int .i64 o3, .string o4, .bool o5] 44)); clear u0 u1 u2 u3 u4 u5 u6; have u0 := bc_ BK.out 0; have u1 := bc_ BK.out 1; have u2 := bc_ BK.out 2; have u3 := bc_ BK.out 3; have u4 := bc_ BK.out 4; have u5 := bc_ BK.out 5; have u6 := bc_ BK.out 6) | (go_at_call 35; (with_reducible refine (CO.out _ _ (by repeat (with_reducible first | exact HB.out | apply p3_ | apply p1_ | apply p2_))).mono ?_); rintro e w3 ⟨rfl, hb2⟩; replace BK := am_ (kb_ (show _ from (by (with_reducible repeat (first | exact BK.out | refine k2_ ?_ _ | refine k3_ ?_ | refine k1_ ?_ _)))) hb2); replace HB := am_ (bt_ (show Below w.heap.size w _ from (by repeat (with_reducible first | exact HB.out | apply p3_ | apply p1_ | apply p2_))) hb2); clear hb2; clear u0 u1 u2 u3 u4 u5 u6; have u0 := bc_ BK.out 0; have u1 := bc_ BK.out 1; have u2 := bc_ BK.out 2; have u3 := bc_ BK.out 3; have u4 := bc_ BK.out 4; have u5 := bc_ BK.out 5; have u6 := bc_ BK.out 6) | (go_at_call 36; (with_reducible refine (CR.out _ (by repeat (with_reducible first | exact HB.out | apply p3_ | apply p1_ | apply p2_))).mono ?_); rintro e w4 ⟨rfl, hb2⟩; replace BK := am_ (kb_ (show _ from (by (with_reducible repeat (first | exact BK.out | refine k2_ ?_ _ | refine k3_ ?_ | refine k1_ ?_ _)))) hb2); replace HB := am_ (bt_ (show Below w.heap.size w _ from (by repeat (with_reducible first | exact HB.out | apply p3_ | apply p1_ | apply p2_))) hb2); clear hb2; clear u0 u1 u2 u3 u4 u5 u6; have u0 := bc_ BK.out 0; have u1 := bc_ BK.out 1; have u2 := bc_ BK.out 2; have u3 := bc_ BK.out 3; have u4 := bc_ BK.out 4; have u5 := bc_ BK.out 5; have u6 := bc_ BK.out 6)))
  all_goals (go_ret2; exact ⟨rfl, HB.out⟩)
 rw [if_neg q3] at h
 have q3b : q wanted = false := Bool.eq_false_iff.2 q3
 have q1' : oi = false ∨ oi = true ∧ q o0 = false := by cases oi <;> simp_all
 have q2' : hi = false ∨ hi = true ∧ q h0 = false := by cases hi <;> simp_all
 clear q1 q2 q3
 have HE := am_ (show endP q a0_0 a0_1 l1 ((l1.drop (0 : Int).toNat).find? (hadP q now client)) = (r1, r2) from h)
 clear h
 rcases q1' with rfl | ⟨rfl, q1⟩ <;> rcases q2' with rfl | ⟨rfl, q2⟩
 all_goals (go_enter Tryz.func15, Tryz.ntmps15; go_wp2_with (first | (go_at_call 33; (with_reducible refine (Ca.out _ (by repeat (with_reducible first | exact HB.out | apply p3_ | apply p1_ | apply p2_))).mono ?_); rintro e w1 ⟨rfl, hb2⟩; replace BK := am_ (kb_ (show _ from (by (with_reducible repeat (first | exact BK.out | refine k2_ ?_ _ | refine k3_ ?_ | refine k1_ ?_ _)))) hb2); replace HB := am_ (bt_ (show Below w.heap.size w _ from (by repeat (with_reducible first | exact HB.out | apply p3_ | apply p1_ | apply p2_))) hb2); clear hb2; clear u0 u1 u2 u3 u4 u5 u6; have u0 := bc_ BK.out 0; have u1 := bc_ BK.out 1; have u2 := bc_ BK.out 2; have u3 := bc_ BK.out 3; have u4 := bc_ BK.out 4; have u5 := bc_ BK.out 5; have u6 := bc_ BK.out 6) | (go_at_call 34; (with_reducible refine (CF.out _ (by repeat (with_reducible first | exact HB.out | apply p3_ | apply p1_ | apply p2_))).mono ?_); rintro e w2 ⟨rfl, hb2⟩; replace BK := am_ (kb_ (show _ from (by (with_reducible repeat (first | exact BK.out | refine k2_ ?_ _ | refine k3_ ?_ | refine k1_ ?_ _)))) hb2); replace HB := am_ (bt_ (show Below w.heap.size w _ from (by repeat (with_reducible first | exact HB.out | apply p3_ | apply p1_ | apply p2_))) hb2); clear hb2; replace BK := am_ (k1_ BK.out (.cells #[.int .i64 o0, .int .i64 o1, .string o2, .int .i64 o3, .string o4, .bool o5] 44)); clear u0 u1 u2 u3 u4 u5 u6; have u0 := bc_ BK.out 0; have u1 := bc_ BK.out 1; have u2 := bc_ BK.out 2; have u3 := bc_ BK.out 3; have u4 := bc_ BK.out 4; have u5 := bc_ BK.out 5; have u6 := bc_ BK.out 6) | (go_at_call 35; (with_reducible refine (CO.out _ _ (by repeat (with_reducible first | exact HB.out | apply p3_ | apply p1_ | apply p2_))).mono ?_); rintro e w3 ⟨rfl, hb2⟩; replace BK := am_ (kb_ (show _ from (by (with_reducible repeat (first | exact BK.out | refine k2_ ?_ _ | refine k3_ ?_ | refine k1_ ?_ _)))) hb2); replace HB := am_ (bt_ (show Below w.heap.size w _ from (by repeat (with_reducible first | exact HB.out | apply p3_ | apply p1_ | apply p2_))) hb2); clear hb2; clear u0 u1 u2 u3 u4 u5 u6; have u0 := bc_ BK.out 0; have u1 := bc_ BK.out 1; have u2 := bc_ BK.out 2; have u3 := bc_ BK.out 3; have u4 := bc_ BK.out 4; have u5 := bc_ BK.out 5; have u6 := bc_ BK.out 6) | (go_at_call 36; (with_reducible refine (CR.out _ (by repeat (with_reducible first | exact HB.out | apply p3_ | apply p1_ | apply p2_))).mono ?_); rintro e w4 ⟨rfl, hb2⟩; replace BK := am_ (kb_ (show _ from (by (with_reducible repeat (first | exact BK.out | refine k2_ ?_ _ | refine k3_ ?_ | refine k1_ ?_ _)))) hb2); replace HB := am_ (bt_ (show Below w.heap.size w _ from (by repeat (with_reducible first | exact HB.out | apply p3_ | apply p1_ | apply p2_))) hb2); clear hb2; clear u0 u1 u2 u3 u4 u5 u6; have u0 := bc_ BK.out 0; have u1 := bc_ BK.out 1; have u2 := bc_ BK.out 2; have u3 := bc_ BK.out 3; have u4 := bc_ BK.out 4; have u5 := bc_ BK.out 5; have u6 := bc_ BK.out 6)))
 all_goals clear u0 u1 u2 u3 u4 u5 u6 CF CR Ca
 all_goals
  go_loopg [16] l1.length (fun d v w' => ∃ i : Int, 0 ≤ i ∧ i.toNat + d = l1.length ∧ v = .int .i64 i ∧ Aside0 (Below w.heap.size w w') ∧ Aside0 (w'.heap[w.heap.size]? = some (.cells #[.int .i64 a0_0, .int .i64 a0_1, .slice A0_2 l0_2.length c0_2, .slice A0_3 l0_3.length c0_3, .int .i64 a0_4, .string a0_5, .slice A0_6 l0_6.length c0_6] 26)) ∧ Aside0 (endP q a0_0 a0_1 l1 ((l1.drop i.toNat).find? (hadP q now client)) = (r1, r2)))
  case atStart => exact ⟨0, by omega, by simp, rfl, HB, BK, HE⟩
  case round =>
   clear HB BK HE
   obtain ⟨i, hi0, hd, rfl, HB, BK, HE⟩ := hrel
   by_cases hlt : i < (l1.length : Int)
   ·obtain ⟨ad, e1, hw0, hw1, hw2, hw3, hw4, hw5⟩ := at_T44 HK1.out i hi0 hlt
    cases e1
    have hx0 := (HB.out.cell (wb_ w _ hw0)).trans hw0; have hx1 := (HB.out.cell (wb_ w _ hw1)).trans hw1; have hx2 := (HB.out.cell (wb_ w _ hw2)).trans hw2; have hx3 := (HB.out.cell (wb_ w _ hw3)).trans hw3; have hx4 := (HB.out.cell (wb_ w _ hw4)).trans hw4; have hx5 := (HB.out.cell (wb_ w _ hw5)).trans hw5
    have hd1 := dropLease l1 i hi0 hlt
    have hsz := HX.out _ hd1.2
    have he := HE.out
    rw [hd1.1, List.find?_cons] at he
    have H1 := am_ (show 0 ≤ i + 1 by omega)
    have H2 := am_ (show (i + 1).toNat + (l1.length - (i.toNat + 1)) = l1.length by omega)
    have H3 := am_ (show l1.length - (i.toNat + 1) < gk by omega)
    have H4 := am_ (show IntKind.i64.wrap (i + 1) = i + 1 from (i64_w _).trans (by unfold wrap64; omega))
    have hi2 : (i + 1).toNat = i.toNat + 1 := by omega
    rw [← hi2] at he
    clear hd1 HE hi2
    generalize rd_T44 l1 i = x at hw0 hw1 hw2 hw3 hw4 hw5 hx0 hx1 hx2 hx3 hx4 hx5 hsz he
    obtain ⟨x0, x1, x2, x3, x4, x5⟩ := x
    simp only at hw0 hw1 hw2 hw3 hw4 hw5 hx0 hx1 hx2 hx3 hx4 hx5 hsz
    obtain ⟨bl, hbl⟩ : ∃ b, liveB x0 x1 x2 x3 x4 x5 now = b := ⟨_, rfl⟩
    have hq : hadP q now client ⟨x0, x1, x2, x3, x4, x5⟩ = ((!bl && decide (x2.toList = client.toList)) && q x0) := by rw [← hbl]; rfl
    rw [hq] at he
    have CV := am_ (fun W => CL.out x0 x1 x2 x3 x4 x5 hsz bl hbl W)
    have clt := decide_eq_true hlt
    have cle := decide_eq_true hi0
    have plt := eq_true hlt
    have ple := eq_true hi0
    replace hi0 := am_ hi0
    replace hd := am_ hd
    clear hq hbl hsz hlt
    replace n0 := am_ n0
    replace n1 := am_ n1
    replace n2 := am_ n2
    replace hl := am_ hl
    cases bl with
    | true =>
     have HN := am_ (show endP q a0_0 a0_1 l1 ((l1.drop (i + 1).toNat).find? (hadP q now client)) = (r1, r2) from he)
     clear he
     go_wp2_with fail
     have HB1 := am_ (below_drew HB.out)
     have BK1 := am_ (k3_ BK.out)
     refine seqS (S := pinfoldref11_Pick.S (ad.add (i.toNat * 6)) x0 x1 x2 x3 x4 x5 w.heap.size a0_0 a0_1 A0_2 l0_2.length c0_2 A0_3 l0_3.length c0_3 a0_4 a0_5 A0_6 l0_6.length c0_6) 28 (by kernel_rfl) rfl rfl (by unfold pinfoldref11_Pick.S; exact ⟨(HB1.out.cell (wb_ w _ hw0)).trans hw0, (HB1.out.cell (wb_ w _ hw1)).trans hw1, (HB1.out.cell (wb_ w _ hw2)).trans hw2, (HB1.out.cell (wb_ w _ hw3)).trans hw3, (HB1.out.cell (wb_ w _ hw4)).trans hw4, (HB1.out.cell (wb_ w _ hw5)).trans hw5, (bc_ BK1.out 0).trans rfl, (bc_ BK1.out 1).trans rfl, (bc_ BK1.out 2).trans rfl, (bc_ BK1.out 3).trans rfl, (bc_ BK1.out 4).trans rfl, (bc_ BK1.out 5).trans rfl, (bc_ BK1.out 6).trans rfl⟩) ?_
     intro hHeld
     clear hx0 hx1 hx2 hx3 hx4 hx5 HB BK
     iterate 5 first | (refine seqP (v := ?_) (a' := ?_) rfl rfl (by kernel_rfl) (fun _ _ _ h => h) (Or.inl ⟨by kernel_rfl, ?_⟩) ?_ ?_; rotate_left; (intro w'; go_simp; with_reducible rfl); rotate_left; (simp only [Act.put, sa_, sb_, sc_, i64_w, i32_w]; rfl)) | (refine seqL (v := ?_) (a' := ?_) rfl rfl (by kernel_rfl) (fun _ _ _ h => h) (Or.inl ⟨by kernel_rfl, ?_⟩) hHeld ?_ ?_; rotate_left; (rintro w' ⟨s0, s1, s2, s3, s4, s5, s6, s7, s8, s9, s10, s11, s12⟩; go_simp; with_reducible rfl); rotate_left; (simp only [Act.put, sa_, sb_, sc_, i64_w, i32_w]; rfl))
     refine seqG (fn := Tryz.f16) rfl rfl (by kernel_rfl) rfl Tryz.func16 (by kernel_rfl) (by kernel_rfl) #[.agg #[.int .i64 x0, .int .i64 x1, .string x2, .int .i64 x3, .string x4, .bool x5], .int .i64 now] (by kernel_rfl) (by (try simp only [List.map_toArray, List.map_cons, List.map_nil]); first | done | rfl) ?_
     with_reducible refine (CV.out _).mono ?_
     rintro e wg ⟨rfl, hb2⟩
     have HB2 := am_ (bt_ HB1.out hb2)
     have BK2 := am_ (kb_ BK1.out hb2)
     refine ⟨_, rfl, pinfoldref11_Pick.S_below hHeld hb2, fun hHeld => ⟨?_, ?_, ?_⟩⟩
     rotate_left
     ·simp only [Act.put, sa_, sb_, sc_, i64_w, i32_w]
      rfl
     clear hb2 HB1 BK1 CV
     iterate 2 first | (refine seqP (v := ?_) (a' := ?_) rfl rfl (by kernel_rfl) (fun _ _ _ h => h) (Or.inl ⟨by kernel_rfl, ?_⟩) ?_ ?_; rotate_left; (intro w'; go_simp; with_reducible rfl); rotate_left; (simp only [Act.put, sa_, sb_, sc_, i64_w, i32_w]; rfl)) | (refine seqL (v := ?_) (a' := ?_) rfl rfl (by kernel_rfl) (fun _ _ _ h => h) (Or.inl ⟨by kernel_rfl, ?_⟩) hHeld ?_ ?_; rotate_left; (rintro w' ⟨s0, s1, s2, s3, s4, s5, s6, s7, s8, s9, s10, s11, s12⟩; go_simp; with_reducible rfl); rotate_left; (simp only [Act.put, sa_, sb_, sc_, i64_w, i32_w]; rfl))
     iterate 7 (refine seqP (v := undef) (a' := ?_) rfl rfl (by kernel_rfl) (fun _ _ _ h => h) (Or.inr ⟨by kernel_rfl, rfl⟩) ?_ ?_; rotate_left; (simp only [Act.put, sa_, sb_, sc_, i64_w, i32_w]; rfl))
     iterate 2 first | (refine seqP (v := ?_) (a' := ?_) rfl rfl (by kernel_rfl) (fun _ _ _ h => h) (Or.inl ⟨by kernel_rfl, ?_⟩) ?_ ?_; rotate_left; (intro w'; go_simp; with_reducible rfl); rotate_left; (simp only [Act.put, sa_, sb_, sc_, i64_w, i32_w]; rfl)) | (refine seqL (v := ?_) (a' := ?_) rfl rfl (by kernel_rfl) (fun _ _ _ h => h) (Or.inl ⟨by kernel_rfl, ?_⟩) hHeld ?_ ?_; rotate_left; (rintro w' ⟨s0, s1, s2, s3, s4, s5, s6, s7, s8, s9, s10, s11, s12⟩; go_simp; with_reducible rfl); rotate_left; (simp only [Act.put, sa_, sb_, sc_, i64_w, i32_w]; rfl))
     iterate 10 (refine seqP (v := undef) (a' := ?_) rfl rfl (by kernel_rfl) (fun _ _ _ h => h) (Or.inr ⟨by kernel_rfl, rfl⟩) ?_ ?_; rotate_left; (simp only [Act.put, sa_, sb_, sc_, i64_w, i32_w]; rfl))
     iterate 1 first | (refine seqP (v := ?_) (a' := ?_) rfl rfl (by kernel_rfl) (fun _ _ _ h => h) (Or.inl ⟨by kernel_rfl, ?_⟩) ?_ ?_; rotate_left; (intro w'; go_simp; with_reducible rfl); rotate_left; (simp only [Act.put, sa_, sb_, sc_, i64_w, i32_w]; rfl)) | (refine seqL (v := ?_) (a' := ?_) rfl rfl (by kernel_rfl) (fun _ _ _ h => h) (Or.inl ⟨by kernel_rfl, ?_⟩) hHeld ?_ ?_; rotate_left; (rintro w' ⟨s0, s1, s2, s3, s4, s5, s6, s7, s8, s9, s10, s11, s12⟩; go_simp; with_reducible rfl); rotate_left; (simp only [Act.put, sa_, sb_, sc_, i64_w, i32_w]; rfl))
     refine seqE (by kernel_rfl) ?_
     go_wp2
     go_roundg (l1.length - (i.toNat + 1))
     case measure => exact H3.out
     case rel => exact ⟨i + 1, H1.out, H2.out, by first | rfl | (rw [show wrap64 (i + 1) = i + 1 from (i64_w _).symm.trans H4.out]), HB2, BK2, HN⟩
    | false =>
    rw [Bool.not_false, Bool.true_and] at he
    by_cases qc : x2.toList = client.toList
    rotate_left
    ·have qb : (x2.toList == client.toList) = false := by simpa using qc
     have HN := am_ (show endP q a0_0 a0_1 l1 ((l1.drop (i + 1).toNat).find? (hadP q now client)) = (r1, r2) by rw [decide_eq_false qc, Bool.false_and] at he; exact he)
     clear he qc
     go_wp2_with fail
     have HB1 := am_ (below_drew HB.out)
     have BK1 := am_ (k3_ BK.out)
     refine seqS (S := pinfoldref11_Pick.S (ad.add (i.toNat * 6)) x0 x1 x2 x3 x4 x5 w.heap.size a0_0 a0_1 A0_2 l0_2.length c0_2 A0_3 l0_3.length c0_3 a0_4 a0_5 A0_6 l0_6.length c0_6) 28 (by kernel_rfl) rfl rfl (by unfold pinfoldref11_Pick.S; exact ⟨(HB1.out.cell (wb_ w _ hw0)).trans hw0, (HB1.out.cell (wb_ w _ hw1)).trans hw1, (HB1.out.cell (wb_ w _ hw2)).trans hw2, (HB1.out.cell (wb_ w _ hw3)).trans hw3, (HB1.out.cell (wb_ w _ hw4)).trans hw4, (HB1.out.cell (wb_ w _ hw5)).trans hw5, (bc_ BK1.out 0).trans rfl, (bc_ BK1.out 1).trans rfl, (bc_ BK1.out 2).trans rfl, (bc_ BK1.out 3).trans rfl, (bc_ BK1.out 4).trans rfl, (bc_ BK1.out 5).trans rfl, (bc_ BK1.out 6).trans rfl⟩) ?_
     intro hHeld
     clear hx0 hx1 hx2 hx3 hx4 hx5 HB BK
     iterate 5 first | (refine seqP (v := ?_) (a' := ?_) rfl rfl (by kernel_rfl) (fun _ _ _ h => h) (Or.inl ⟨by kernel_rfl, ?_⟩) ?_ ?_; rotate_left; (intro w'; go_simp; with_reducible rfl); rotate_left; (simp only [Act.put, sa_, sb_, sc_, i64_w, i32_w]; rfl)) | (refine seqL (v := ?_) (a' := ?_) rfl rfl (by kernel_rfl) (fun _ _ _ h => h) (Or.inl ⟨by kernel_rfl, ?_⟩) hHeld ?_ ?_; rotate_left; (rintro w' ⟨s0, s1, s2, s3, s4, s5, s6, s7, s8, s9, s10, s11, s12⟩; go_simp; with_reducible rfl); rotate_left; (simp only [Act.put, sa_, sb_, sc_, i64_w, i32_w]; rfl))
     refine seqG (fn := Tryz.f16) rfl rfl (by kernel_rfl) rfl Tryz.func16 (by kernel_rfl) (by kernel_rfl) #[.agg #[.int .i64 x0, .int .i64 x1, .string x2, .int .i64 x3, .string x4, .bool x5], .int .i64 now] (by kernel_rfl) (by (try simp only [List.map_toArray, List.map_cons, List.map_nil]); first | done | rfl) ?_
     with_reducible refine (CV.out _).mono ?_
     rintro e wg ⟨rfl, hb2⟩
     have HB2 := am_ (bt_ HB1.out hb2)
     have BK2 := am_ (kb_ BK1.out hb2)
     refine ⟨_, rfl, pinfoldref11_Pick.S_below hHeld hb2, fun hHeld => ⟨?_, ?_, ?_⟩⟩
     rotate_left
     ·simp only [Act.put, sa_, sb_, sc_, i64_w, i32_w]
      rfl
     clear hb2 HB1 BK1 CV
     iterate 2 first | (refine seqP (v := ?_) (a' := ?_) rfl rfl (by kernel_rfl) (fun _ _ _ h => h) (Or.inl ⟨by kernel_rfl, ?_⟩) ?_ ?_; rotate_left; (intro w'; go_simp; with_reducible rfl); rotate_left; (simp only [Act.put, sa_, sb_, sc_, i64_w, i32_w]; rfl)) | (refine seqL (v := ?_) (a' := ?_) rfl rfl (by kernel_rfl) (fun _ _ _ h => h) (Or.inl ⟨by kernel_rfl, ?_⟩) hHeld ?_ ?_; rotate_left; (rintro w' ⟨s0, s1, s2, s3, s4, s5, s6, s7, s8, s9, s10, s11, s12⟩; go_simp; with_reducible rfl); rotate_left; (simp only [Act.put, sa_, sb_, sc_, i64_w, i32_w]; rfl))
     iterate 9 first | (refine seqP (v := ?_) (a' := ?_) rfl rfl (by kernel_rfl) (fun _ _ _ h => h) (Or.inl ⟨by kernel_rfl, ?_⟩) ?_ ?_; rotate_left; (intro w'; go_simp; with_reducible rfl); rotate_left; (simp only [Act.put, sa_, sb_, sc_, i64_w, i32_w]; rfl)) | (refine seqL (v := ?_) (a' := ?_) rfl rfl (by kernel_rfl) (fun _ _ _ h => h) (Or.inl ⟨by kernel_rfl, ?_⟩) hHeld ?_ ?_; rotate_left; (rintro w' ⟨s0, s1, s2, s3, s4, s5, s6, s7, s8, s9, s10, s11, s12⟩; go_simp; with_reducible rfl); rotate_left; (simp only [Act.put, sa_, sb_, sc_, i64_w, i32_w]; rfl))
     iterate 10 (refine seqP (v := undef) (a' := ?_) rfl rfl (by kernel_rfl) (fun _ _ _ h => h) (Or.inr ⟨by kernel_rfl, rfl⟩) ?_ ?_; rotate_left; (simp only [Act.put, sa_, sb_, sc_, i64_w, i32_w]; rfl))
     iterate 1 first | (refine seqP (v := ?_) (a' := ?_) rfl rfl (by kernel_rfl) (fun _ _ _ h => h) (Or.inl ⟨by kernel_rfl, ?_⟩) ?_ ?_; rotate_left; (intro w'; go_simp; with_reducible rfl); rotate_left; (simp only [Act.put, sa_, sb_, sc_, i64_w, i32_w]; rfl)) | (refine seqL (v := ?_) (a' := ?_) rfl rfl (by kernel_rfl) (fun _ _ _ h => h) (Or.inl ⟨by kernel_rfl, ?_⟩) hHeld ?_ ?_; rotate_left; (rintro w' ⟨s0, s1, s2, s3, s4, s5, s6, s7, s8, s9, s10, s11, s12⟩; go_simp; with_reducible rfl); rotate_left; (simp only [Act.put, sa_, sb_, sc_, i64_w, i32_w]; rfl))
     refine seqE (by kernel_rfl) ?_
     go_wp2
     go_roundg (l1.length - (i.toNat + 1))
     case measure => exact H3.out
     case rel => exact ⟨i + 1, H1.out, H2.out, by first | rfl | (rw [show wrap64 (i + 1) = i + 1 from (i64_w _).symm.trans H4.out]), HB2, BK2, HN⟩
    have qb : (x2.toList == client.toList) = true := by simpa using qc
    rw [decide_eq_true qc, Bool.true_and] at he
    obtain ⟨T, hT⟩ : ∃ T, q x0 = T := ⟨_, rfl⟩
    rw [hT] at he
    have COi := am_ (fun W hb => CO.out x0 W hb)
    rw [hT] at COi
    clear hT qc
    go_wp2_with fail
    have HB1 := am_ (below_drew HB.out)
    have BK1 := am_ (k3_ BK.out)
    refine seqS (S := pinfoldref11_Pick.S (ad.add (i.toNat * 6)) x0 x1 x2 x3 x4 x5 w.heap.size a0_0 a0_1 A0_2 l0_2.length c0_2 A0_3 l0_3.length c0_3 a0_4 a0_5 A0_6 l0_6.length c0_6) 28 (by kernel_rfl) rfl rfl (by unfold pinfoldref11_Pick.S; exact ⟨(HB1.out.cell (wb_ w _ hw0)).trans hw0, (HB1.out.cell (wb_ w _ hw1)).trans hw1, (HB1.out.cell (wb_ w _ hw2)).trans hw2, (HB1.out.cell (wb_ w _ hw3)).trans hw3, (HB1.out.cell (wb_ w _ hw4)).trans hw4, (HB1.out.cell (wb_ w _ hw5)).trans hw5, (bc_ BK1.out 0).trans rfl, (bc_ BK1.out 1).trans rfl, (bc_ BK1.out 2).trans rfl, (bc_ BK1.out 3).trans rfl, (bc_ BK1.out 4).trans rfl, (bc_ BK1.out 5).trans rfl, (bc_ BK1.out 6).trans rfl⟩) ?_
    intro hHeld
    clear hx0 hx1 hx2 hx3 hx4 hx5 HB BK
    iterate 5 first | (refine seqP (v := ?_) (a' := ?_) rfl rfl (by kernel_rfl) (fun _ _ _ h => h) (Or.inl ⟨by kernel_rfl, ?_⟩) ?_ ?_; rotate_left; (intro w'; go_simp; with_reducible rfl); rotate_left; (simp only [Act.put, sa_, sb_, sc_, i64_w, i32_w]; rfl)) | (refine seqL (v := ?_) (a' := ?_) rfl rfl (by kernel_rfl) (fun _ _ _ h => h) (Or.inl ⟨by kernel_rfl, ?_⟩) hHeld ?_ ?_; rotate_left; (rintro w' ⟨s0, s1, s2, s3, s4, s5, s6, s7, s8, s9, s10, s11, s12⟩; go_simp; with_reducible rfl); rotate_left; (simp only [Act.put, sa_, sb_, sc_, i64_w, i32_w]; rfl))
    refine seqG (fn := Tryz.f16) rfl rfl (by kernel_rfl) rfl Tryz.func16 (by kernel_rfl) (by kernel_rfl) #[.agg #[.int .i64 x0, .int .i64 x1, .string x2, .int .i64 x3, .string x4, .bool x5], .int .i64 now] (by kernel_rfl) (by (try simp only [List.map_toArray, List.map_cons, List.map_nil]); first | done | rfl) ?_
    with_reducible refine (CV.out _).mono ?_
    rintro e wg ⟨rfl, hb2⟩
    have HB2 := am_ (bt_ HB1.out hb2)
    have BK2 := am_ (kb_ BK1.out hb2)
    refine ⟨_, rfl, pinfoldref11_Pick.S_below hHeld hb2, fun hHeld => ⟨?_, ?_, ?_⟩⟩
    rotate_left
    ·simp only [Act.put, sa_, sb_, sc_, i64_w, i32_w]
     rfl
    clear hb2 HB1 BK1 CV
    iterate 2 first | (refine seqP (v := ?_) (a' := ?_) rfl rfl (by kernel_rfl) (fun _ _ _ h => h) (Or.inl ⟨by kernel_rfl, ?_⟩) ?_ ?_; rotate_left; (intro w'; go_simp; with_reducible rfl); rotate_left; (simp only [Act.put, sa_, sb_, sc_, i64_w, i32_w]; rfl)) | (refine seqL (v := ?_) (a' := ?_) rfl rfl (by kernel_rfl) (fun _ _ _ h => h) (Or.inl ⟨by kernel_rfl, ?_⟩) hHeld ?_ ?_; rotate_left; (rintro w' ⟨s0, s1, s2, s3, s4, s5, s6, s7, s8, s9, s10, s11, s12⟩; go_simp; with_reducible rfl); rotate_left; (simp only [Act.put, sa_, sb_, sc_, i64_w, i32_w]; rfl))
    iterate 18 first | (refine seqP (v := ?_) (a' := ?_) rfl rfl (by kernel_rfl) (fun _ _ _ h => h) (Or.inl ⟨by kernel_rfl, ?_⟩) ?_ ?_; rotate_left; (intro w'; go_simp; with_reducible rfl); rotate_left; (simp only [Act.put, sa_, sb_, sc_, i64_w, i32_w]; rfl)) | (refine seqL (v := ?_) (a' := ?_) rfl rfl (by kernel_rfl) (fun _ _ _ h => h) (Or.inl ⟨by kernel_rfl, ?_⟩) hHeld ?_ ?_; rotate_left; (rintro w' ⟨s0, s1, s2, s3, s4, s5, s6, s7, s8, s9, s10, s11, s12⟩; go_simp; with_reducible rfl); rotate_left; (simp only [Act.put, sa_, sb_, sc_, i64_w, i32_w]; rfl))
    refine seqG (fn := Tryz.f35) rfl rfl (by kernel_rfl) rfl Tryz.func35 (by kernel_rfl) (by kernel_rfl) #[.agg #[.int .i64 a0_0, .int .i64 a0_1, .slice A0_2 l0_2.length c0_2, .slice A0_3 l0_3.length c0_3, .int .i64 a0_4, .string a0_5, .slice A0_6 l0_6.length c0_6], .slice (some ad) l1.length c1, .int .i64 now, .string client, .int .i64 x0] (by kernel_rfl) (by (try simp only [List.map_toArray, List.map_cons, List.map_nil]); first | done | rfl) ?_
    with_reducible refine (COi.out _ HB2.out).mono ?_
    rintro e wg ⟨rfl, hb2⟩
    have HB3 := am_ (bt_ HB2.out hb2)
    have BK3 := am_ (kb_ BK2.out hb2)
    refine ⟨_, rfl, pinfoldref11_Pick.S_below hHeld hb2, fun hHeld => ⟨?_, ?_, ?_⟩⟩
    rotate_left
    ·simp only [Act.put, sa_, sb_, sc_, i64_w, i32_w]
     rfl
    clear hb2 HB2 BK2 COi
    iterate 1 first | (refine seqP (v := ?_) (a' := ?_) rfl rfl (by kernel_rfl) (fun _ _ _ h => h) (Or.inl ⟨by kernel_rfl, ?_⟩) ?_ ?_; rotate_left; (intro w'; go_simp; with_reducible rfl); rotate_left; (simp only [Act.put, sa_, sb_, sc_, i64_w, i32_w]; rfl)) | (refine seqL (v := ?_) (a' := ?_) rfl rfl (by kernel_rfl) (fun _ _ _ h => h) (Or.inl ⟨by kernel_rfl, ?_⟩) hHeld ?_ ?_; rotate_left; (rintro w' ⟨s0, s1, s2, s3, s4, s5, s6, s7, s8, s9, s10, s11, s12⟩; go_simp; with_reducible rfl); rotate_left; (simp only [Act.put, sa_, sb_, sc_, i64_w, i32_w]; rfl))
    cases T with
    | false =>
     have HN := am_ (show endP q a0_0 a0_1 l1 ((l1.drop (i + 1).toNat).find? (hadP q now client)) = (r1, r2) from he)
     clear he
     refine seqE (by kernel_rfl) ?_
     go_wp2
     go_roundg (l1.length - (i.toNat + 1))
     case measure => exact H3.out
     case rel => exact ⟨i + 1, H1.out, H2.out, by first | rfl | (rw [show wrap64 (i + 1) = i + 1 from (i64_w _).symm.trans H4.out]), HB3, BK3, HN⟩
    | true =>
     obtain ⟨e1, e2⟩ := Prod.mk.inj (show (x0, (0 : Int)) = (r1, r2) from he)
     replace e1 := am_ e1
     replace e2 := am_ e2
     clear he
     have hx0 := (HB3.out.cell (wb_ w _ hw0)).trans hw0
     refine seqE (by kernel_rfl) ?_
     go_wp2
     go_ret2
     exact ⟨by rw [← e1.out, ← e2.out] <;> rfl, HB3.out⟩
   ·have HE2 := am_ (show refGo l1 0 0 ((hostsFrom a0_0 (a0_1 + 1 - a0_0).toNat).filter q) = (r1, r2) by have he := HE.out; rw [List.drop_eq_nil_of_le (by omega)] at he; exact he)
    have u0 := bc_ BK.out 0
    have u1 := bc_ BK.out 1
    have u2 := bc_ BK.out 2
    have u3 := bc_ BK.out 3
    have u4 := bc_ BK.out 4
    have u5 := bc_ BK.out 5
    have u6 := bc_ BK.out 6
    clear HE HX
    go_wp2
    clear u0 u1 u2 u3 u4 u5 u6
    go_loopg [17, 18, 19] (a0_1 + 1 - a0_0).toNat (fun d vb vt vh w' => ∃ h best til : Int, a0_0 ≤ h ∧ (a0_1 + 1 - h).toNat = d ∧ vb = .int .i64 best ∧ vt = .int .i64 til ∧ vh = .int .i64 h ∧ Aside0 (Below w.heap.size w w') ∧ Aside0 (w'.heap[w.heap.size]? = some (.cells #[.int .i64 a0_0, .int .i64 a0_1, .slice A0_2 l0_2.length c0_2, .slice A0_3 l0_3.length c0_3, .int .i64 a0_4, .string a0_5, .slice A0_6 l0_6.length c0_6] 26)) ∧ Aside0 (refGo l1 best til ((hostsFrom h (a0_1 + 1 - h).toNat).filter q) = (r1, r2)))
    case atStart => exact ⟨a0_0, 0, 0, by omega, rfl, rfl, rfl, rfl, HB, BK, HE2⟩
    case round =>
     clear HB BK HE2
     obtain ⟨h, best, til, hh0, hh1, rfl, rfl, rfl, HB, BK, HE⟩ := hrel
     have u0 := bc_ BK.out 0
     have u1 := bc_ BK.out 1
     have u2 := bc_ BK.out 2
     have u3 := bc_ BK.out 3
     have u4 := bc_ BK.out 4
     have u5 := bc_ BK.out 5
     have u6 := bc_ BK.out 6
     have he := HE.out
     clear HE
     by_cases hle : h ≤ a0_1
     ·rw [show (a0_1 + 1 - h).toNat = (a0_1 + 1 - (h + 1)).toNat + 1 by omega] at he
      unfold hostsFrom at he
      rw [List.filter_cons] at he
      obtain ⟨T, hT⟩ : ∃ T, q h = T := ⟨_, rfl⟩
      have COi := am_ (fun W hb => CO.out h W hb)
      rw [hT] at he COi
      clear hT
      cases T with
      | false =>
       have HN := am_ (show refGo l1 best til ((hostsFrom (h + 1) (a0_1 + 1 - (h + 1)).toNat).filter q) = (r1, r2) from he)
       clear he
       go_wp2_with (first | (go_at_call 35; (with_reducible refine (COi.out _ (by repeat (with_reducible first | exact HB.out | apply p3_ | apply p1_ | apply p2_))).mono ?_); rintro e w5 ⟨rfl, hb2⟩; replace BK := am_ (kb_ BK.out hb2); replace HB := am_ (bt_ HB.out hb2); clear hb2; clear u0 u1 u2 u3 u4 u5 u6; have u0 := bc_ BK.out 0; have u1 := bc_ BK.out 1; have u2 := bc_ BK.out 2; have u3 := bc_ BK.out 3; have u4 := bc_ BK.out 4; have u5 := bc_ BK.out 5; have u6 := bc_ BK.out 6))
       go_roundg (a0_1 + 1 - (h + 1)).toNat
       case measure => first | omega | (simp; omega)
       case rel => exact ⟨h + 1, best, til, by omega, by omega, rfl, rfl, by first | rfl | go_num, ⟨(by repeat (with_reducible first | exact HB.out | apply p3_ | apply p1_ | apply p2_))⟩, ⟨(by (with_reducible repeat (first | exact BK.out | refine k2_ ?_ _ | refine k3_ ?_ | refine k1_ ?_ _)))⟩, HN⟩
      | true =>
      rw [if_pos rfl] at he
      unfold refGo at he
      cases hf : findL l1 h with
      | none =>
       rw [hf] at he
       obtain ⟨e1, e2⟩ := Prod.mk.inj (show (h, (0 : Int)) = (r1, r2) from he)
       replace e1 := am_ e1
       replace e2 := am_ e2
       have CG := am_ (fun W hb => CFi.out h ⟨0, 0, (⟨#[]⟩ : ByteArray), 0, (⟨#[]⟩ : ByteArray), false⟩ false (by rw [hf]; exact ⟨rfl, rfl⟩) W hb)
       clear he hf
       go_wp2_with (first | (go_at_call 35; (with_reducible refine (COi.out _ (by repeat (with_reducible first | exact HB.out | apply p3_ | apply p1_ | apply p2_))).mono ?_); rintro e w5 ⟨rfl, hb2⟩; replace BK := am_ (kb_ BK.out hb2); replace HB := am_ (bt_ HB.out hb2); clear hb2; clear u0 u1 u2 u3 u4 u5 u6; have u0 := bc_ BK.out 0; have u1 := bc_ BK.out 1; have u2 := bc_ BK.out 2; have u3 := bc_ BK.out 3; have u4 := bc_ BK.out 4; have u5 := bc_ BK.out 5; have u6 := bc_ BK.out 6) | (go_at_call 26; (with_reducible refine (CG.out _ HB.out).mono ?_); rintro e w6 ⟨rfl, hb2⟩; replace BK := am_ (kb_ BK.out hb2); replace HB := am_ (bt_ HB.out hb2); clear hb2 u0 u1 u2 u3 u4 u5 u6))
       go_ret2
       exact ⟨by rw [← e1.out, ← e2.out] <;> rfl, (by repeat (with_reducible first | exact HB.out | apply p3_ | apply p1_ | apply p2_))⟩
      | some y =>
       rw [hf] at he
       obtain ⟨y0, y1, y2, y3, y4, y5⟩ := y
       have he2 : (if best = 0 ∨ y3 < til then refGo l1 h y3 ((hostsFrom (h + 1) (a0_1 + 1 - (h + 1)).toNat).filter q) else refGo l1 best til ((hostsFrom (h + 1) (a0_1 + 1 - (h + 1)).toNat).filter q)) = (r1, r2) := he
       have CG := am_ (fun W hb => CFi.out h ⟨y0, y1, y2, y3, y4, y5⟩ true (by rw [hf]; exact ⟨rfl, rfl⟩) W hb)
       clear he hf
       by_cases c1 : best = 0 ∨ y3 < til
       ·rw [if_pos c1] at he2
        have HN := am_ he2
        clear he2
        have c1' : (best == 0) = true ∨ (best == 0) = false ∧ decide (y3 < til) = true := by
         by_cases e : best = 0
         ·exact .inl (by simpa using e)
         ·exact .inr ⟨by simpa using e, decide_eq_true (c1.resolve_left e)⟩
        clear c1
        rcases c1' with c1 | ⟨c1, c2⟩
        all_goals go_wp2_with (first | (go_at_call 35; (with_reducible refine (COi.out _ (by repeat (with_reducible first | exact HB.out | apply p3_ | apply p1_ | apply p2_))).mono ?_); rintro e w5 ⟨rfl, hb2⟩; replace BK := am_ (kb_ BK.out hb2); replace HB := am_ (bt_ HB.out hb2); clear hb2; clear u0 u1 u2 u3 u4 u5 u6; have u0 := bc_ BK.out 0; have u1 := bc_ BK.out 1; have u2 := bc_ BK.out 2; have u3 := bc_ BK.out 3; have u4 := bc_ BK.out 4; have u5 := bc_ BK.out 5; have u6 := bc_ BK.out 6) | (go_at_call 26; (with_reducible refine (CG.out _ HB.out).mono ?_); rintro e w6 ⟨rfl, hb2⟩; replace BK := am_ (kb_ BK.out hb2); replace HB := am_ (bt_ HB.out hb2); clear hb2 u0 u1 u2 u3 u4 u5 u6))
        all_goals replace HB := am_ (p3_ HB.out (.cells #[.int .i64 y0, .int .i64 y1, .string y2, .int .i64 y3, .string y4, .bool y5] 44))
        all_goals replace BK := am_ (k1_ BK.out (.cells #[.int .i64 y0, .int .i64 y1, .string y2, .int .i64 y3, .string y4, .bool y5] 44))
        all_goals
         go_roundg (a0_1 + 1 - (h + 1)).toNat
         case measure => first | omega | (simp; omega)
         case rel => exact ⟨h + 1, h, y3, by omega, by omega, rfl, rfl, by first | rfl | go_num, HB, BK, HN⟩
       ·rw [if_neg c1] at he2
        have HN := am_ he2
        have c2 : (best == 0) = false := by simpa using fun e => c1 (.inl e)
        have c3 : decide (y3 < til) = false := decide_eq_false (fun e => c1 (.inr e))
        clear c1 he2
        go_wp2_with (first | (go_at_call 35; (with_reducible refine (COi.out _ (by repeat (with_reducible first | exact HB.out | apply p3_ | apply p1_ | apply p2_))).mono ?_); rintro e w5 ⟨rfl, hb2⟩; replace BK := am_ (kb_ BK.out hb2); replace HB := am_ (bt_ HB.out hb2); clear hb2; clear u0 u1 u2 u3 u4 u5 u6; have u0 := bc_ BK.out 0; have u1 := bc_ BK.out 1; have u2 := bc_ BK.out 2; have u3 := bc_ BK.out 3; have u4 := bc_ BK.out 4; have u5 := bc_ BK.out 5; have u6 := bc_ BK.out 6) | (go_at_call 26; (with_reducible refine (CG.out _ HB.out).mono ?_); rintro e w6 ⟨rfl, hb2⟩; replace BK := am_ (kb_ BK.out hb2); replace HB := am_ (bt_ HB.out hb2); clear hb2 u0 u1 u2 u3 u4 u5 u6))
        replace HB := am_ (p3_ HB.out (.cells #[.int .i64 y0, .int .i64 y1, .string y2, .int .i64 y3, .string y4, .bool y5] 44))
        replace BK := am_ (k1_ BK.out (.cells #[.int .i64 y0, .int .i64 y1, .string y2, .int .i64 y3, .string y4, .bool y5] 44))
        go_roundg (a0_1 + 1 - (h + 1)).toNat
        case measure => first | omega | (simp; omega)
        case rel => exact ⟨h + 1, best, til, by omega, by omega, rfl, rfl, by first | rfl | go_num, ⟨(by repeat (with_reducible first | exact HB.out | apply p3_ | apply p1_ | apply p2_))⟩, ⟨(by (with_reducible repeat (first | exact BK.out | refine k2_ ?_ _ | refine k3_ ?_ | refine k1_ ?_ _)))⟩, HN⟩
     ·rw [show (a0_1 + 1 - h).toNat = 0 by omega] at he
      have he2 : (if best = 0 then ((0 : Int), (1401 : Int)) else (best, 0)) = (r1, r2) := he
      clear he
      by_cases e : best = 0
      ·subst e
       rw [if_pos rfl] at he2
       obtain ⟨rfl, rfl⟩ := Prod.mk.inj he2
       clear he2
       go_wp2
       go_ret2
       exact ⟨rfl, HB.out⟩
      ·rw [if_neg e] at he2
       obtain ⟨e1, e2⟩ := Prod.mk.inj he2
       have c2 : (best == 0) = false := by simpa using e
       replace e1 := am_ e1
       replace e2 := am_ e2
       clear he2 e
       go_wp2
       go_ret2
       exact ⟨by rw [← e1.out, ← e2.out] <;> rfl, HB.out⟩

/-! ### pinfoldlaw0_SameLeases: function 9 -/
def pinfoldlaw0_SameLeases.l0 : Nat → List (S44) → List (S44) → Int → Option (Bool)
 | 0, _, _, _ => none
 | k + 1, x0, x1, x5 => if x5 < (x0.length : Int) then (if 0 ≤ x5 then (if x5 < (x1.length : Int) then (if (!(((rd_T44 x0 x5).f0) == ((rd_T44 x1 x5).f0)) || (!(((rd_T44 x0 x5).f1) == ((rd_T44 x1 x5).f1)) || (!((((rd_T44 x0 x5).f2).toList) == (((rd_T44 x1 x5).f2).toList)) || (!(((rd_T44 x0 x5).f3) == ((rd_T44 x1 x5).f3)) || (!((((rd_T44 x0 x5).f4).toList) == (((rd_T44 x1 x5).f4).toList)) || (!(((rd_T44 x0 x5).f5) == ((rd_T44 x1 x5).f5)))))))) = true then (some false) else (pinfoldlaw0_SameLeases.l0 k x0 x1 (wrap64 (x5 + 1)))) else (none)) else (none)) else (some true)
def pinfoldlaw0_SameLeases.f (k : Nat) (l0 : List (S44)) (l1 : List (S44)) : Option (Bool) := if (l0.length : Int) = (l1.length : Int) then (pinfoldlaw0_SameLeases.l0 k l0 l1 0) else (some false)
theorem pinfoldlaw0_SameLeases.mono_l : ∀ k, (∀ y0 y1 y2, LeO (pinfoldlaw0_SameLeases.l0 k y0 y1 y2) (pinfoldlaw0_SameLeases.l0 (k + 1) y0 y1 y2))
 | 0 => fun _ _ _ r h => by simp [pinfoldlaw0_SameLeases.l0] at h
 | k + 1 => by
  have ih0 := pinfoldlaw0_SameLeases.mono_l k
  ·intro y0 y1 y2
   unfold pinfoldlaw0_SameLeases.l0
   repeat' first
   | (with_reducible exact ih0 _ _ _)
   | (with_reducible exact LeO.refl _)
   | (with_reducible exact LeO.none _)
   | (with_reducible refine LeO.ite ?_ ?_)
   | (with_reducible refine LeO.bind ?_ (fun _ => ?_))
   | exact ih0 _ _ _
   | exact LeO.none _
   | refine LeO.ite ?_ ?_
   | refine LeO.bind ?_ (fun _ => ?_)
theorem pinfoldlaw0_SameLeases.mono : ∀ a0 a1 k, LeO (pinfoldlaw0_SameLeases.f k a0 a1) (pinfoldlaw0_SameLeases.f (k + 1) a0 a1) := by
 intro a0 a1 k
 have ih0 := pinfoldlaw0_SameLeases.mono_l k
 unfold pinfoldlaw0_SameLeases.f
 repeat' first
   | (with_reducible exact ih0 _ _ _)
   | (with_reducible exact LeO.refl _)
   | (with_reducible exact LeO.none _)
   | (with_reducible refine LeO.ite ?_ ?_)
   | (with_reducible refine LeO.bind ?_ (fun _ => ?_))
   | exact ih0 _ _ _
   | exact LeO.none _
   | refine LeO.ite ?_ ?_
   | refine LeO.bind ?_ (fun _ => ?_)
set_option maxHeartbeats 8000000 in
set_option maxRecDepth 100000 in
theorem pinfoldlaw0_SameLeases.calls (k : Nat) (A0 : Option Addr) (c0 : Nat) (l0 : List (S44)) (A1 : Option Addr) (c1 : Nat) (l1 : List (S44)) (r : Bool) (w : World) (hr0 : Kd.C k44 w A0 l0.length l0) (hc0 : l0.length ≤ c0) (hr1 : Kd.C k44 w A1 l1.length l1) (hc1 : l1.length ≤ c1) (h : pinfoldlaw0_SameLeases.f k l0 l1 = some r) :
  Calls Tryz.prog 9 #[.slice A0 l0.length c0, .slice A1 l1.length c1] w fun e w' => e = .returned (.bool r) ∧ Drawn0 w w' := by
 have hu44 := Tryz.underlying44
 have HR0 := am_ hr0
 have HC0 := am_ hc0
 clear hr0 hc0
 have HR1 := am_ hr1
 have HC1 := am_ hc1
 clear hr1 hc1
 have H : (if (l0.length : Int) = (l1.length : Int) then (pinfoldlaw0_SameLeases.l0 k l0 l1 0) else (some false)) = some r := h
 clear h
 by_cases c3 : (l0.length : Int) = (l1.length : Int)
 ·rw [if_pos c3] at H
  have c3b0 : ((l0.length : Int) == (l1.length : Int)) = true := beq_iff_eq.mpr c3
  have c3b1 : ((l0.length : Int) != (l1.length : Int)) = false := e1_ c3
  have c3b2 : (l0.length == l1.length) = true := by first | simpa using c3 | (simp at c3 ⊢; omega)
  clear c3
  have H' := am_ H
  clear H
  go_enter Tryz.func9, Tryz.ntmps9
  go_wp2
  repeat (go_quiet (fail); try go_wp2)
  go_loopg [5] k (fun kq v5 w' => ∃ (x5_1 : Int), v5 = .int .i64 x5_1 ∧ Aside0 (pinfoldlaw0_SameLeases.l0 kq l0 l1 x5_1 = some r) ∧ Aside0 (kq ≤ k) ∧ Drawn0 w w')
  case atStart => exact ⟨(0), (by first | rfl | (simp; done) | (simp [*]; done)), H', ⟨Nat.le_refl _⟩, by repeat (first | exact Drawn0.refl _ | apply Drawn0.step)⟩
  case round =>
   clear H'
   (try clear c1); (try clear c3); (try clear c3b0); (try clear c3b1); (try clear c3b2)
   obtain ⟨x5_1, rfl, HA, HK1, ⟨m1, rfl⟩⟩ := hrel
   cases gk with
   | zero => exact absurd HA.out (by simp [pinfoldlaw0_SameLeases.l0])
   | succ k1 =>
    have H := HA.out
    clear HA
    simp only [pinfoldlaw0_SameLeases.l0] at H
    by_cases c4 : x5_1 < (l0.length : Int)
    ·rw [if_pos c4] at H
     have c4b0 : decide (x5_1 < (l0.length : Int)) = true := decide_eq_true c4
     clear c4
     by_cases c5 : 0 ≤ x5_1
     rotate_left
     ·rw [if_neg c5] at H
      exact absurd H (by simp)
     rw [if_pos c5] at H
     have c5b0 : decide (0 ≤ x5_1) = true := decide_eq_true c5
     clear c5
     by_cases c6 : x5_1 < (l1.length : Int)
     rotate_left
     ·rw [if_neg c6] at H
      exact absurd H (by simp)
     rw [if_pos c6] at H
     have c6b0 : decide (x5_1 < (l1.length : Int)) = true := decide_eq_true c6
     clear c6
     by_cases c7 : (!(((rd_T44 l0 x5_1).f0) == ((rd_T44 l1 x5_1).f0)) || (!(((rd_T44 l0 x5_1).f1) == ((rd_T44 l1 x5_1).f1)) || (!((((rd_T44 l0 x5_1).f2).toList) == (((rd_T44 l1 x5_1).f2).toList)) || (!(((rd_T44 l0 x5_1).f3) == ((rd_T44 l1 x5_1).f3)) || (!((((rd_T44 l0 x5_1).f4).toList) == (((rd_T44 l1 x5_1).f4).toList)) || (!(((rd_T44 l0 x5_1).f5) == ((rd_T44 l1 x5_1).f5)))))))) = true
     ·rw [if_pos c7] at H
      have c7b0 : (!(((rd_T44 l0 x5_1).f0) == ((rd_T44 l1 x5_1).f0)) || (!(((rd_T44 l0 x5_1).f1) == ((rd_T44 l1 x5_1).f1)) || (!((((rd_T44 l0 x5_1).f2).toList) == (((rd_T44 l1 x5_1).f2).toList)) || (!(((rd_T44 l0 x5_1).f3) == ((rd_T44 l1 x5_1).f3)) || (!((((rd_T44 l0 x5_1).f4).toList) == (((rd_T44 l1 x5_1).f4).toList)) || (!(((rd_T44 l0 x5_1).f5) == ((rd_T44 l1 x5_1).f5)))))))) = true := c7
      clear c7
      obtain rfl := e5_ H
      have p222 : 0 ≤ (x5_1 : Int) := of_decide_eq_true (by first | (with_reducible assumption) | assumption)
      have q222 : x5_1 < (l0.length : Int) := of_decide_eq_true (by first | (with_reducible assumption) | assumption)
      obtain ⟨ad222, e222, hx222_0, hx222_1, hx222_2, hx222_3, hx222_4, hx222_5⟩ := at_T44 HR0.out x5_1 p222 q222
      cases e222
      replace p222 := eq_true p222
      replace q222 := eq_true q222
      have p223 : 0 ≤ (x5_1 : Int) := of_decide_eq_true (by first | (with_reducible assumption) | assumption)
      have q223 : x5_1 < (l1.length : Int) := of_decide_eq_true (by first | (with_reducible assumption) | assumption)
      obtain ⟨ad223, e223, hx223_0, hx223_1, hx223_2, hx223_3, hx223_4, hx223_5⟩ := at_T44 HR1.out x5_1 p223 q223
      cases e223
      replace p223 := eq_true p223
      replace q223 := eq_true q223
      go_wp2
      repeat (go_quiet (fail); try go_wp2)
      go_ret
      exact ⟨by first | rfl | (simp; done) | (simp [*]; done), by repeat (first | exact Drawn0.refl _ | apply Drawn0.step)⟩
     rw [if_neg c7] at H
     have c7b0 : (!(((rd_T44 l0 x5_1).f0) == ((rd_T44 l1 x5_1).f0)) || (!(((rd_T44 l0 x5_1).f1) == ((rd_T44 l1 x5_1).f1)) || (!((((rd_T44 l0 x5_1).f2).toList) == (((rd_T44 l1 x5_1).f2).toList)) || (!(((rd_T44 l0 x5_1).f3) == ((rd_T44 l1 x5_1).f3)) || (!((((rd_T44 l0 x5_1).f4).toList) == (((rd_T44 l1 x5_1).f4).toList)) || (!(((rd_T44 l0 x5_1).f5) == ((rd_T44 l1 x5_1).f5)))))))) = false := by simpa using c7
     clear c7
     have H' := am_ H
     clear H
     have p222 : 0 ≤ (x5_1 : Int) := of_decide_eq_true (by first | (with_reducible assumption) | assumption)
     have q222 : x5_1 < (l0.length : Int) := of_decide_eq_true (by first | (with_reducible assumption) | assumption)
     obtain ⟨ad222, e222, hx222_0, hx222_1, hx222_2, hx222_3, hx222_4, hx222_5⟩ := at_T44 HR0.out x5_1 p222 q222
     cases e222
     replace p222 := eq_true p222
     replace q222 := eq_true q222
     have p223 : 0 ≤ (x5_1 : Int) := of_decide_eq_true (by first | (with_reducible assumption) | assumption)
     have q223 : x5_1 < (l1.length : Int) := of_decide_eq_true (by first | (with_reducible assumption) | assumption)
     obtain ⟨ad223, e223, hx223_0, hx223_1, hx223_2, hx223_3, hx223_4, hx223_5⟩ := at_T44 HR1.out x5_1 p223 q223
     cases e223
     replace p223 := eq_true p223
     replace q223 := eq_true q223
     go_wp2
     repeat (go_quiet (fail); try go_wp2)
     go_roundg k1
     case measure => have := HK1.out; omega
     case rel => exact ⟨(wrap64 (x5_1 + 1)), (by first | rfl | (simp; done) | (simp [*]; done)), H', ⟨by have := HK1.out; omega⟩, by repeat (first | exact Drawn0.refl _ | apply Drawn0.step)⟩
    rw [if_neg c4] at H
    have c4b0 : decide (x5_1 < (l0.length : Int)) = false := decide_eq_false c4
    clear c4
    obtain rfl := e5_ H
    go_wp2
    repeat (go_quiet (fail); try go_wp2)
    go_ret
    exact ⟨by first | rfl | (simp; done) | (simp [*]; done), by repeat (first | exact Drawn0.refl _ | apply Drawn0.step)⟩
 rw [if_neg c3] at H
 have c3b0 : ((l0.length : Int) == (l1.length : Int)) = false := e2_ c3
 have c3b1 : ((l0.length : Int) != (l1.length : Int)) = true := bne_iff_ne.mpr c3
 have c3b2 : (l0.length == l1.length) = false := by first | simpa using c3 | (simp at c3 ⊢; omega)
 obtain rfl := e5_ H
 go_enter Tryz.func9, Tryz.ntmps9
 go_wp2
 repeat (go_quiet (fail); try go_wp2)
 go_ret
 exact ⟨by first | rfl | (simp; done) | (simp [*]; done), by repeat (first | exact Drawn0.refl _ | apply Drawn0.step)⟩

/-! ### pinfoldlaw0_Num: function 10 -/
def pinfoldlaw0_Num.f (a0 : Int) : Option (Int) := some a0
set_option maxHeartbeats 8000000 in
set_option maxRecDepth 100000 in
theorem pinfoldlaw0_Num.calls (a0 : Int) (r : Int) (w : World) (h : pinfoldlaw0_Num.f a0 = some r) :
  Calls Tryz.prog 10 #[.int .i64 a0] w fun e w' => e = .returned (.int .i64 r) ∧ Drawn0 w w' := by
 have H : (some a0) = some r := h
 clear h
 obtain rfl := e5_ H
 go_enter Tryz.func10, Tryz.ntmps10
 go_wp2
 go_ret
 exact ⟨by first | rfl | (simp; done) | (simp [*]; done), by repeat (first | exact Drawn0.refl _ | apply Drawn0.step)⟩

/-! ### pinfoldlaw15_given: function 32 -/
def pinfoldlaw15_given.f  : Option (Int × Int × List Int × (List (S81)) × Int × ByteArray × (List (S83))) := some (10, 13, (([12] : List Int)), (([(⟨(⟨#[118, 105, 112]⟩ : ByteArray), 13⟩ : S81)] : List (S81))), 100, (⟨#[108, 97, 110]⟩ : ByteArray), (([(⟨(⟨#[119, 119, 119, 46, 108, 97, 110]⟩ : ByteArray), 1, 5, 7, (⟨#[]⟩ : ByteArray), (⟨#[]⟩ : ByteArray), 0⟩ : S83)] : List (S83))))
set_option maxHeartbeats 8000000 in
set_option maxRecDepth 100000 in
theorem pinfoldlaw15_given.calls  (r1 : Int) (r2 : Int) (r3 : List Int) (r4 : List (S81)) (r5 : Int) (r6 : ByteArray) (r7 : List (S83)) (w : World) (h : pinfoldlaw15_given.f  = some (r1, r2, r3, r4, r5, r6, r7)) :
  Calls Tryz.prog 32 #[] w fun e w' => ∃ v2_ v3_ v6_ : Value, e = .returned (.agg #[.int .i64 r1, .int .i64 r2, v2_, v3_, .int .i64 r5, .string r6, v6_]) ∧ Kd.R (Kd.int .i64) 3 w' w.heap.size (fun _ => True) v2_ r3 ∧ Kd.R k81 81 w' w.heap.size (fun _ => True) v3_ r4 ∧ Kd.R k83 83 w' w.heap.size (fun _ => True) v6_ r7 ∧ Below w.heap.size w w' := by
 have hu26 := Tryz.underlying26
 have hu81 := Tryz.underlying81
 have hu83 := Tryz.underlying83
 have HB := am_ (Below.refl w.heap.size w)
 have H : (some (10, 13, (([12] : List Int)), (([(⟨(⟨#[118, 105, 112]⟩ : ByteArray), 13⟩ : S81)] : List (S81))), 100, (⟨#[108, 97, 110]⟩ : ByteArray), (([(⟨(⟨#[119, 119, 119, 46, 108, 97, 110]⟩ : ByteArray), 1, 5, 7, (⟨#[]⟩ : ByteArray), (⟨#[]⟩ : ByteArray), 0⟩ : S83)] : List (S83))))) = some (r1, r2, r3, r4, r5, r6, r7) := h
 clear h
 obtain ⟨y238, hy238⟩ : ∃ y_ : List Int, y_ = (([12] : List Int)) := ⟨_, rfl⟩
 replace H : (some (10, 13, y238, (([(⟨(⟨#[118, 105, 112]⟩ : ByteArray), 13⟩ : S81)] : List (S81))), 100, (⟨#[108, 97, 110]⟩ : ByteArray), (([(⟨(⟨#[119, 119, 119, 46, 108, 97, 110]⟩ : ByteArray), 1, 5, 7, (⟨#[]⟩ : ByteArray), (⟨#[]⟩ : ByteArray), 0⟩ : S83)] : List (S83))))) = some (r1, r2, r3, r4, r5, r6, r7) := by first | (rw [hy238]; with_reducible exact H) | (have H2_ := (Option.bind_some _ _).symm.trans H; rw [hy238]; with_reducible exact H2_) | (have H2_ := (Option.bind_some _ _).symm.trans H; with_reducible exact H2_) | with_reducible exact H | (rw [hy238]; exact H) | exact H
 have Ny238 := am_ hy238
 clear hy238
 obtain ⟨y241, hy241⟩ : ∃ y_ : List (S81), y_ = (([(⟨(⟨#[118, 105, 112]⟩ : ByteArray), 13⟩ : S81)] : List (S81))) := ⟨_, rfl⟩
 replace H : (some (10, 13, y238, y241, 100, (⟨#[108, 97, 110]⟩ : ByteArray), (([(⟨(⟨#[119, 119, 119, 46, 108, 97, 110]⟩ : ByteArray), 1, 5, 7, (⟨#[]⟩ : ByteArray), (⟨#[]⟩ : ByteArray), 0⟩ : S83)] : List (S83))))) = some (r1, r2, r3, r4, r5, r6, r7) := by first | (rw [hy241]; with_reducible exact H) | (have H2_ := (Option.bind_some _ _).symm.trans H; rw [hy241]; with_reducible exact H2_) | (have H2_ := (Option.bind_some _ _).symm.trans H; with_reducible exact H2_) | with_reducible exact H | (rw [hy241]; exact H) | exact H
 have Ny241 := am_ hy241
 clear hy241
 obtain ⟨y244, hy244⟩ : ∃ y_ : List (S83), y_ = (([(⟨(⟨#[119, 119, 119, 46, 108, 97, 110]⟩ : ByteArray), 1, 5, 7, (⟨#[]⟩ : ByteArray), (⟨#[]⟩ : ByteArray), 0⟩ : S83)] : List (S83))) := ⟨_, rfl⟩
 replace H : (some (10, 13, y238, y241, 100, (⟨#[108, 97, 110]⟩ : ByteArray), y244)) = some (r1, r2, r3, r4, r5, r6, r7) := by first | (rw [hy244]; with_reducible exact H) | (have H2_ := (Option.bind_some _ _).symm.trans H; rw [hy244]; with_reducible exact H2_) | (have H2_ := (Option.bind_some _ _).symm.trans H; with_reducible exact H2_) | with_reducible exact H | (rw [hy244]; exact H) | exact H
 have Ny244 := am_ hy244
 clear hy244
 simp only [Option.some.injEq, Prod.mk.injEq] at H
 obtain ⟨rfl, rfl, rfl, rfl, rfl, rfl, rfl⟩ := H
 go_enter Tryz.func32, Tryz.ntmps32
 go_wp2_with (first | ((with_reducible refine gate_dst (N := 0) rfl ?_); refine box_event ?hg (N := 0) ?hd (cs := #[.int .i64 0, .int .i64 0, .slice none 0 0, .slice none 0 0, .int .i64 0, .string (⟨#[]⟩ : ByteArray), .slice none 0 0]) (t := 26) ?hr ?_; (case hd => rfl); (case hg => rfl); (case hr => first | (go_simp; done) | (go_simp; rfl)); intro gb237 hg w1 hbox hb; have n0_ := am_ (bt_ (by repeat (with_reducible first | exact HB.out | apply p3_ | apply p1_ | apply p2_)) hb); have n1_ := am_ (hbox); have n2_ := am_ ((by rw [hg]; exact (bz_ (by repeat (with_reducible first | exact HB.out | apply p3_ | apply p1_ | apply p2_))) : w.heap.size ≤ gb237)); have n3_ := am_ ((by rw [hg]; exact (bz_ (by repeat (with_reducible first | exact HB.out | apply p3_ | apply p1_ | apply p2_))) : w.heap.size ≤ gb237)); clear HB; have HB := n0_; have BK237 := n1_; have GW237 := n2_; have GE237 := n3_; clear n0_ n1_ n2_ n3_; clear hb hbox hg) | ((with_reducible refine gate_dst (N := 1) rfl ?_); refine Kd.R_lit (Kd.int .i64) _ 3 ?hg (N := 1) ?hd (xs := ([12] : List Int)) (inner := [.int .i64 12]) (ok := fun _ => True) (okp := fun _ => True) ?hr ?hp (fun _ hk => hk) trivial (Below.refl _ _) (Nat.le_refl _) (by simp) ?_; (case hd => rfl); (case hg => rfl); (case hr => first | (go_simp; done) | (go_simp; rfl)); (case hp => exact (Reps.one (show Kd.M (Kd.int .i64) _ _ _ 12 [.int .i64 12] from rfl) (Reps.none _ _))); intro v239 w2 ho3 hb hg_ hnew_; clear hg_ hnew_; (first | rw [← Ny238.out] at ho3 | (simp only [Int.reduceToNat] at ho3; rw [← Ny238.out] at ho3)); have n0_ := am_ (Kd.R_lower ho3 (bz_ (by repeat (with_reducible first | exact HB.out | apply p3_ | apply p1_ | apply p2_ | refine bs_ ?_ GE237.out)))); have n1_ := am_ (kb_ (g := gb237) (o := .cells #[.int .i64 0, .int .i64 0, .slice none 0 0, .slice none 0 0, .int .i64 0, .string (⟨#[]⟩ : ByteArray), .slice none 0 0] 26 (0, 0)) (by (with_reducible repeat (first | refine k2_ ?_ _ | refine k3_ ?_ | refine k1_ ?_ _)); exact BK237.out) hb); have n2_ := am_ (bt_ (by repeat (with_reducible first | exact HB.out | apply p3_ | apply p1_ | apply p2_ | refine bs_ ?_ GE237.out)) hb); clear BK237; clear HB; have HO240 := n0_; have BK237 := n1_; have HB := n2_; clear n0_ n1_ n2_; clear hb ho3) | ((with_reducible refine gate_dst (N := 3) rfl ?_); refine Kd.R_lit k81 _ 81 ?hg (N := 3) ?hd (xs := ([(⟨(⟨#[118, 105, 112]⟩ : ByteArray), 13⟩ : S81)] : List (S81))) (inner := [.string (⟨#[118, 105, 112]⟩ : ByteArray), .int .i64 13]) (ok := fun _ => True) (okp := fun _ => True) ?hr ?hp (fun _ hk => hk) trivial (Below.refl _ _) (Nat.le_refl _) (by simp) ?_; (case hd => rfl); (case hg => rfl); (case hr => first | (go_simp; done) | (go_simp; rfl)); (case hp => exact (Reps.c2 (show Kd.M k81 _ _ _ (⟨(⟨#[118, 105, 112]⟩ : ByteArray), 13⟩ : S81) [.string (⟨#[118, 105, 112]⟩ : ByteArray), .int .i64 13] from (k81_mkM _ _ _ (⟨(⟨#[118, 105, 112]⟩ : ByteArray), 13⟩ : S81) )) (Reps.none _ _))); intro v242 w4 ho5 hb hg_ hnew_; clear hg_ hnew_; (first | rw [← Ny241.out] at ho5 | (simp only [Int.reduceToNat] at ho5; rw [← Ny241.out] at ho5)); have n0_ := am_ (Kd.R_below (by (with_reducible repeat (first | apply r1_ | apply r2_ | apply r3_)); exact HO240.out) hb); have n1_ := am_ (Kd.R_lower ho5 (bz_ (by repeat (with_reducible first | exact HB.out | apply p3_ | apply p1_ | apply p2_ | refine bs_ ?_ GE237.out)))); have n2_ := am_ (kb_ (g := gb237) (o := .cells #[.int .i64 0, .int .i64 0, .slice none 0 0, .slice none 0 0, .int .i64 0, .string (⟨#[]⟩ : ByteArray), .slice none 0 0] 26 (0, 0)) (by (with_reducible repeat (first | refine k2_ ?_ _ | refine k3_ ?_ | refine k1_ ?_ _)); exact BK237.out) hb); have n3_ := am_ (bt_ (by repeat (with_reducible first | exact HB.out | apply p3_ | apply p1_ | apply p2_ | refine bs_ ?_ GE237.out)) hb); clear HO240; clear BK237; clear HB; have HO240 := n0_; have HO243 := n1_; have BK237 := n2_; have HB := n3_; clear n0_ n1_ n2_ n3_; clear hb ho5) | ((with_reducible refine gate_dst (N := 5) rfl ?_); refine Kd.R_lit k83 _ 83 ?hg (N := 5) ?hd (xs := ([(⟨(⟨#[119, 119, 119, 46, 108, 97, 110]⟩ : ByteArray), 1, 5, 7, (⟨#[]⟩ : ByteArray), (⟨#[]⟩ : ByteArray), 0⟩ : S83)] : List (S83))) (inner := [.string (⟨#[119, 119, 119, 46, 108, 97, 110]⟩ : ByteArray), .int .i64 1, .int .i64 5, .int .i64 7, .string (⟨#[]⟩ : ByteArray), .string (⟨#[]⟩ : ByteArray), .int .i64 0]) (ok := fun _ => True) (okp := fun _ => True) ?hr ?hp (fun _ hk => hk) trivial (Below.refl _ _) (Nat.le_refl _) (by simp) ?_; (case hd => rfl); (case hg => rfl); (case hr => first | (go_simp; done) | (go_simp; rfl)); (case hp => exact (Reps.c7 (show Kd.M k83 _ _ _ (⟨(⟨#[119, 119, 119, 46, 108, 97, 110]⟩ : ByteArray), 1, 5, 7, (⟨#[]⟩ : ByteArray), (⟨#[]⟩ : ByteArray), 0⟩ : S83) [.string (⟨#[119, 119, 119, 46, 108, 97, 110]⟩ : ByteArray), .int .i64 1, .int .i64 5, .int .i64 7, .string (⟨#[]⟩ : ByteArray), .string (⟨#[]⟩ : ByteArray), .int .i64 0] from (k83_mkM _ _ _ (⟨(⟨#[119, 119, 119, 46, 108, 97, 110]⟩ : ByteArray), 1, 5, 7, (⟨#[]⟩ : ByteArray), (⟨#[]⟩ : ByteArray), 0⟩ : S83) )) (Reps.none _ _))); intro v245 w6 ho7 hb hg_ hnew_; clear hg_ hnew_; (first | rw [← Ny244.out] at ho7 | (simp only [Int.reduceToNat] at ho7; rw [← Ny244.out] at ho7)); have n0_ := am_ (Kd.R_below (by (with_reducible repeat (first | apply r1_ | apply r2_ | apply r3_)); exact HO240.out) hb); have n1_ := am_ (Kd.R_below (by (with_reducible repeat (first | apply r1_ | apply r2_ | apply r3_)); exact HO243.out) hb); have n2_ := am_ (Kd.R_lower ho7 (bz_ (by repeat (with_reducible first | exact HB.out | apply p3_ | apply p1_ | apply p2_ | refine bs_ ?_ GE237.out)))); have n3_ := am_ (kb_ (g := gb237) (o := .cells #[.int .i64 0, .int .i64 0, .slice none 0 0, .slice none 0 0, .int .i64 0, .string (⟨#[]⟩ : ByteArray), .slice none 0 0] 26 (0, 0)) (by (with_reducible repeat (first | refine k2_ ?_ _ | refine k3_ ?_ | refine k1_ ?_ _)); exact BK237.out) hb); have n4_ := am_ (bt_ (by repeat (with_reducible first | exact HB.out | apply p3_ | apply p1_ | apply p2_ | refine bs_ ?_ GE237.out)) hb); clear HO240; clear HO243; clear BK237; clear HB; have HO240 := n0_; have HO243 := n1_; have HO246 := n2_; have BK237 := n3_; have HB := n4_; clear n0_ n1_ n2_ n3_ n4_; clear hb ho7; obtain ⟨Ao8, co8, eo8⟩ := Kd.R_slice HO246.out; subst eo8; obtain ⟨Ao9, co9, eo9⟩ := Kd.R_slice HO243.out; subst eo9; obtain ⟨Ao10, co10, eo10⟩ := Kd.R_slice HO240.out; subst eo10; have hcz11_0 : w6.cell? ⟨gb237, 0, none⟩ = some (.int .i64 0) := (bc_ BK237.out 0).trans rfl; have hcz11_1 : w6.cell? ⟨gb237, 1, none⟩ = some (.int .i64 0) := (bc_ BK237.out 1).trans rfl; have hcz11_2 : w6.cell? ⟨gb237, 2, none⟩ = some (.slice none 0 0) := (bc_ BK237.out 2).trans rfl; have hcz11_3 : w6.cell? ⟨gb237, 3, none⟩ = some (.slice none 0 0) := (bc_ BK237.out 3).trans rfl; have hcz11_4 : w6.cell? ⟨gb237, 4, none⟩ = some (.int .i64 0) := (bc_ BK237.out 4).trans rfl; have hcz11_5 : w6.cell? ⟨gb237, 5, none⟩ = some (.string (⟨#[]⟩ : ByteArray)) := (bc_ BK237.out 5).trans rfl; have hcz11_6 : w6.cell? ⟨gb237, 6, none⟩ = some (.slice none 0 0) := (bc_ BK237.out 6).trans rfl; have hfz11_0 := bf_ BK237.out 0; have hfz11_1 := bf_ BK237.out 1; have hfz11_2 := bf_ BK237.out 2; have hfz11_3 := bf_ BK237.out 3; have hfz11_4 := bf_ BK237.out 4; have hfz11_5 := bf_ BK237.out 5; have hfz11_6 := bf_ BK237.out 6))
 refine bodyPost_ret (results_cell_row rfl _ _ gb237 26 #[.int .i64 10, .int .i64 13, .slice Ao10 y238.length co10, .slice Ao9 y241.length co9, .int .i64 100, .string (⟨#[108, 97, 110]⟩ : ByteArray), .slice Ao8 y244.length co8] (0, 0) _ rfl (by (with_reducible repeat (first | refine k2_ ?_ _ | refine k3_ ?_ | refine k1_ ?_ _)); refine blk_put (cs := #[.int .i64 10, .int .i64 13, .slice Ao10 y238.length co10, .slice Ao9 y241.length co9, .int .i64 100, .string (⟨#[108, 97, 110]⟩ : ByteArray), .slice none 0 0]) ?_ 6 _ rfl; (with_reducible repeat (first | refine k2_ ?_ _ | refine k3_ ?_ | refine k1_ ?_ _)); refine blk_put (cs := #[.int .i64 10, .int .i64 13, .slice Ao10 y238.length co10, .slice Ao9 y241.length co9, .int .i64 100, .string (⟨#[]⟩ : ByteArray), .slice none 0 0]) ?_ 5 _ rfl; (with_reducible repeat (first | refine k2_ ?_ _ | refine k3_ ?_ | refine k1_ ?_ _)); refine blk_put (cs := #[.int .i64 10, .int .i64 13, .slice Ao10 y238.length co10, .slice Ao9 y241.length co9, .int .i64 0, .string (⟨#[]⟩ : ByteArray), .slice none 0 0]) ?_ 4 _ rfl; (with_reducible repeat (first | refine k2_ ?_ _ | refine k3_ ?_ | refine k1_ ?_ _)); refine blk_put (cs := #[.int .i64 10, .int .i64 13, .slice Ao10 y238.length co10, .slice none 0 0, .int .i64 0, .string (⟨#[]⟩ : ByteArray), .slice none 0 0]) ?_ 3 _ rfl; (with_reducible repeat (first | refine k2_ ?_ _ | refine k3_ ?_ | refine k1_ ?_ _)); refine blk_put (cs := #[.int .i64 10, .int .i64 13, .slice none 0 0, .slice none 0 0, .int .i64 0, .string (⟨#[]⟩ : ByteArray), .slice none 0 0]) ?_ 2 _ rfl; (with_reducible repeat (first | refine k2_ ?_ _ | refine k3_ ?_ | refine k1_ ?_ _)); refine blk_put (cs := #[.int .i64 10, .int .i64 0, .slice none 0 0, .slice none 0 0, .int .i64 0, .string (⟨#[]⟩ : ByteArray), .slice none 0 0]) ?_ 1 _ rfl; (with_reducible repeat (first | refine k2_ ?_ _ | refine k3_ ?_ | refine k1_ ?_ _)); refine blk_put (cs := #[.int .i64 0, .int .i64 0, .slice none 0 0, .slice none 0 0, .int .i64 0, .string (⟨#[]⟩ : ByteArray), .slice none 0 0]) ?_ 0 _ rfl; (with_reducible repeat (first | refine k2_ ?_ _ | refine k3_ ?_ | refine k1_ ?_ _)); exact BK237.out) Tryz.underlying26 rfl (by kernel_rfl)) rfl ?_
 exact ⟨_, _, _, by first | rfl | (simp [errW_none, errW_some] <;> rfl) | (simp [*, errW_none, errW_some] <;> rfl), by (with_reducible repeat (first | apply r1_ | apply r2_ | apply r3_)); exact Kd.R_mono (Kd.R_far (p := ⟨gb237, 6, none⟩) (Kd.R_far (p := ⟨gb237, 5, none⟩) (Kd.R_far (p := ⟨gb237, 4, none⟩) (Kd.R_far (p := ⟨gb237, 3, none⟩) (Kd.R_far (p := ⟨gb237, 2, none⟩) (Kd.R_far (p := ⟨gb237, 1, none⟩) (Kd.R_far (p := ⟨gb237, 0, none⟩) (Kd.R_types HO240.out BK237.out (by decide)) (fun _ hk => hk.2) (.int .i64 10)) (fun _ hk => hk.2) (.int .i64 13)) (fun _ hk => hk.2) (.slice Ao10 y238.length co10)) (fun _ hk => hk.2) (.slice Ao9 y241.length co9)) (fun _ hk => hk.2) (.int .i64 100)) (fun _ hk => hk.2) (.string (⟨#[108, 97, 110]⟩ : ByteArray))) (fun _ hk => hk.2) (.slice Ao8 y244.length co8)) (fun _ hk => trivial), by (with_reducible repeat (first | apply r1_ | apply r2_ | apply r3_)); exact Kd.R_mono (Kd.R_far (p := ⟨gb237, 6, none⟩) (Kd.R_far (p := ⟨gb237, 5, none⟩) (Kd.R_far (p := ⟨gb237, 4, none⟩) (Kd.R_far (p := ⟨gb237, 3, none⟩) (Kd.R_far (p := ⟨gb237, 2, none⟩) (Kd.R_far (p := ⟨gb237, 1, none⟩) (Kd.R_far (p := ⟨gb237, 0, none⟩) (Kd.R_types HO243.out BK237.out (by decide)) (fun _ hk => hk.2) (.int .i64 10)) (fun _ hk => hk.2) (.int .i64 13)) (fun _ hk => hk.2) (.slice Ao10 y238.length co10)) (fun _ hk => hk.2) (.slice Ao9 y241.length co9)) (fun _ hk => hk.2) (.int .i64 100)) (fun _ hk => hk.2) (.string (⟨#[108, 97, 110]⟩ : ByteArray))) (fun _ hk => hk.2) (.slice Ao8 y244.length co8)) (fun _ hk => trivial), by (with_reducible repeat (first | apply r1_ | apply r2_ | apply r3_)); exact Kd.R_mono (Kd.R_far (p := ⟨gb237, 6, none⟩) (Kd.R_far (p := ⟨gb237, 5, none⟩) (Kd.R_far (p := ⟨gb237, 4, none⟩) (Kd.R_far (p := ⟨gb237, 3, none⟩) (Kd.R_far (p := ⟨gb237, 2, none⟩) (Kd.R_far (p := ⟨gb237, 1, none⟩) (Kd.R_far (p := ⟨gb237, 0, none⟩) (Kd.R_types HO246.out BK237.out (by decide)) (fun _ hk => hk.2) (.int .i64 10)) (fun _ hk => hk.2) (.int .i64 13)) (fun _ hk => hk.2) (.slice Ao10 y238.length co10)) (fun _ hk => hk.2) (.slice Ao9 y241.length co9)) (fun _ hk => hk.2) (.int .i64 100)) (fun _ hk => hk.2) (.string (⟨#[108, 97, 110]⟩ : ByteArray))) (fun _ hk => hk.2) (.slice Ao8 y244.length co8)) (fun _ hk => trivial), by repeat (with_reducible first | exact HB.out | apply p3_ | apply p1_ | apply p2_ | refine bs_ ?_ GE237.out)⟩

/-! ### pinfoldlaw15_awake: function 14 -/
def pinfoldlaw15_awake.f (k : Nat)  : Option (Bool) := (pinfoldlaw15_given.f).bind fun bt247 => ((offer_Offer.f bt247.1 bt247.2.1 bt247.2.2.1 bt247.2.2.2.1 bt247.2.2.2.2.1 bt247.2.2.2.2.2.1 bt247.2.2.2.2.2.2 ([] : List (S44)) 5 (⟨#[109, 101]⟩ : ByteArray) 0).bind fun bt261 => ((offer_Offer.f bt247.1 bt247.2.1 bt247.2.2.1 bt247.2.2.2.1 bt247.2.2.2.2.1 bt247.2.2.2.2.2.1 bt247.2.2.2.2.2.2 bt261.1 6 (⟨#[109, 101]⟩ : ByteArray) 11).bind fun bt266 => ((offer_Offer.f bt247.1 bt247.2.1 bt247.2.2.1 bt247.2.2.2.1 bt247.2.2.2.2.1 bt247.2.2.2.2.2.1 bt247.2.2.2.2.2.2 bt261.1 6 (⟨#[]⟩ : ByteArray) 0).bind fun bt271 => ((pinfoldlaw0_SameLeases.f k bt261.1 (([(⟨10, 1, (⟨#[109, 101]⟩ : ByteArray), 13, (⟨#[]⟩ : ByteArray), false⟩ : S44)] : List (S44)))).bind fun t279 => (if t279 = true then (if bt261.2.1 = 10 then ((pinfoldlaw0_Num.f bt261.2.2).bind fun t280 => (if t280 = 0 then ((pinfoldlaw0_SameLeases.f k bt266.1 (([(⟨10, 1, (⟨#[109, 101]⟩ : ByteArray), 14, (⟨#[]⟩ : ByteArray), false⟩ : S44)] : List (S44)))).bind fun t284 => (if t284 = true then (if bt266.2.1 = 10 then ((pinfoldlaw0_Num.f bt266.2.2).bind fun t285 => (if t285 = 0 then ((pinfoldlaw0_Num.f bt271.2.2).bind fun t286 => (some (t286 == 1500))) else (none))) else (none)) else (none))) else (none))) else (none)) else (none))))))
theorem pinfoldlaw15_awake.mono : ∀ k, LeO (pinfoldlaw15_awake.f k ) (pinfoldlaw15_awake.f (k + 1) ) := by
 intro  k
 unfold pinfoldlaw15_awake.f
 repeat' first
   | (with_reducible exact pinfoldlaw0_SameLeases.mono _ _ _)
   | (with_reducible exact LeO.refl _)
   | (with_reducible exact LeO.none _)
   | (with_reducible refine LeO.ite ?_ ?_)
   | (with_reducible refine LeO.bind ?_ (fun _ => ?_))
   | exact pinfoldlaw0_SameLeases.mono _ _ _
   | exact LeO.none _
   | refine LeO.ite ?_ ?_
   | refine LeO.bind ?_ (fun _ => ?_)
set_option maxHeartbeats 8000000 in
set_option maxRecDepth 100000 in
theorem pinfoldlaw15_awake.calls (k : Nat)  (r : Bool) (w : World) (h : pinfoldlaw15_awake.f k  = some r) :
  Calls Tryz.prog 14 #[] w fun e w' => e = .returned (.bool r) ∧ Below w.heap.size w w' := by
 have hu26 := Tryz.underlying26
 have hu44 := Tryz.underlying44
 have HB := am_ (Below.refl w.heap.size w)
 have H : ((pinfoldlaw15_given.f).bind fun bt247 => ((offer_Offer.f bt247.1 bt247.2.1 bt247.2.2.1 bt247.2.2.2.1 bt247.2.2.2.2.1 bt247.2.2.2.2.2.1 bt247.2.2.2.2.2.2 ([] : List (S44)) 5 (⟨#[109, 101]⟩ : ByteArray) 0).bind fun bt261 => ((offer_Offer.f bt247.1 bt247.2.1 bt247.2.2.1 bt247.2.2.2.1 bt247.2.2.2.2.1 bt247.2.2.2.2.2.1 bt247.2.2.2.2.2.2 bt261.1 6 (⟨#[109, 101]⟩ : ByteArray) 11).bind fun bt266 => ((offer_Offer.f bt247.1 bt247.2.1 bt247.2.2.1 bt247.2.2.2.1 bt247.2.2.2.2.1 bt247.2.2.2.2.2.1 bt247.2.2.2.2.2.2 bt261.1 6 (⟨#[]⟩ : ByteArray) 0).bind fun bt271 => ((pinfoldlaw0_SameLeases.f k bt261.1 (([(⟨10, 1, (⟨#[109, 101]⟩ : ByteArray), 13, (⟨#[]⟩ : ByteArray), false⟩ : S44)] : List (S44)))).bind fun t279 => (if t279 = true then (if bt261.2.1 = 10 then ((pinfoldlaw0_Num.f bt261.2.2).bind fun t280 => (if t280 = 0 then ((pinfoldlaw0_SameLeases.f k bt266.1 (([(⟨10, 1, (⟨#[109, 101]⟩ : ByteArray), 14, (⟨#[]⟩ : ByteArray), false⟩ : S44)] : List (S44)))).bind fun t284 => (if t284 = true then (if bt266.2.1 = 10 then ((pinfoldlaw0_Num.f bt266.2.2).bind fun t285 => (if t285 = 0 then ((pinfoldlaw0_Num.f bt271.2.2).bind fun t286 => (some (t286 == 1500))) else (none))) else (none)) else (none))) else (none))) else (none)) else (none))))))) = some r := h
 clear h
 replace H := e4_ H
 obtain ⟨⟨t247, t248, t249, t252, t255, t256, t257⟩, A10, H⟩ := H
 replace H : ((offer_Offer.f t247 t248 t249 t252 t255 t256 t257 ([] : List (S44)) 5 (⟨#[109, 101]⟩ : ByteArray) 0).bind fun bt261 => ((offer_Offer.f t247 t248 t249 t252 t255 t256 t257 bt261.1 6 (⟨#[109, 101]⟩ : ByteArray) 11).bind fun bt266 => ((offer_Offer.f t247 t248 t249 t252 t255 t256 t257 bt261.1 6 (⟨#[]⟩ : ByteArray) 0).bind fun bt271 => ((pinfoldlaw0_SameLeases.f k bt261.1 (([(⟨10, 1, (⟨#[109, 101]⟩ : ByteArray), 13, (⟨#[]⟩ : ByteArray), false⟩ : S44)] : List (S44)))).bind fun t279 => (if t279 = true then (if bt261.2.1 = 10 then ((pinfoldlaw0_Num.f bt261.2.2).bind fun t280 => (if t280 = 0 then ((pinfoldlaw0_SameLeases.f k bt266.1 (([(⟨10, 1, (⟨#[109, 101]⟩ : ByteArray), 14, (⟨#[]⟩ : ByteArray), false⟩ : S44)] : List (S44)))).bind fun t284 => (if t284 = true then (if bt266.2.1 = 10 then ((pinfoldlaw0_Num.f bt266.2.2).bind fun t285 => (if t285 = 0 then ((pinfoldlaw0_Num.f bt271.2.2).bind fun t286 => (some (t286 == 1500))) else (none))) else (none)) else (none))) else (none))) else (none)) else (none)))))) = some r := H
 have A1 := am_ A10
 clear A10
 replace H := e4_ H
 obtain ⟨⟨t261, t264, t265⟩, A20, H⟩ := H
 replace H : ((offer_Offer.f t247 t248 t249 t252 t255 t256 t257 t261 6 (⟨#[109, 101]⟩ : ByteArray) 11).bind fun bt266 => ((offer_Offer.f t247 t248 t249 t252 t255 t256 t257 t261 6 (⟨#[]⟩ : ByteArray) 0).bind fun bt271 => ((pinfoldlaw0_SameLeases.f k t261 (([(⟨10, 1, (⟨#[109, 101]⟩ : ByteArray), 13, (⟨#[]⟩ : ByteArray), false⟩ : S44)] : List (S44)))).bind fun t279 => (if t279 = true then (if t264 = 10 then ((pinfoldlaw0_Num.f t265).bind fun t280 => (if t280 = 0 then ((pinfoldlaw0_SameLeases.f k bt266.1 (([(⟨10, 1, (⟨#[109, 101]⟩ : ByteArray), 14, (⟨#[]⟩ : ByteArray), false⟩ : S44)] : List (S44)))).bind fun t284 => (if t284 = true then (if bt266.2.1 = 10 then ((pinfoldlaw0_Num.f bt266.2.2).bind fun t285 => (if t285 = 0 then ((pinfoldlaw0_Num.f bt271.2.2).bind fun t286 => (some (t286 == 1500))) else (none))) else (none)) else (none))) else (none))) else (none)) else (none))))) = some r := H
 have A2 := am_ A20
 clear A20
 replace H := e4_ H
 obtain ⟨⟨t266, t269, t270⟩, A30, H⟩ := H
 replace H : ((offer_Offer.f t247 t248 t249 t252 t255 t256 t257 t261 6 (⟨#[]⟩ : ByteArray) 0).bind fun bt271 => ((pinfoldlaw0_SameLeases.f k t261 (([(⟨10, 1, (⟨#[109, 101]⟩ : ByteArray), 13, (⟨#[]⟩ : ByteArray), false⟩ : S44)] : List (S44)))).bind fun t279 => (if t279 = true then (if t264 = 10 then ((pinfoldlaw0_Num.f t265).bind fun t280 => (if t280 = 0 then ((pinfoldlaw0_SameLeases.f k t266 (([(⟨10, 1, (⟨#[109, 101]⟩ : ByteArray), 14, (⟨#[]⟩ : ByteArray), false⟩ : S44)] : List (S44)))).bind fun t284 => (if t284 = true then (if t269 = 10 then ((pinfoldlaw0_Num.f t270).bind fun t285 => (if t285 = 0 then ((pinfoldlaw0_Num.f bt271.2.2).bind fun t286 => (some (t286 == 1500))) else (none))) else (none)) else (none))) else (none))) else (none)) else (none)))) = some r := H
 have A3 := am_ A30
 clear A30
 replace H := e4_ H
 obtain ⟨⟨t271, t274, t275⟩, A40, H⟩ := H
 replace H : ((pinfoldlaw0_SameLeases.f k t261 (([(⟨10, 1, (⟨#[109, 101]⟩ : ByteArray), 13, (⟨#[]⟩ : ByteArray), false⟩ : S44)] : List (S44)))).bind fun t279 => (if t279 = true then (if t264 = 10 then ((pinfoldlaw0_Num.f t265).bind fun t280 => (if t280 = 0 then ((pinfoldlaw0_SameLeases.f k t266 (([(⟨10, 1, (⟨#[109, 101]⟩ : ByteArray), 14, (⟨#[]⟩ : ByteArray), false⟩ : S44)] : List (S44)))).bind fun t284 => (if t284 = true then (if t269 = 10 then ((pinfoldlaw0_Num.f t270).bind fun t285 => (if t285 = 0 then ((pinfoldlaw0_Num.f t275).bind fun t286 => (some (t286 == 1500))) else (none))) else (none)) else (none))) else (none))) else (none)) else (none))) = some r := H
 have A4 := am_ A40
 clear A40
 obtain ⟨y276, hy276⟩ : ∃ y_ : List (S44), y_ = (([(⟨10, 1, (⟨#[109, 101]⟩ : ByteArray), 13, (⟨#[]⟩ : ByteArray), false⟩ : S44)] : List (S44))) := ⟨_, rfl⟩
 replace H : ((pinfoldlaw0_SameLeases.f k t261 y276).bind fun t279 => (if t279 = true then (if t264 = 10 then ((pinfoldlaw0_Num.f t265).bind fun t280 => (if t280 = 0 then ((pinfoldlaw0_SameLeases.f k t266 (([(⟨10, 1, (⟨#[109, 101]⟩ : ByteArray), 14, (⟨#[]⟩ : ByteArray), false⟩ : S44)] : List (S44)))).bind fun t284 => (if t284 = true then (if t269 = 10 then ((pinfoldlaw0_Num.f t270).bind fun t285 => (if t285 = 0 then ((pinfoldlaw0_Num.f t275).bind fun t286 => (some (t286 == 1500))) else (none))) else (none)) else (none))) else (none))) else (none)) else (none))) = some r := by first | (rw [hy276]; with_reducible exact H) | (have H2_ := (Option.bind_some _ _).symm.trans H; rw [hy276]; with_reducible exact H2_) | (have H2_ := (Option.bind_some _ _).symm.trans H; with_reducible exact H2_) | with_reducible exact H | (rw [hy276]; exact H) | exact H
 have Ny276 := am_ hy276
 clear hy276
 replace H := e4_ H
 obtain ⟨t279, A50, H⟩ := H
 replace H : (if t279 = true then (if t264 = 10 then ((pinfoldlaw0_Num.f t265).bind fun t280 => (if t280 = 0 then ((pinfoldlaw0_SameLeases.f k t266 (([(⟨10, 1, (⟨#[109, 101]⟩ : ByteArray), 14, (⟨#[]⟩ : ByteArray), false⟩ : S44)] : List (S44)))).bind fun t284 => (if t284 = true then (if t269 = 10 then ((pinfoldlaw0_Num.f t270).bind fun t285 => (if t285 = 0 then ((pinfoldlaw0_Num.f t275).bind fun t286 => (some (t286 == 1500))) else (none))) else (none)) else (none))) else (none))) else (none)) else (none)) = some r := H
 have A5 := am_ A50
 clear A50
 by_cases c6 : t279 = true
 ·subst c6
  have H1 : (if t264 = 10 then ((pinfoldlaw0_Num.f t265).bind fun t280 => (if t280 = 0 then ((pinfoldlaw0_SameLeases.f k t266 (([(⟨10, 1, (⟨#[109, 101]⟩ : ByteArray), 14, (⟨#[]⟩ : ByteArray), false⟩ : S44)] : List (S44)))).bind fun t284 => (if t284 = true then (if t269 = 10 then ((pinfoldlaw0_Num.f t270).bind fun t285 => (if t285 = 0 then ((pinfoldlaw0_Num.f t275).bind fun t286 => (some (t286 == 1500))) else (none))) else (none)) else (none))) else (none))) else (none)) = some r := by rw [if_pos rfl] at H; exact H
  clear H
  have H := H1
  clear H1
  by_cases c7 : t264 = 10
  rotate_left
  ·rw [if_neg c7] at H
   exact absurd H (by simp)
  rw [if_pos c7] at H
  have c7b0 : (t264 == 10) = true := beq_iff_eq.mpr c7
  have c7b1 : (t264 != 10) = false := e1_ c7
  clear c7
  replace H := e4_ H
  obtain ⟨t280, A80, H⟩ := H
  replace H : (if t280 = 0 then ((pinfoldlaw0_SameLeases.f k t266 (([(⟨10, 1, (⟨#[109, 101]⟩ : ByteArray), 14, (⟨#[]⟩ : ByteArray), false⟩ : S44)] : List (S44)))).bind fun t284 => (if t284 = true then (if t269 = 10 then ((pinfoldlaw0_Num.f t270).bind fun t285 => (if t285 = 0 then ((pinfoldlaw0_Num.f t275).bind fun t286 => (some (t286 == 1500))) else (none))) else (none)) else (none))) else (none)) = some r := H
  have A8 := am_ A80
  clear A80
  by_cases c9 : t280 = 0
  rotate_left
  ·rw [if_neg c9] at H
   exact absurd H (by simp)
  rw [if_pos c9] at H
  have c9b0 : (t280 == 0) = true := beq_iff_eq.mpr c9
  have c9b1 : (t280 != 0) = false := e1_ c9
  clear c9
  obtain ⟨y281, hy281⟩ : ∃ y_ : List (S44), y_ = (([(⟨10, 1, (⟨#[109, 101]⟩ : ByteArray), 14, (⟨#[]⟩ : ByteArray), false⟩ : S44)] : List (S44))) := ⟨_, rfl⟩
  replace H : ((pinfoldlaw0_SameLeases.f k t266 y281).bind fun t284 => (if t284 = true then (if t269 = 10 then ((pinfoldlaw0_Num.f t270).bind fun t285 => (if t285 = 0 then ((pinfoldlaw0_Num.f t275).bind fun t286 => (some (t286 == 1500))) else (none))) else (none)) else (none))) = some r := by first | (rw [hy281]; with_reducible exact H) | (have H2_ := (Option.bind_some _ _).symm.trans H; rw [hy281]; with_reducible exact H2_) | (have H2_ := (Option.bind_some _ _).symm.trans H; with_reducible exact H2_) | with_reducible exact H | (rw [hy281]; exact H) | exact H
  have Ny281 := am_ hy281
  clear hy281
  replace H := e4_ H
  obtain ⟨t284, A100, H⟩ := H
  replace H : (if t284 = true then (if t269 = 10 then ((pinfoldlaw0_Num.f t270).bind fun t285 => (if t285 = 0 then ((pinfoldlaw0_Num.f t275).bind fun t286 => (some (t286 == 1500))) else (none))) else (none)) else (none)) = some r := H
  have A10 := am_ A100
  clear A100
  by_cases c11 : t284 = true
  ·subst c11
   have H1 : (if t269 = 10 then ((pinfoldlaw0_Num.f t270).bind fun t285 => (if t285 = 0 then ((pinfoldlaw0_Num.f t275).bind fun t286 => (some (t286 == 1500))) else (none))) else (none)) = some r := by rw [if_pos rfl] at H; exact H
   clear H
   have H := H1
   clear H1
   by_cases c12 : t269 = 10
   rotate_left
   ·rw [if_neg c12] at H
    exact absurd H (by simp)
   rw [if_pos c12] at H
   have c12b0 : (t269 == 10) = true := beq_iff_eq.mpr c12
   have c12b1 : (t269 != 10) = false := e1_ c12
   clear c12
   replace H := e4_ H
   obtain ⟨t285, A130, H⟩ := H
   replace H : (if t285 = 0 then ((pinfoldlaw0_Num.f t275).bind fun t286 => (some (t286 == 1500))) else (none)) = some r := H
   have A13 := am_ A130
   clear A130
   by_cases c14 : t285 = 0
   rotate_left
   ·rw [if_neg c14] at H
    exact absurd H (by simp)
   rw [if_pos c14] at H
   have c14b0 : (t285 == 0) = true := beq_iff_eq.mpr c14
   have c14b1 : (t285 != 0) = false := e1_ c14
   clear c14
   replace H := e4_ H
   obtain ⟨t286, A150, H⟩ := H
   replace H : (some (t286 == 1500)) = some r := H
   have A15 := am_ A150
   clear A150
   obtain rfl := e5_ H
   go_enter Tryz.func14, Tryz.ntmps14
   go_wp2_with (first | ((with_reducible refine gate_callee (f := 32) rfl ?_); refine goesL_ (some 11) rfl rfl Tryz.func32 (by kernel_rfl) rfl #[] rfl (by (try simp only [List.map_toArray, List.map_cons, List.map_nil]); first | done | rfl | (simp only [List.length_drop, List.length_take]; rfl)) ?_; (with_reducible refine (pinfoldlaw15_given.calls  t247 t248 t249 t252 t255 t256 t257 _ A1.out).mono ?_); rintro e w16 ⟨v250, v253, v258, rfl, ho0, ho1, ho2, hb⟩; refine ⟨_, rfl, ?_⟩; have n0_ := am_ (Kd.R_lower ho0 (bz_ (by repeat (with_reducible first | exact HB.out | apply p3_ | apply p1_ | apply p2_)))); have n1_ := am_ (Kd.R_lower ho1 (bz_ (by repeat (with_reducible first | exact HB.out | apply p3_ | apply p1_ | apply p2_)))); have n2_ := am_ (Kd.R_lower ho2 (bz_ (by repeat (with_reducible first | exact HB.out | apply p3_ | apply p1_ | apply p2_)))); have n3_ := am_ (bt_ (by repeat (with_reducible first | exact HB.out | apply p3_ | apply p1_ | apply p2_)) hb); clear HB; have HO251 := n0_; have HO254 := n1_; have HO259 := n2_; have HB := n3_; clear n0_ n1_ n2_ n3_; (try clear hb); (try clear ho0); (try clear ho1); (try clear ho2)) | ((with_reducible refine gate_dst (N := 1) rfl ?_); (try (refine gate_guard (by rfl) ?_; dsimp only)); refine box_event ?hg (N := 1) ?hd (cs := #[.int .i64 0, .int .i64 0, .slice none 0 0, .slice none 0 0, .int .i64 0, .string (⟨#[]⟩ : ByteArray), .slice none 0 0]) (t := 26) ?hr ?_; (case hd => rfl); (case hg => rfl); (case hr => first | (go_simp; done) | (go_simp; rfl)); intro gb260 hg w17 hbox hb; have n0_ := am_ (Kd.R_below (by (with_reducible repeat (first | apply r1_ | apply r2_ | apply r3_)); exact HO251.out) hb); have n1_ := am_ (Kd.R_below (by (with_reducible repeat (first | apply r1_ | apply r2_ | apply r3_)); exact HO254.out) hb); have n2_ := am_ (Kd.R_below (by (with_reducible repeat (first | apply r1_ | apply r2_ | apply r3_)); exact HO259.out) hb); have n3_ := am_ (bt_ (by repeat (with_reducible first | exact HB.out | apply p3_ | apply p1_ | apply p2_)) hb); have n4_ := am_ (hbox); have n5_ := am_ ((by rw [hg]; exact (bz_ (by repeat (with_reducible first | exact HB.out | apply p3_ | apply p1_ | apply p2_))) : w.heap.size ≤ gb260)); have n6_ := am_ ((by rw [hg]; exact (bz_ (by repeat (with_reducible first | exact HB.out | apply p3_ | apply p1_ | apply p2_))) : w.heap.size ≤ gb260)); clear HO251; clear HO254; clear HO259; clear HB; have HO251 := n0_; have HO254 := n1_; have HO259 := n2_; have HB := n3_; have BK260 := n4_; have GW260 := n5_; have GE260 := n6_; clear n0_ n1_ n2_ n3_ n4_ n5_ n6_; clear hb hbox hg; have hcz18_0 : w17.cell? ⟨gb260, 0, none⟩ = some (.int .i64 0) := (bc_ BK260.out 0).trans rfl; have hcz18_1 : w17.cell? ⟨gb260, 1, none⟩ = some (.int .i64 0) := (bc_ BK260.out 1).trans rfl; have hcz18_2 : w17.cell? ⟨gb260, 2, none⟩ = some (.slice none 0 0) := (bc_ BK260.out 2).trans rfl; have hcz18_3 : w17.cell? ⟨gb260, 3, none⟩ = some (.slice none 0 0) := (bc_ BK260.out 3).trans rfl; have hcz18_4 : w17.cell? ⟨gb260, 4, none⟩ = some (.int .i64 0) := (bc_ BK260.out 4).trans rfl; have hcz18_5 : w17.cell? ⟨gb260, 5, none⟩ = some (.string (⟨#[]⟩ : ByteArray)) := (bc_ BK260.out 5).trans rfl; have hcz18_6 : w17.cell? ⟨gb260, 6, none⟩ = some (.slice none 0 0) := (bc_ BK260.out 6).trans rfl; have hfz18_0 := bf_ BK260.out 0; have hfz18_1 := bf_ BK260.out 1; have hfz18_2 := bf_ BK260.out 2; have hfz18_3 := bf_ BK260.out 3; have hfz18_4 := bf_ BK260.out 4; have hfz18_5 := bf_ BK260.out 5; have hfz18_6 := bf_ BK260.out 6; obtain ⟨Ao19, co19, eo19⟩ := Kd.R_slice HO251.out; subst eo19; obtain ⟨Ao20, co20, eo20⟩ := Kd.R_slice HO254.out; subst eo20; obtain ⟨Ao21, co21, eo21⟩ := Kd.R_slice HO259.out; subst eo21) | ((with_reducible refine gate_callee (f := 7) rfl ?_); refine goesL_ (some 14) rfl rfl Tryz.func7 (by kernel_rfl) rfl #[.agg #[.int .i64 t247, .int .i64 t248, .slice Ao19 t249.length co19, .slice Ao20 t252.length co20, .int .i64 t255, .string t256, .slice Ao21 t257.length co21], .slice none 0 0, .int .i64 5, .string (⟨#[109, 101]⟩ : ByteArray), .int .i64 0] rfl (by (try simp only [List.map_toArray, List.map_cons, List.map_nil]); first | done | rfl | (simp only [List.length_drop, List.length_take]; rfl)) ?_; (refine (offer_Offer.calls t247 t248 _ _ t249 _ _ t252 t255 t256 _ _ t257 _ _ ([] : List (S44)) 5 (⟨#[109, 101]⟩ : ByteArray) 0 t261 t264 t265 _ ?side1 ?side2 ?side3 ?side4 ?side5 ?side6 ?side7 ?side8 A2.out).mono ?_); (case side1 => refine (Kd.R_reads' (e := 3) (base := w.heap.size) (ok := fun k_ => True) (n := t249.length) (c := co19) ?_).2.2; exact (by (with_reducible repeat (first | apply r1_ | apply r2_ | apply r3_)); exact (Kd.R_mono (Kd.R_far (p := ⟨gb260, 6, none⟩) (Kd.R_far (p := ⟨gb260, 5, none⟩) (Kd.R_far (p := ⟨gb260, 4, none⟩) (Kd.R_far (p := ⟨gb260, 3, none⟩) (Kd.R_far (p := ⟨gb260, 2, none⟩) (Kd.R_far (p := ⟨gb260, 1, none⟩) (Kd.R_far (p := ⟨gb260, 0, none⟩) (Kd.R_types HO251.out BK260.out (by decide)) (fun _ hk => hk.2) (.int .i64 t247)) (fun _ hk => hk.2) (.int .i64 t248)) (fun _ hk => hk.2) (.slice Ao19 t249.length co19)) (fun _ hk => hk.2) (.slice Ao20 t252.length co20)) (fun _ hk => hk.2) (.int .i64 t255)) (fun _ hk => hk.2) (.string t256)) (fun _ hk => hk.2) (.slice Ao21 t257.length co21)) (fun _ h_ => h_.1)))); (case side2 => exact (Kd.R_reads' HO251.out).2.1); (case side3 => refine (Kd.R_reads' (e := 81) (base := w.heap.size) (ok := fun k_ => True) (n := t252.length) (c := co20) ?_).2.2; exact (by (with_reducible repeat (first | apply r1_ | apply r2_ | apply r3_)); exact (Kd.R_mono (Kd.R_far (p := ⟨gb260, 6, none⟩) (Kd.R_far (p := ⟨gb260, 5, none⟩) (Kd.R_far (p := ⟨gb260, 4, none⟩) (Kd.R_far (p := ⟨gb260, 3, none⟩) (Kd.R_far (p := ⟨gb260, 2, none⟩) (Kd.R_far (p := ⟨gb260, 1, none⟩) (Kd.R_far (p := ⟨gb260, 0, none⟩) (Kd.R_types HO254.out BK260.out (by decide)) (fun _ hk => hk.2) (.int .i64 t247)) (fun _ hk => hk.2) (.int .i64 t248)) (fun _ hk => hk.2) (.slice Ao19 t249.length co19)) (fun _ hk => hk.2) (.slice Ao20 t252.length co20)) (fun _ hk => hk.2) (.int .i64 t255)) (fun _ hk => hk.2) (.string t256)) (fun _ hk => hk.2) (.slice Ao21 t257.length co21)) (fun _ h_ => h_.1)))); (case side4 => exact (Kd.R_reads' HO254.out).2.1); (case side5 => refine (Kd.R_reads' (e := 83) (base := w.heap.size) (ok := fun k_ => True) (n := t257.length) (c := co21) ?_).2.2; exact (by (with_reducible repeat (first | apply r1_ | apply r2_ | apply r3_)); exact (Kd.R_mono (Kd.R_far (p := ⟨gb260, 6, none⟩) (Kd.R_far (p := ⟨gb260, 5, none⟩) (Kd.R_far (p := ⟨gb260, 4, none⟩) (Kd.R_far (p := ⟨gb260, 3, none⟩) (Kd.R_far (p := ⟨gb260, 2, none⟩) (Kd.R_far (p := ⟨gb260, 1, none⟩) (Kd.R_far (p := ⟨gb260, 0, none⟩) (Kd.R_types HO259.out BK260.out (by decide)) (fun _ hk => hk.2) (.int .i64 t247)) (fun _ hk => hk.2) (.int .i64 t248)) (fun _ hk => hk.2) (.slice Ao19 t249.length co19)) (fun _ hk => hk.2) (.slice Ao20 t252.length co20)) (fun _ hk => hk.2) (.int .i64 t255)) (fun _ hk => hk.2) (.string t256)) (fun _ hk => hk.2) (.slice Ao21 t257.length co21)) (fun _ h_ => h_.1)))); (case side6 => exact (Kd.R_reads' HO259.out).2.1); (case side7 => exact Kd.C_nil _ _); (case side8 => exact Nat.le_refl _); rintro e w22 ⟨v262, rfl, ho0, hb⟩; refine ⟨_, rfl, ?_⟩; have n0_ := am_ (Kd.R_below (by (with_reducible repeat (first | apply r1_ | apply r2_ | apply r3_)); exact (Kd.R_mono (Kd.R_far (p := ⟨gb260, 6, none⟩) (Kd.R_far (p := ⟨gb260, 5, none⟩) (Kd.R_far (p := ⟨gb260, 4, none⟩) (Kd.R_far (p := ⟨gb260, 3, none⟩) (Kd.R_far (p := ⟨gb260, 2, none⟩) (Kd.R_far (p := ⟨gb260, 1, none⟩) (Kd.R_far (p := ⟨gb260, 0, none⟩) (Kd.R_types HO251.out BK260.out (by decide)) (fun _ hk => hk.2) (.int .i64 t247)) (fun _ hk => hk.2) (.int .i64 t248)) (fun _ hk => hk.2) (.slice Ao19 t249.length co19)) (fun _ hk => hk.2) (.slice Ao20 t252.length co20)) (fun _ hk => hk.2) (.int .i64 t255)) (fun _ hk => hk.2) (.string t256)) (fun _ hk => hk.2) (.slice Ao21 t257.length co21)) (fun _ h_ => h_.1))) hb); have n1_ := am_ (Kd.R_below (by (with_reducible repeat (first | apply r1_ | apply r2_ | apply r3_)); exact (Kd.R_mono (Kd.R_far (p := ⟨gb260, 6, none⟩) (Kd.R_far (p := ⟨gb260, 5, none⟩) (Kd.R_far (p := ⟨gb260, 4, none⟩) (Kd.R_far (p := ⟨gb260, 3, none⟩) (Kd.R_far (p := ⟨gb260, 2, none⟩) (Kd.R_far (p := ⟨gb260, 1, none⟩) (Kd.R_far (p := ⟨gb260, 0, none⟩) (Kd.R_types HO254.out BK260.out (by decide)) (fun _ hk => hk.2) (.int .i64 t247)) (fun _ hk => hk.2) (.int .i64 t248)) (fun _ hk => hk.2) (.slice Ao19 t249.length co19)) (fun _ hk => hk.2) (.slice Ao20 t252.length co20)) (fun _ hk => hk.2) (.int .i64 t255)) (fun _ hk => hk.2) (.string t256)) (fun _ hk => hk.2) (.slice Ao21 t257.length co21)) (fun _ h_ => h_.1))) hb); have n2_ := am_ (Kd.R_below (by (with_reducible repeat (first | apply r1_ | apply r2_ | apply r3_)); exact (Kd.R_mono (Kd.R_far (p := ⟨gb260, 6, none⟩) (Kd.R_far (p := ⟨gb260, 5, none⟩) (Kd.R_far (p := ⟨gb260, 4, none⟩) (Kd.R_far (p := ⟨gb260, 3, none⟩) (Kd.R_far (p := ⟨gb260, 2, none⟩) (Kd.R_far (p := ⟨gb260, 1, none⟩) (Kd.R_far (p := ⟨gb260, 0, none⟩) (Kd.R_types HO259.out BK260.out (by decide)) (fun _ hk => hk.2) (.int .i64 t247)) (fun _ hk => hk.2) (.int .i64 t248)) (fun _ hk => hk.2) (.slice Ao19 t249.length co19)) (fun _ hk => hk.2) (.slice Ao20 t252.length co20)) (fun _ hk => hk.2) (.int .i64 t255)) (fun _ hk => hk.2) (.string t256)) (fun _ hk => hk.2) (.slice Ao21 t257.length co21)) (fun _ h_ => h_.1))) hb); have n3_ := am_ (Kd.R_lower ho0 (bz_ (by repeat (with_reducible first | exact HB.out | apply p3_ | apply p1_ | apply p2_ | refine bs_ ?_ GE260.out)))); have n4_ := am_ (kb_ (g := gb260) (o := .cells #[.int .i64 t247, .int .i64 t248, .slice Ao19 t249.length co19, .slice Ao20 t252.length co20, .int .i64 t255, .string t256, .slice Ao21 t257.length co21] 26 (0, 0)) (by (with_reducible repeat (first | refine k2_ ?_ _ | refine k3_ ?_ | refine k1_ ?_ _)); refine blk_put (cs := #[.int .i64 t247, .int .i64 t248, .slice Ao19 t249.length co19, .slice Ao20 t252.length co20, .int .i64 t255, .string t256, .slice none 0 0]) ?_ 6 _ rfl; (with_reducible repeat (first | refine k2_ ?_ _ | refine k3_ ?_ | refine k1_ ?_ _)); refine blk_put (cs := #[.int .i64 t247, .int .i64 t248, .slice Ao19 t249.length co19, .slice Ao20 t252.length co20, .int .i64 t255, .string (⟨#[]⟩ : ByteArray), .slice none 0 0]) ?_ 5 _ rfl; (with_reducible repeat (first | refine k2_ ?_ _ | refine k3_ ?_ | refine k1_ ?_ _)); refine blk_put (cs := #[.int .i64 t247, .int .i64 t248, .slice Ao19 t249.length co19, .slice Ao20 t252.length co20, .int .i64 0, .string (⟨#[]⟩ : ByteArray), .slice none 0 0]) ?_ 4 _ rfl; (with_reducible repeat (first | refine k2_ ?_ _ | refine k3_ ?_ | refine k1_ ?_ _)); refine blk_put (cs := #[.int .i64 t247, .int .i64 t248, .slice Ao19 t249.length co19, .slice none 0 0, .int .i64 0, .string (⟨#[]⟩ : ByteArray), .slice none 0 0]) ?_ 3 _ rfl; (with_reducible repeat (first | refine k2_ ?_ _ | refine k3_ ?_ | refine k1_ ?_ _)); refine blk_put (cs := #[.int .i64 t247, .int .i64 t248, .slice none 0 0, .slice none 0 0, .int .i64 0, .string (⟨#[]⟩ : ByteArray), .slice none 0 0]) ?_ 2 _ rfl; (with_reducible repeat (first | refine k2_ ?_ _ | refine k3_ ?_ | refine k1_ ?_ _)); refine blk_put (cs := #[.int .i64 t247, .int .i64 0, .slice none 0 0, .slice none 0 0, .int .i64 0, .string (⟨#[]⟩ : ByteArray), .slice none 0 0]) ?_ 1 _ rfl; (with_reducible repeat (first | refine k2_ ?_ _ | refine k3_ ?_ | refine k1_ ?_ _)); refine blk_put (cs := #[.int .i64 0, .int .i64 0, .slice none 0 0, .slice none 0 0, .int .i64 0, .string (⟨#[]⟩ : ByteArray), .slice none 0 0]) ?_ 0 _ rfl; (with_reducible repeat (first | refine k2_ ?_ _ | refine k3_ ?_ | refine k1_ ?_ _)); exact BK260.out) hb); have n5_ := am_ (bt_ (by repeat (with_reducible first | exact HB.out | apply p3_ | apply p1_ | apply p2_ | refine bs_ ?_ GE260.out)) hb); clear HO251; clear HO254; clear HO259; clear BK260; clear HB; have HO251 := n0_; have HO254 := n1_; have HO259 := n2_; have HO263 := n3_; have BK260 := n4_; have HB := n5_; clear n0_ n1_ n2_ n3_ n4_ n5_; (try clear hb); (try clear ho0); have hcz23_0 : w22.cell? ⟨gb260, 0, none⟩ = some (.int .i64 t247) := (bc_ BK260.out 0).trans rfl; have hcz23_1 : w22.cell? ⟨gb260, 1, none⟩ = some (.int .i64 t248) := (bc_ BK260.out 1).trans rfl; have hcz23_2 : w22.cell? ⟨gb260, 2, none⟩ = some (.slice Ao19 t249.length co19) := (bc_ BK260.out 2).trans rfl; have hcz23_3 : w22.cell? ⟨gb260, 3, none⟩ = some (.slice Ao20 t252.length co20) := (bc_ BK260.out 3).trans rfl; have hcz23_4 : w22.cell? ⟨gb260, 4, none⟩ = some (.int .i64 t255) := (bc_ BK260.out 4).trans rfl; have hcz23_5 : w22.cell? ⟨gb260, 5, none⟩ = some (.string t256) := (bc_ BK260.out 5).trans rfl; have hcz23_6 : w22.cell? ⟨gb260, 6, none⟩ = some (.slice Ao21 t257.length co21) := (bc_ BK260.out 6).trans rfl; have hfz23_0 := bf_ BK260.out 0; have hfz23_1 := bf_ BK260.out 1; have hfz23_2 := bf_ BK260.out 2; have hfz23_3 := bf_ BK260.out 3; have hfz23_4 := bf_ BK260.out 4; have hfz23_5 := bf_ BK260.out 5; have hfz23_6 := bf_ BK260.out 6; obtain ⟨Ao24, co24, eo24⟩ := Kd.R_slice HO263.out; subst eo24) | ((with_reducible refine gate_callee (f := 7) rfl ?_); refine goesL_ (some 21) rfl rfl Tryz.func7 (by kernel_rfl) rfl #[.agg #[.int .i64 t247, .int .i64 t248, .slice Ao19 t249.length co19, .slice Ao20 t252.length co20, .int .i64 t255, .string t256, .slice Ao21 t257.length co21], .slice Ao24 t261.length co24, .int .i64 6, .string (⟨#[109, 101]⟩ : ByteArray), .int .i64 11] rfl (by (try simp only [List.map_toArray, List.map_cons, List.map_nil]); first | done | rfl | (simp only [List.length_drop, List.length_take]; rfl)) ?_; (with_reducible refine (offer_Offer.calls t247 t248 _ _ t249 _ _ t252 t255 t256 _ _ t257 _ _ t261 6 (⟨#[109, 101]⟩ : ByteArray) 11 t266 t269 t270 _ ?side1 ?side2 ?side3 ?side4 ?side5 ?side6 ?side7 ?side8 A3.out).mono ?_); (case side1 => repeat (first | exact (Kd.R_reads' HO251.out).2.2 | (with_reducible refine c1_ ?_ _) | (with_reducible refine c2_ ?_ _) | (with_reducible refine c3_ ?_))); (case side2 => exact (Kd.R_reads' HO251.out).2.1); (case side3 => repeat (first | exact (Kd.R_reads' HO254.out).2.2 | (with_reducible refine c1_ ?_ _) | (with_reducible refine c2_ ?_ _) | (with_reducible refine c3_ ?_))); (case side4 => exact (Kd.R_reads' HO254.out).2.1); (case side5 => repeat (first | exact (Kd.R_reads' HO259.out).2.2 | (with_reducible refine c1_ ?_ _) | (with_reducible refine c2_ ?_ _) | (with_reducible refine c3_ ?_))); (case side6 => exact (Kd.R_reads' HO259.out).2.1); (case side7 => repeat (first | exact (Kd.R_reads' HO263.out).2.2 | (with_reducible refine c1_ ?_ _) | (with_reducible refine c2_ ?_ _) | (with_reducible refine c3_ ?_))); (case side8 => exact (Kd.R_reads' HO263.out).2.1); rintro e w25 ⟨v267, rfl, ho0, hb⟩; refine ⟨_, rfl, ?_⟩; have n0_ := am_ (Kd.R_below (by (with_reducible repeat (first | apply r1_ | apply r2_ | apply r3_)); exact HO251.out) hb); have n1_ := am_ (Kd.R_below (by (with_reducible repeat (first | apply r1_ | apply r2_ | apply r3_)); exact HO254.out) hb); have n2_ := am_ (Kd.R_below (by (with_reducible repeat (first | apply r1_ | apply r2_ | apply r3_)); exact HO259.out) hb); have n3_ := am_ (r5_ (by (with_reducible repeat (first | apply r1_ | apply r2_ | apply r3_)); exact HO263.out) (r4_ ho0) hb); have n4_ := am_ (Kd.R_lower (Kd.R_new' ho0 (Kd.R_lt (by (with_reducible repeat (first | apply r1_ | apply r2_ | apply r3_)); exact HO263.out))) (bz_ (by repeat (with_reducible first | exact HB.out | apply p3_ | apply p1_ | apply p2_ | refine bs_ ?_ GE260.out)))); have n5_ := am_ (kb_ (g := gb260) (o := .cells #[.int .i64 t247, .int .i64 t248, .slice Ao19 t249.length co19, .slice Ao20 t252.length co20, .int .i64 t255, .string t256, .slice Ao21 t257.length co21] 26 (0, 0)) (by (with_reducible repeat (first | refine k2_ ?_ _ | refine k3_ ?_ | refine k1_ ?_ _)); exact BK260.out) hb); have n6_ := am_ (bt_ (by repeat (with_reducible first | exact HB.out | apply p3_ | apply p1_ | apply p2_ | refine bs_ ?_ GE260.out)) hb); clear HO251; clear HO254; clear HO259; clear HO263; clear BK260; clear HB; have HO251 := n0_; have HO254 := n1_; have HO259 := n2_; have HO263 := n3_; have HO268 := n4_; have BK260 := n5_; have HB := n6_; clear n0_ n1_ n2_ n3_ n4_ n5_ n6_; (try clear hb); (try clear ho0); have hcz26_0 : w25.cell? ⟨gb260, 0, none⟩ = some (.int .i64 t247) := (bc_ BK260.out 0).trans rfl; have hcz26_1 : w25.cell? ⟨gb260, 1, none⟩ = some (.int .i64 t248) := (bc_ BK260.out 1).trans rfl; have hcz26_2 : w25.cell? ⟨gb260, 2, none⟩ = some (.slice Ao19 t249.length co19) := (bc_ BK260.out 2).trans rfl; have hcz26_3 : w25.cell? ⟨gb260, 3, none⟩ = some (.slice Ao20 t252.length co20) := (bc_ BK260.out 3).trans rfl; have hcz26_4 : w25.cell? ⟨gb260, 4, none⟩ = some (.int .i64 t255) := (bc_ BK260.out 4).trans rfl; have hcz26_5 : w25.cell? ⟨gb260, 5, none⟩ = some (.string t256) := (bc_ BK260.out 5).trans rfl; have hcz26_6 : w25.cell? ⟨gb260, 6, none⟩ = some (.slice Ao21 t257.length co21) := (bc_ BK260.out 6).trans rfl; have hfz26_0 := bf_ BK260.out 0; have hfz26_1 := bf_ BK260.out 1; have hfz26_2 := bf_ BK260.out 2; have hfz26_3 := bf_ BK260.out 3; have hfz26_4 := bf_ BK260.out 4; have hfz26_5 := bf_ BK260.out 5; have hfz26_6 := bf_ BK260.out 6) | ((with_reducible refine gate_callee (f := 7) rfl ?_); refine goesL_ (some 28) rfl rfl Tryz.func7 (by kernel_rfl) rfl #[.agg #[.int .i64 t247, .int .i64 t248, .slice Ao19 t249.length co19, .slice Ao20 t252.length co20, .int .i64 t255, .string t256, .slice Ao21 t257.length co21], .slice Ao24 t261.length co24, .int .i64 6, .string (⟨#[]⟩ : ByteArray), .int .i64 0] rfl (by (try simp only [List.map_toArray, List.map_cons, List.map_nil]); first | done | rfl | (simp only [List.length_drop, List.length_take]; rfl)) ?_; (with_reducible refine (offer_Offer.calls t247 t248 _ _ t249 _ _ t252 t255 t256 _ _ t257 _ _ t261 6 (⟨#[]⟩ : ByteArray) 0 t271 t274 t275 _ ?side1 ?side2 ?side3 ?side4 ?side5 ?side6 ?side7 ?side8 A4.out).mono ?_); (case side1 => repeat (first | exact (Kd.R_reads' HO251.out).2.2 | (with_reducible refine c1_ ?_ _) | (with_reducible refine c2_ ?_ _) | (with_reducible refine c3_ ?_))); (case side2 => exact (Kd.R_reads' HO251.out).2.1); (case side3 => repeat (first | exact (Kd.R_reads' HO254.out).2.2 | (with_reducible refine c1_ ?_ _) | (with_reducible refine c2_ ?_ _) | (with_reducible refine c3_ ?_))); (case side4 => exact (Kd.R_reads' HO254.out).2.1); (case side5 => repeat (first | exact (Kd.R_reads' HO259.out).2.2 | (with_reducible refine c1_ ?_ _) | (with_reducible refine c2_ ?_ _) | (with_reducible refine c3_ ?_))); (case side6 => exact (Kd.R_reads' HO259.out).2.1); (case side7 => repeat (first | exact (Kd.R_reads' HO263.out).2.2 | (with_reducible refine c1_ ?_ _) | (with_reducible refine c2_ ?_ _) | (with_reducible refine c3_ ?_))); (case side8 => exact (Kd.R_reads' HO263.out).2.1); rintro e w27 ⟨v272, rfl, ho0, hb⟩; refine ⟨_, rfl, ?_⟩; have n0_ := am_ (Kd.R_below (by (with_reducible repeat (first | apply r1_ | apply r2_ | apply r3_)); exact HO251.out) hb); have n1_ := am_ (Kd.R_below (by (with_reducible repeat (first | apply r1_ | apply r2_ | apply r3_)); exact HO254.out) hb); have n2_ := am_ (Kd.R_below (by (with_reducible repeat (first | apply r1_ | apply r2_ | apply r3_)); exact HO259.out) hb); have n3_ := am_ (r5_ (by (with_reducible repeat (first | apply r1_ | apply r2_ | apply r3_)); exact HO263.out) (r4_ ho0) hb); have n4_ := am_ (r5_ (by (with_reducible repeat (first | apply r1_ | apply r2_ | apply r3_)); exact HO268.out) (r4_ ho0) hb); have n5_ := am_ (Kd.R_lower (Kd.R_new' (Kd.R_new' ho0 (Kd.R_lt (by (with_reducible repeat (first | apply r1_ | apply r2_ | apply r3_)); exact HO263.out))) (Kd.R_lt (by (with_reducible repeat (first | apply r1_ | apply r2_ | apply r3_)); exact HO268.out))) (bz_ (by repeat (with_reducible first | exact HB.out | apply p3_ | apply p1_ | apply p2_ | refine bs_ ?_ GE260.out)))); have n6_ := am_ (kb_ (g := gb260) (o := .cells #[.int .i64 t247, .int .i64 t248, .slice Ao19 t249.length co19, .slice Ao20 t252.length co20, .int .i64 t255, .string t256, .slice Ao21 t257.length co21] 26 (0, 0)) (by (with_reducible repeat (first | refine k2_ ?_ _ | refine k3_ ?_ | refine k1_ ?_ _)); exact BK260.out) hb); have n7_ := am_ (bt_ (by repeat (with_reducible first | exact HB.out | apply p3_ | apply p1_ | apply p2_ | refine bs_ ?_ GE260.out)) hb); clear HO251; clear HO254; clear HO259; clear HO263; clear HO268; clear BK260; clear HB; have HO251 := n0_; have HO254 := n1_; have HO259 := n2_; have HO263 := n3_; have HO268 := n4_; have HO273 := n5_; have BK260 := n6_; have HB := n7_; clear n0_ n1_ n2_ n3_ n4_ n5_ n6_ n7_; (try clear hb); (try clear ho0)) | ((with_reducible refine gate_dst (N := 34) rfl ?_); (try (refine gate_guard (by rfl) ?_; dsimp only)); refine Kd.R_lit k44 _ 44 ?hg (N := 34) ?hd (xs := ([(⟨10, 1, (⟨#[109, 101]⟩ : ByteArray), 13, (⟨#[]⟩ : ByteArray), false⟩ : S44)] : List (S44))) (inner := [.int .i64 10, .int .i64 1, .string (⟨#[109, 101]⟩ : ByteArray), .int .i64 13, .string (⟨#[]⟩ : ByteArray), .bool false]) (ok := fun _ => True) (okp := fun _ => True) ?hr ?hp (fun _ hk => hk) trivial (Below.refl _ _) (Nat.le_refl _) (by simp) ?_; (case hd => rfl); (case hg => rfl); (case hr => first | (go_simp; done) | (go_simp; rfl)); (case hp => exact (Reps.c6 (show Kd.M k44 _ _ _ (⟨10, 1, (⟨#[109, 101]⟩ : ByteArray), 13, (⟨#[]⟩ : ByteArray), false⟩ : S44) [.int .i64 10, .int .i64 1, .string (⟨#[109, 101]⟩ : ByteArray), .int .i64 13, .string (⟨#[]⟩ : ByteArray), .bool false] from (k44_mkM _ _ _ (⟨10, 1, (⟨#[109, 101]⟩ : ByteArray), 13, (⟨#[]⟩ : ByteArray), false⟩ : S44) )) (Reps.none _ _))); intro v277 w28 ho29 hb hg_ hnew_; clear hg_ hnew_; (first | rw [← Ny276.out] at ho29 | (simp only [Int.reduceToNat] at ho29; rw [← Ny276.out] at ho29)); have n0_ := am_ (Kd.R_below (by (with_reducible repeat (first | apply r1_ | apply r2_ | apply r3_)); exact HO251.out) hb); have n1_ := am_ (Kd.R_below (by (with_reducible repeat (first | apply r1_ | apply r2_ | apply r3_)); exact HO254.out) hb); have n2_ := am_ (Kd.R_below (by (with_reducible repeat (first | apply r1_ | apply r2_ | apply r3_)); exact HO259.out) hb); have n3_ := am_ (r5_ (by (with_reducible repeat (first | apply r1_ | apply r2_ | apply r3_)); exact HO263.out) (r4_ ho29) hb); have n4_ := am_ (r5_ (by (with_reducible repeat (first | apply r1_ | apply r2_ | apply r3_)); exact HO268.out) (r4_ ho29) hb); have n5_ := am_ (r5_ (by (with_reducible repeat (first | apply r1_ | apply r2_ | apply r3_)); exact HO273.out) (r4_ ho29) hb); have n6_ := am_ (Kd.R_lower (Kd.R_new' (Kd.R_new' (Kd.R_new' ho29 (Kd.R_lt (by (with_reducible repeat (first | apply r1_ | apply r2_ | apply r3_)); exact HO263.out))) (Kd.R_lt (by (with_reducible repeat (first | apply r1_ | apply r2_ | apply r3_)); exact HO268.out))) (Kd.R_lt (by (with_reducible repeat (first | apply r1_ | apply r2_ | apply r3_)); exact HO273.out))) (bz_ (by repeat (with_reducible first | exact HB.out | apply p3_ | apply p1_ | apply p2_ | refine bs_ ?_ GE260.out)))); have n7_ := am_ (kb_ (g := gb260) (o := .cells #[.int .i64 t247, .int .i64 t248, .slice Ao19 t249.length co19, .slice Ao20 t252.length co20, .int .i64 t255, .string t256, .slice Ao21 t257.length co21] 26 (0, 0)) (by (with_reducible repeat (first | refine k2_ ?_ _ | refine k3_ ?_ | refine k1_ ?_ _)); exact BK260.out) hb); have n8_ := am_ (bt_ (by repeat (with_reducible first | exact HB.out | apply p3_ | apply p1_ | apply p2_ | refine bs_ ?_ GE260.out)) hb); clear HO251; clear HO254; clear HO259; clear HO263; clear HO268; clear HO273; clear BK260; clear HB; have HO251 := n0_; have HO254 := n1_; have HO259 := n2_; have HO263 := n3_; have HO268 := n4_; have HO273 := n5_; have HO278 := n6_; have BK260 := n7_; have HB := n8_; clear n0_ n1_ n2_ n3_ n4_ n5_ n6_ n7_ n8_; clear hb ho29; obtain ⟨Ao30, co30, eo30⟩ := Kd.R_slice HO278.out; subst eo30) | ((with_reducible refine gate_callee (f := 9) rfl ?_); refine goesL_ (some 35) rfl rfl Tryz.func9 (by kernel_rfl) rfl #[.slice Ao24 t261.length co24, .slice Ao30 y276.length co30] rfl (by (try simp only [List.map_toArray, List.map_cons, List.map_nil]); first | done | rfl | (simp only [List.length_drop, List.length_take]; rfl)) ?_; (with_reducible refine (pinfoldlaw0_SameLeases.calls k _ _ t261 _ _ y276 true _ ?side1 ?side2 ?side3 ?side4 A5.out).mono ?_); (case side1 => repeat (first | exact (Kd.R_reads' HO263.out).2.2 | (with_reducible refine c1_ ?_ _) | (with_reducible refine c2_ ?_ _) | (with_reducible refine c3_ ?_))); (case side2 => exact (Kd.R_reads' HO263.out).2.1); (case side3 => repeat (first | exact (Kd.R_reads' HO278.out).2.2 | (with_reducible refine c1_ ?_ _) | (with_reducible refine c2_ ?_ _) | (with_reducible refine c3_ ?_))); (case side4 => exact (Kd.R_reads' HO278.out).2.1); rintro e w' ⟨rfl, ⟨nd, rfl⟩⟩; refine ⟨_, rfl, ?_⟩) | (go_at_call 10; (with_reducible refine (pinfoldlaw0_Num.calls t265 t280 _ A8.out).mono ?_); rintro e w' ⟨rfl, ⟨nd, rfl⟩⟩) | ((with_reducible refine gate_dst (N := 48) rfl ?_); (try (refine gate_guard (by rfl) ?_; dsimp only)); refine Kd.R_lit k44 _ 44 ?hg (N := 48) ?hd (xs := ([(⟨10, 1, (⟨#[109, 101]⟩ : ByteArray), 14, (⟨#[]⟩ : ByteArray), false⟩ : S44)] : List (S44))) (inner := [.int .i64 10, .int .i64 1, .string (⟨#[109, 101]⟩ : ByteArray), .int .i64 14, .string (⟨#[]⟩ : ByteArray), .bool false]) (ok := fun _ => True) (okp := fun _ => True) ?hr ?hp (fun _ hk => hk) trivial (Below.refl _ _) (Nat.le_refl _) (by simp) ?_; (case hd => rfl); (case hg => rfl); (case hr => first | (go_simp; done) | (go_simp; rfl)); (case hp => exact (Reps.c6 (show Kd.M k44 _ _ _ (⟨10, 1, (⟨#[109, 101]⟩ : ByteArray), 14, (⟨#[]⟩ : ByteArray), false⟩ : S44) [.int .i64 10, .int .i64 1, .string (⟨#[109, 101]⟩ : ByteArray), .int .i64 14, .string (⟨#[]⟩ : ByteArray), .bool false] from (k44_mkM _ _ _ (⟨10, 1, (⟨#[109, 101]⟩ : ByteArray), 14, (⟨#[]⟩ : ByteArray), false⟩ : S44) )) (Reps.none _ _))); intro v282 w31 ho32 hb hg_ hnew_; clear hg_ hnew_; (first | rw [← Ny281.out] at ho32 | (simp only [Int.reduceToNat] at ho32; rw [← Ny281.out] at ho32)); have n0_ := am_ (Kd.R_below (by (with_reducible repeat (first | apply r1_ | apply r2_ | apply r3_)); exact HO251.out) hb); have n1_ := am_ (Kd.R_below (by (with_reducible repeat (first | apply r1_ | apply r2_ | apply r3_)); exact HO254.out) hb); have n2_ := am_ (Kd.R_below (by (with_reducible repeat (first | apply r1_ | apply r2_ | apply r3_)); exact HO259.out) hb); have n3_ := am_ (r5_ (by (with_reducible repeat (first | apply r1_ | apply r2_ | apply r3_)); exact HO263.out) (r4_ ho32) hb); have n4_ := am_ (r5_ (by (with_reducible repeat (first | apply r1_ | apply r2_ | apply r3_)); exact HO268.out) (r4_ ho32) hb); have n5_ := am_ (r5_ (by (with_reducible repeat (first | apply r1_ | apply r2_ | apply r3_)); exact HO273.out) (r4_ ho32) hb); have n6_ := am_ (r5_ (by (with_reducible repeat (first | apply r1_ | apply r2_ | apply r3_)); exact HO278.out) (r4_ ho32) hb); have n7_ := am_ (Kd.R_lower (Kd.R_new' (Kd.R_new' (Kd.R_new' (Kd.R_new' ho32 (Kd.R_lt (by (with_reducible repeat (first | apply r1_ | apply r2_ | apply r3_)); exact HO263.out))) (Kd.R_lt (by (with_reducible repeat (first | apply r1_ | apply r2_ | apply r3_)); exact HO268.out))) (Kd.R_lt (by (with_reducible repeat (first | apply r1_ | apply r2_ | apply r3_)); exact HO273.out))) (Kd.R_lt (by (with_reducible repeat (first | apply r1_ | apply r2_ | apply r3_)); exact HO278.out))) (bz_ (by repeat (with_reducible first | exact HB.out | apply p3_ | apply p1_ | apply p2_ | refine bs_ ?_ GE260.out)))); have n8_ := am_ (kb_ (g := gb260) (o := .cells #[.int .i64 t247, .int .i64 t248, .slice Ao19 t249.length co19, .slice Ao20 t252.length co20, .int .i64 t255, .string t256, .slice Ao21 t257.length co21] 26 (0, 0)) (by (with_reducible repeat (first | refine k2_ ?_ _ | refine k3_ ?_ | refine k1_ ?_ _)); exact BK260.out) hb); have n9_ := am_ (bt_ (by repeat (with_reducible first | exact HB.out | apply p3_ | apply p1_ | apply p2_ | refine bs_ ?_ GE260.out)) hb); clear HO251; clear HO254; clear HO259; clear HO263; clear HO268; clear HO273; clear HO278; clear BK260; clear HB; have HO251 := n0_; have HO254 := n1_; have HO259 := n2_; have HO263 := n3_; have HO268 := n4_; have HO273 := n5_; have HO278 := n6_; have HO283 := n7_; have BK260 := n8_; have HB := n9_; clear n0_ n1_ n2_ n3_ n4_ n5_ n6_ n7_ n8_ n9_; clear hb ho32; obtain ⟨Ao33, co33, eo33⟩ := Kd.R_slice HO268.out; subst eo33; obtain ⟨Ao34, co34, eo34⟩ := Kd.R_slice HO283.out; subst eo34) | (go_at_call 9; (with_reducible refine (pinfoldlaw0_SameLeases.calls k _ _ t266 _ _ y281 true _ ?side1 ?side2 ?side3 ?side4 A10.out).mono ?_); (case side1 => repeat (first | exact (Kd.R_reads' HO268.out).2.2 | (with_reducible refine c1_ ?_ _) | (with_reducible refine c2_ ?_ _) | (with_reducible refine c3_ ?_))); (case side2 => exact (Kd.R_reads' HO268.out).2.1); (case side3 => repeat (first | exact (Kd.R_reads' HO283.out).2.2 | (with_reducible refine c1_ ?_ _) | (with_reducible refine c2_ ?_ _) | (with_reducible refine c3_ ?_))); (case side4 => exact (Kd.R_reads' HO283.out).2.1); rintro e w' ⟨rfl, ⟨nd, rfl⟩⟩) | (go_at_call 10; (with_reducible refine (pinfoldlaw0_Num.calls t270 t285 _ A13.out).mono ?_); rintro e w' ⟨rfl, ⟨nd, rfl⟩⟩) | (go_at_call 10; (with_reducible refine (pinfoldlaw0_Num.calls t275 t286 _ A15.out).mono ?_); rintro e w' ⟨rfl, ⟨nd, rfl⟩⟩))
   go_ret
   exact ⟨by first | rfl | (simp [errW_none, errW_some] <;> rfl) | (simp [*, errW_none, errW_some] <;> rfl), by repeat (with_reducible first | exact HB.out | apply p3_ | apply p1_ | apply p2_ | refine bs_ ?_ GE260.out)⟩
  replace c11 := e3_ c11
  subst c11
  have H1 : (none) = some r := by rw [if_neg (show ¬ (false = true) by decide)] at H; exact H
  clear H
  have H := H1
  clear H1
  exact absurd H (by simp)
 replace c6 := e3_ c6
 subst c6
 have H1 : (none) = some r := by rw [if_neg (show ¬ (false = true) by decide)] at H; exact H
 clear H
 have H := H1
 clear H1
 exact absurd H (by simp)

end Go.Proofs.YtdhckibkljafgaaGreatDoor.PI
