-- Made by wip/pr.py out of the translation (a turned copy of the kit's print; contracts by hand where said).
import Derived.Test.YtibmakpghbinbaaPSx0
import Derived.Test.YtibmakpghbinbaaPSx2
import Derived.Test.YtibmakpghbinbaaPSx4
import Derived.Test.YtibmakpghbinbaaPSx5
import Derived.Test.YtibmakpghbinbaaPSx6
import Derived.Test.YtibmakpghbinbaaPSx8
namespace Go.Proofs.Ytibmakpghbinbaa.PS
open Go.RowKit Go.Proofs.YtibmakpghbinbaaW.PrintWords Go.Proofs.YtibmakpghbinbaaW.PrintLast Go.Proofs.YtibmakpghbinbaaW.PrintMore
-- shrunk
attribute [local go_sem] max2_int min2_int max_two min_two max_three min_three max_four min_four   -- for this text's walks alone
set_option linter.unusedVariables false
set_option linter.unusedSimpArgs false

/-! ### pinfoldref11_Reserved: function 47 -/
-- BY HAND
-- 75
def pinfoldref11_Reserved_c.f (a0_0 : Int) (a0_1 : Int) (l0_2 : List Int) (l0_3 : List S118) (a0_4 : Int) (a0_5 : ByteArray) (l0_6 : List S139) (a1 : ByteArray) : Option (Int × Bool) := if confFitR l0_2 l0_3 a0_5 l0_6 then some (foundH (reservR a0_0 a0_1 l0_2 l0_3 a0_4 a0_5 l0_6 a1), foundIs (reservR a0_0 a0_1 l0_2 l0_3 a0_4 a0_5 l0_6 a1)) else none
set_option maxHeartbeats 8000000 in
set_option maxRecDepth 100000 in
theorem pinfoldref11_Reserved_c.calls (a0_0 : Int) (a0_1 : Int) (A0_2 : Option Addr) (c0_2 : Nat) (l0_2 : List Int) (A0_3 : Option Addr) (c0_3 : Nat) (l0_3 : List S118) (a0_4 : Int) (a0_5 : ByteArray) (A0_6 : Option Addr) (c0_6 : Nat) (l0_6 : List S139) (a1 : ByteArray) (r1 : Int) (r2 : Bool) (w : World) (hr0_2 : Kd.C (Kd.int .i64) w A0_2 l0_2.length l0_2) (hc0_2 : l0_2.length ≤ c0_2) (hr0_3 : Kd.C k118 w A0_3 l0_3.length l0_3) (hc0_3 : l0_3.length ≤ c0_3) (hr0_6 : Kd.C k139 w A0_6 l0_6.length l0_6) (hc0_6 : l0_6.length ≤ c0_6) (h : pinfoldref11_Reserved_c.f a0_0 a0_1 l0_2 l0_3 a0_4 a0_5 l0_6 a1 = some (r1, r2)) :
  Calls Try.prog 47 #[.agg #[.int .i64 a0_0, .int .i64 a0_1, .slice A0_2 l0_2.length c0_2, .slice A0_3 l0_3.length c0_3, .int .i64 a0_4, .string a0_5, .slice A0_6 l0_6.length c0_6], .string a1] w fun e w' => e = .returned (.tuple #[.int .i64 r1, .bool r2]) ∧ Below w.heap.size w w' := by
 unfold pinfoldref11_Reserved_c.f at h
 by_cases hs : confFitR l0_2 l0_3 a0_5 l0_6
 rotate_left
 ·rw [if_neg hs] at h
  cases h
 rw [if_pos hs] at h
 simp only [Option.some.injEq, Prod.mk.injEq] at h
 obtain ⟨hR1, hR2⟩ := h
 obtain ⟨b1, h1⟩ : ∃ b, confB a0_0 a0_1 l0_2 l0_3 a0_4 a0_5 l0_6 = b := ⟨_, rfl⟩
 have C1 := am_ (fun W (hb : Below w.heap.size w W) => pinfoldref11_ConfMay.calls a0_0 a0_1 A0_2 c0_2 l0_2 A0_3 c0_3 l0_3 a0_4 a0_5 A0_6 c0_6 l0_6 b1 W (c4_ hr0_2 hb) hc0_2 (c4_ hr0_3 hb) hc0_3 (c4_ hr0_6 hb) hc0_6 (by unfold pinfoldref11_ConfMay.f; rw [if_pos hs, h1]))
 obtain ⟨o, ho⟩ : ∃ o, findS (fun x => x.f0.toList == a1.toList) b1 l0_3 = o := ⟨_, rfl⟩
 have ho2 : reservR a0_0 a0_1 l0_2 l0_3 a0_4 a0_5 l0_6 a1 = o := by rw [← ho, ← h1]; rfl
 rw [ho2] at hR1 hR2
 replace HR1 := am_ hR1
 replace HR2 := am_ hR2
 have HO := am_ (show findS (fun x => x.f0.toList == a1.toList) b1 (l0_3.drop (0 : Int).toNat) = o from ho)
 have hl := hs.2.1
 have HK3 := am_ hr0_3
 have HB := am_ (Below.refl w.heap.size w)
 have BK := am_ (blk_new w (.cells #[.int .i64 a0_0, .int .i64 a0_1, .slice A0_2 l0_2.length c0_2, .slice A0_3 l0_3.length c0_3, .int .i64 a0_4, .string a0_5, .slice A0_6 l0_6.length c0_6] 26))
 clear hR1 hR2 ho ho2 hs h1 hr0_2 hr0_3 hr0_6 hc0_2 hc0_3 hc0_6
 go_enter Try.func47, Try.ntmps47
 go_wp2
 replace HB := am_ (p3_ HB.out (.cells #[.int .i64 a0_0, .int .i64 a0_1, .slice A0_2 l0_2.length c0_2, .slice A0_3 l0_3.length c0_3, .int .i64 a0_4, .string a0_5, .slice A0_6 l0_6.length c0_6] 26))
 go_loopg [6] l0_3.length (fun d v w' => ∃ i : Int, 0 ≤ i ∧ i.toNat + d = l0_3.length ∧ v = .int .i64 i ∧ Aside0 (Below w.heap.size w w') ∧ Aside0 (w'.heap[w.heap.size]? = some (.cells #[.int .i64 a0_0, .int .i64 a0_1, .slice A0_2 l0_2.length c0_2, .slice A0_3 l0_3.length c0_3, .int .i64 a0_4, .string a0_5, .slice A0_6 l0_6.length c0_6] 26)) ∧ Aside0 (findS (fun x => x.f0.toList == a1.toList) b1 (l0_3.drop i.toNat) = o))
 case atStart => exact ⟨0, by omega, by simp, rfl, HB, BK, HO⟩
 case round =>
  clear HB BK HO
  obtain ⟨i, hi0, hd, rfl, HB, BK, HO⟩ := hrel
  have u0 := bc_ BK.out 0
  have u1 := bc_ BK.out 1
  have u2 := bc_ BK.out 2
  have u3 := bc_ BK.out 3
  have u4 := bc_ BK.out 4
  have u5 := bc_ BK.out 5
  have u6 := bc_ BK.out 6
  by_cases hlt : i < (l0_3.length : Int)
  ·cases b1 with
   | false =>
    have e1 := am_ (show 0 = r1 by rw [← HR1.out, ← HO.out]; rfl)
    have e2 := am_ (show false = r2 by rw [← HR2.out, ← HO.out]; rfl)
    clear HR1 HR2 HO HK3
    go_wp2_with (first | (go_at_call 75; (with_reducible refine (C1.out _ (by repeat (with_reducible first | exact HB.out | apply p3_ | apply p1_ | apply p2_))).mono ?_); rintro e w1 ⟨rfl, hb2⟩; replace BK := am_ (kb_ (show _ from (by (with_reducible repeat (first | exact BK.out | refine k2_ ?_ _ | refine k3_ ?_ | refine k1_ ?_ _)))) hb2); replace HB := am_ (bt_ (show Below w.heap.size w _ from (by repeat (with_reducible first | exact HB.out | apply p3_ | apply p1_ | apply p2_))) hb2); clear hb2; clear u0 u1 u2 u3 u4 u5 u6))
    go_ret2
    exact ⟨by rw [← e1.out, ← e2.out] <;> rfl, HB.out⟩
   | true =>
   obtain ⟨ad, e1, hx0, hx1⟩ := at_T118 HK3.out i hi0 hlt
   cases e1
   have ho := HO.out
   rw [dropRs_ l0_3 i hi0 hlt] at ho
   clear HO
   generalize rd_T118 l0_3 i = x at hx0 hx1 ho
   obtain ⟨x0, x1⟩ := x
   simp only at hx0 hx1
   unfold findS at ho
   rw [if_pos rfl, List.find?_cons] at ho
   replace hx0 := am_ hx0
   replace hx1 := am_ hx1
   by_cases q : x0.toList = a1.toList
   ·have qb : (x0.toList == a1.toList) = true := by simpa using q
    simp only [qb] at ho
    have e1 := am_ (show x1 = r1 by rw [← HR1.out, ← ho]; rfl)
    have e2 := am_ (show true = r2 by rw [← HR2.out, ← ho]; rfl)
    clear HR1 HR2 ho q HK3
    go_wp2_with (first | (go_at_call 75; (with_reducible refine (C1.out _ (by repeat (with_reducible first | exact HB.out | apply p3_ | apply p1_ | apply p2_))).mono ?_); rintro e w1 ⟨rfl, hb2⟩; replace BK := am_ (kb_ (show _ from (by (with_reducible repeat (first | exact BK.out | refine k2_ ?_ _ | refine k3_ ?_ | refine k1_ ?_ _)))) hb2); replace HB := am_ (bt_ (show Below w.heap.size w _ from (by repeat (with_reducible first | exact HB.out | apply p3_ | apply p1_ | apply p2_))) hb2); clear hb2; clear u0 u1 u2 u3 u4 u5 u6; have u0 := bc_ BK.out 0; have u1 := bc_ BK.out 1; have u2 := bc_ BK.out 2; have u3 := bc_ BK.out 3; have u4 := bc_ BK.out 4; have u5 := bc_ BK.out 5; have u6 := bc_ BK.out 6; have y0 := (HB.out.cell (wb_ w _ hx0.out)).trans hx0.out; have y1 := (HB.out.cell (wb_ w _ hx1.out)).trans hx1.out))
    go_ret2
    exact ⟨by rw [← e1.out, ← e2.out] <;> rfl, HB.out⟩
   ·have qb : (x0.toList == a1.toList) = false := by simpa using q
    simp only [qb] at ho
    have HN := am_ (show findS (fun x => x.f0.toList == a1.toList) true (l0_3.drop (i + 1).toNat) = o by rw [show (i + 1).toNat = i.toNat + 1 by omega]; unfold findS; rw [if_pos rfl]; exact ho)
    clear ho q
    go_wp2_with (first | (go_at_call 75; (with_reducible refine (C1.out _ (by repeat (with_reducible first | exact HB.out | apply p3_ | apply p1_ | apply p2_))).mono ?_); rintro e w1 ⟨rfl, hb2⟩; replace BK := am_ (kb_ (show _ from (by (with_reducible repeat (first | exact BK.out | refine k2_ ?_ _ | refine k3_ ?_ | refine k1_ ?_ _)))) hb2); replace HB := am_ (bt_ (show Below w.heap.size w _ from (by repeat (with_reducible first | exact HB.out | apply p3_ | apply p1_ | apply p2_))) hb2); clear hb2; clear u0 u1 u2 u3 u4 u5 u6; have u0 := bc_ BK.out 0; have u1 := bc_ BK.out 1; have u2 := bc_ BK.out 2; have u3 := bc_ BK.out 3; have u4 := bc_ BK.out 4; have u5 := bc_ BK.out 5; have u6 := bc_ BK.out 6; have y0 := (HB.out.cell (wb_ w _ hx0.out)).trans hx0.out; have y1 := (HB.out.cell (wb_ w _ hx1.out)).trans hx1.out))
    go_roundg (l0_3.length - (i.toNat + 1))
    case measure => first | omega | (simp; omega)
    case rel => exact ⟨i + 1, by omega, by omega, by go_num, HB, BK, HN⟩
  ·have ho := HO.out
   rw [List.drop_eq_nil_of_le (by omega)] at ho
   have e1 := am_ (show 0 = r1 by rw [← HR1.out, ← ho]; cases b1 <;> rfl)
   have e2 := am_ (show false = r2 by rw [← HR2.out, ← ho]; cases b1 <;> rfl)
   clear HR1 HR2 ho HO HK3
   go_wp2
   go_ret2
   exact ⟨by rw [← e1.out, ← e2.out] <;> rfl, HB.out⟩

/-! ### pinfoldref11_Pick: function 15 -/
-- BY HAND
-- 45 23 46 47 48 21
def pinfoldref11_Pick.S (pb : Addr) (x0 x1 : Int) (x2 : ByteArray) (x3 : Int) (x4 : ByteArray) (x5 : Bool) (g : Nat) (a0_0 a0_1 : Int) (A0_2 : Option Addr) (n0_2 c0_2 : Nat) (A0_3 : Option Addr) (n0_3 c0_3 : Nat) (a0_4 : Int) (a0_5 : ByteArray) (A0_6 : Option Addr) (n0_6 c0_6 : Nat) (w' : World) : Prop := w'.cell? pb = some (.int .i64 x0) ∧ w'.cell? ⟨pb.block, pb.off + 1, none⟩ = some (.int .i64 x1) ∧ w'.cell? ⟨pb.block, pb.off + 2, none⟩ = some (.string x2) ∧ w'.cell? ⟨pb.block, pb.off + 3, none⟩ = some (.int .i64 x3) ∧ w'.cell? ⟨pb.block, pb.off + 4, none⟩ = some (.string x4) ∧ w'.cell? ⟨pb.block, pb.off + 5, none⟩ = some (.bool x5) ∧ w'.cell? ⟨g, 0, none⟩ = some (.int .i64 a0_0) ∧ w'.cell? ⟨g, 1, none⟩ = some (.int .i64 a0_1) ∧ w'.cell? ⟨g, 2, none⟩ = some (.slice A0_2 n0_2 c0_2) ∧ w'.cell? ⟨g, 3, none⟩ = some (.slice A0_3 n0_3 c0_3) ∧ w'.cell? ⟨g, 4, none⟩ = some (.int .i64 a0_4) ∧ w'.cell? ⟨g, 5, none⟩ = some (.string a0_5) ∧ w'.cell? ⟨g, 6, none⟩ = some (.slice A0_6 n0_6 c0_6)
theorem pinfoldref11_Pick.S_below {w w2 : World} {pb : Addr} {x0 x1 : Int} {x2 : ByteArray} {x3 : Int} {x4 : ByteArray} {x5 : Bool} {g : Nat} {a0_0 a0_1 : Int} {A0_2 : Option Addr} {n0_2 c0_2 : Nat} {A0_3 : Option Addr} {n0_3 c0_3 : Nat} {a0_4 : Int} {a0_5 : ByteArray} {A0_6 : Option Addr} {n0_6 c0_6 : Nat} (h : pinfoldref11_Pick.S pb x0 x1 x2 x3 x4 x5 g a0_0 a0_1 A0_2 n0_2 c0_2 A0_3 n0_3 c0_3 a0_4 a0_5 A0_6 n0_6 c0_6 w) (hb : Below w.heap.size w w2) : pinfoldref11_Pick.S pb x0 x1 x2 x3 x4 x5 g a0_0 a0_1 A0_2 n0_2 c0_2 A0_3 n0_3 c0_3 a0_4 a0_5 A0_6 n0_6 c0_6 w2 := by
 obtain ⟨s0, s1, s2, s3, s4, s5, s6, s7, s8, s9, s10, s11, s12⟩ := h
 exact ⟨(hb.cell (wb_ _ _ s0)).trans s0, (hb.cell (wb_ _ _ s1)).trans s1, (hb.cell (wb_ _ _ s2)).trans s2, (hb.cell (wb_ _ _ s3)).trans s3, (hb.cell (wb_ _ _ s4)).trans s4, (hb.cell (wb_ _ _ s5)).trans s5, (hb.cell (wb_ _ _ s6)).trans s6, (hb.cell (wb_ _ _ s7)).trans s7, (hb.cell (wb_ _ _ s8)).trans s8, (hb.cell (wb_ _ _ s9)).trans s9, (hb.cell (wb_ _ _ s10)).trans s10, (hb.cell (wb_ _ _ s11)).trans s11, (hb.cell (wb_ _ _ s12)).trans s12⟩
theorem conf_bnd {a0 a1 : Int} {l2 : List Int} {l3 : List S118} {a4 : Int} {z : ByteArray} {l6 : List S139} (h : confB a0 a1 l2 l3 a4 z l6 = true) : 2 ≤ a0 ∧ a0 ≤ a1 ∧ a1 ≤ 254 ∧ a1 - a0 < 8 := by
 unfold confB at h
 simp only [Bool.and_eq_true, decide_eq_true_eq] at h
 exact h.1.1
def pinfoldref11_Pick_c.f (a0_0 : Int) (a0_1 : Int) (l0_2 : List Int) (l0_3 : List S118) (a0_4 : Int) (a0_5 : ByteArray) (l0_6 : List S139) (l1 : List S37) (now : Int) (client : ByteArray) (wanted : Int) : Option (Int × Int) := if confFitR l0_2 l0_3 a0_5 l0_6 ∧ tabFitR l1 then some (if pickMayB a0_0 a0_1 l0_2 l0_3 a0_4 a0_5 l0_6 l1 now client = true then refPickP a0_0 a0_1 l0_2 l0_3 a0_4 a0_5 l0_6 l1 now client wanted else (0, 1400)) else none
set_option maxHeartbeats 8000000 in
set_option maxRecDepth 100000 in
theorem pinfoldref11_Pick_c.calls (a0_0 : Int) (a0_1 : Int) (A0_2 : Option Addr) (c0_2 : Nat) (l0_2 : List Int) (A0_3 : Option Addr) (c0_3 : Nat) (l0_3 : List S118) (a0_4 : Int) (a0_5 : ByteArray) (A0_6 : Option Addr) (c0_6 : Nat) (l0_6 : List S139) (A1 : Option Addr) (c1 : Nat) (l1 : List S37) (now : Int) (client : ByteArray) (wanted r1 r2 : Int) (w : World) (hr0_2 : Kd.C (Kd.int .i64) w A0_2 l0_2.length l0_2) (hc0_2 : l0_2.length ≤ c0_2) (hr0_3 : Kd.C k118 w A0_3 l0_3.length l0_3) (hc0_3 : l0_3.length ≤ c0_3) (hr0_6 : Kd.C k139 w A0_6 l0_6.length l0_6) (hc0_6 : l0_6.length ≤ c0_6) (hr1 : Kd.C k37 w A1 l1.length l1) (hc1 : l1.length ≤ c1) (h : pinfoldref11_Pick_c.f a0_0 a0_1 l0_2 l0_3 a0_4 a0_5 l0_6 l1 now client wanted = some (r1, r2)) :
  Calls Try.prog 15 #[.agg #[.int .i64 a0_0, .int .i64 a0_1, .slice A0_2 l0_2.length c0_2, .slice A0_3 l0_3.length c0_3, .int .i64 a0_4, .string a0_5, .slice A0_6 l0_6.length c0_6], .slice A1 l1.length c1, .int .i64 now, .string client, .int .i64 wanted] w fun e w' => e = .returned (.tuple #[.int .i64 r1, .int .i64 r2]) ∧ Below w.heap.size w w' := by
 unfold pinfoldref11_Pick_c.f at h
 by_cases hs : confFitR l0_2 l0_3 a0_5 l0_6 ∧ tabFitR l1
 rotate_left
 ·rw [if_neg hs] at h
  cases h
 rw [if_pos hs] at h
 replace h := e5_ h
 obtain ⟨b1, h1⟩ : ∃ b, pickMayB a0_0 a0_1 l0_2 l0_3 a0_4 a0_5 l0_6 l1 now client = b := ⟨_, rfl⟩
 have Ca := am_ (fun W (hb : Below w.heap.size w W) => pinfoldref11_asked_c.calls a0_0 a0_1 A0_2 c0_2 l0_2 A0_3 c0_3 l0_3 a0_4 a0_5 A0_6 c0_6 l0_6 A1 c1 l1 now client 1099511627776 b1 W (c4_ hr0_2 hb) hc0_2 (c4_ hr0_3 hb) hc0_3 (c4_ hr0_6 hb) hc0_6 (c4_ hr1 hb) hc1 (by unfold pinfoldref11_asked_c.f; rw [if_pos hs]; exact congrArg some h1))
 have CO := am_ (fun host W (hb : Below w.heap.size w W) => pinfoldref11_open_c.calls a0_0 a0_1 A0_2 c0_2 l0_2 A0_3 c0_3 l0_3 a0_4 a0_5 A0_6 c0_6 l0_6 A1 c1 l1 now client host (openB a0_0 a0_1 l0_2 l0_3 a0_4 a0_5 l0_6 l1 now client host) W (c4_ hr0_2 hb) hc0_2 (c4_ hr0_3 hb) hc0_3 (c4_ hr0_6 hb) hc0_6 (c4_ hr1 hb) hc1 (by unfold pinfoldref11_open_c.f; rw [if_pos hs]))
 have CF := am_ (fun W (hb : Below w.heap.size w W) => pinfoldref11_Of_c.calls A1 c1 l1 client now (gotL (ofL l1 client now)).f0 (gotL (ofL l1 client now)).f1 (gotL (ofL l1 client now)).f2 (gotL (ofL l1 client now)).f3 (gotL (ofL l1 client now)).f4 (gotL (ofL l1 client now)).f5 (ofL l1 client now).isSome W (c4_ hr1 hb) hc1 (by unfold pinfoldref11_Of_c.f; rw [if_pos hs.2]))
 have CR := am_ (fun W (hb : Below w.heap.size w W) => pinfoldref11_Reserved_c.calls a0_0 a0_1 A0_2 c0_2 l0_2 A0_3 c0_3 l0_3 a0_4 a0_5 A0_6 c0_6 l0_6 client (foundH (reservR a0_0 a0_1 l0_2 l0_3 a0_4 a0_5 l0_6 client)) (foundIs (reservR a0_0 a0_1 l0_2 l0_3 a0_4 a0_5 l0_6 client)) W (c4_ hr0_2 hb) hc0_2 (c4_ hr0_3 hb) hc0_3 (c4_ hr0_6 hb) hc0_6 (by unfold pinfoldref11_Reserved_c.f; rw [if_pos hs.1]))
 have CFi := am_ (fun host (x : S37) b (e : gotL (findL l1 host) = x ∧ (findL l1 host).isSome = b) W (hb : Below w.heap.size w W) => pinfoldref11_FindLease_c.calls A1 c1 l1 host x.f0 x.f1 x.f2 x.f3 x.f4 x.f5 b W (c4_ hr1 hb) hc1 (by unfold pinfoldref11_FindLease_c.f; rw [if_pos hs.2.1, e.1, e.2]))
 have CL := am_ (fun x0 x1 x2 x3 x4 x5 (hx : x4.size ≤ 8796093022000) b (e : liveB x0 x1 x2 x3 x4 x5 now = b) W => pinfoldref11_Live_c.calls x0 x1 x2 x3 x4 x5 now b W (by unfold pinfoldref11_Live_c.f; rw [if_pos hx, e]))
 have HX := am_ hs.2.2
 have hl := hs.2.1
 have hbd : b1 = true → 2 ≤ a0_0 ∧ a0_0 ≤ a0_1 ∧ a0_1 ≤ 254 := fun e => by
  have h2 := h1.trans e
  unfold pickMayB at h2
  rw [Bool.and_eq_true] at h2
  have := conf_bnd h2.1
  exact ⟨this.1, this.2.1, this.2.2.1⟩
 rw [h1] at h
 have HK1 := am_ hr1
 have HB := am_ (Below.refl w.heap.size w)
 have BK := am_ (blk_new w (.cells #[.int .i64 a0_0, .int .i64 a0_1, .slice A0_2 l0_2.length c0_2, .slice A0_3 l0_3.length c0_3, .int .i64 a0_4, .string a0_5, .slice A0_6 l0_6.length c0_6] 26))
 have u0 := bc_ BK.out 0
 have u1 := bc_ BK.out 1
 have u2 := bc_ BK.out 2
 have u3 := bc_ BK.out 3
 have u4 := bc_ BK.out 4
 have u5 := bc_ BK.out 5
 have u6 := bc_ BK.out 6
 clear h1 hr0_2 hr0_3 hr0_6 hc0_2 hc0_3 hc0_6 hr1 hc1 hs
 cases b1 with
 | false =>
  rw [if_neg (by decide)] at h
  obtain ⟨rfl, rfl⟩ := Prod.mk.inj h
  clear h hbd CO CF CR CFi CL HX HK1
  go_enter Try.func15, Try.ntmps15
  go_wp2_with (first | (go_at_call 45; (with_reducible refine (Ca.out _ (by repeat (with_reducible first | exact HB.out | apply p3_ | apply p1_ | apply p2_))).mono ?_); rintro e w1 ⟨rfl, hb2⟩; replace BK := am_ (kb_ (show _ from (by (with_reducible repeat (first | exact BK.out | refine k2_ ?_ _ | refine k3_ ?_ | refine k1_ ?_ _)))) hb2); replace HB := am_ (bt_ (show Below w.heap.size w _ from (by repeat (with_reducible first | exact HB.out | apply p3_ | apply p1_ | apply p2_))) hb2); clear hb2; clear u0 u1 u2 u3 u4 u5 u6; have u0 := bc_ BK.out 0; have u1 := bc_ BK.out 1; have u2 := bc_ BK.out 2; have u3 := bc_ BK.out 3; have u4 := bc_ BK.out 4; have u5 := bc_ BK.out 5; have u6 := bc_ BK.out 6))
  go_ret2
  exact ⟨rfl, HB.out⟩
 | true =>
 obtain ⟨n0, n1, n2⟩ := hbd rfl
 clear hbd
 rw [if_pos rfl] at h
 unfold refPickP refEnd at h
 have hh : hadC a0_0 a0_1 l0_2 l0_3 a0_4 a0_5 l0_6 l1 now client = hadP (openB a0_0 a0_1 l0_2 l0_3 a0_4 a0_5 l0_6 l1 now client) now client := rfl
 rw [hh] at h
 generalize openB a0_0 a0_1 l0_2 l0_3 a0_4 a0_5 l0_6 l1 now client = q at h CO
 generalize foundIs (reservR a0_0 a0_1 l0_2 l0_3 a0_4 a0_5 l0_6 client) = hi at h CR
 generalize foundH (reservR a0_0 a0_1 l0_2 l0_3 a0_4 a0_5 l0_6 client) = h0 at h CR
 generalize (ofL l1 client now).isSome = oi at h CF
 generalize gotL (ofL l1 client now) = o at h CF
 obtain ⟨o0, o1, o2, o3, o4, o5⟩ := o
 simp only at h CF
 clear hh
 by_cases q1 : (oi && q o0) = true
 ·rw [if_pos q1] at h
  obtain ⟨rfl, rfl⟩ := Prod.mk.inj h
  rw [Bool.and_eq_true] at q1
  obtain ⟨rfl, q1⟩ := q1
  clear h CR CFi CL HX HK1
  go_enter Try.func15, Try.ntmps15
  go_wp2_with (first | (go_at_call 45; (with_reducible refine (Ca.out _ (by repeat (with_reducible first | exact HB.out | apply p3_ | apply p1_ | apply p2_))).mono ?_); rintro e w1 ⟨rfl, hb2⟩; replace BK := am_ (kb_ (show _ from (by (with_reducible repeat (first | exact BK.out | refine k2_ ?_ _ | refine k3_ ?_ | refine k1_ ?_ _)))) hb2); replace HB := am_ (bt_ (show Below w.heap.size w _ from (by repeat (with_reducible first | exact HB.out | apply p3_ | apply p1_ | apply p2_))) hb2); clear hb2; clear u0 u1 u2 u3 u4 u5 u6; have u0 := bc_ BK.out 0; have u1 := bc_ BK.out 1; have u2 := bc_ BK.out 2; have u3 := bc_ BK.out 3; have u4 := bc_ BK.out 4; have u5 := bc_ BK.out 5; have u6 := bc_ BK.out 6) | (go_at_call 23; (with_reducible refine (CF.out _ (by repeat (with_reducible first | exact HB.out | apply p3_ | apply p1_ | apply p2_))).mono ?_); rintro e w2 ⟨rfl, hb2⟩; replace BK := am_ (kb_ (show _ from (by (with_reducible repeat (first | exact BK.out | refine k2_ ?_ _ | refine k3_ ?_ | refine k1_ ?_ _)))) hb2); replace HB := am_ (bt_ (show Below w.heap.size w _ from (by repeat (with_reducible first | exact HB.out | apply p3_ | apply p1_ | apply p2_))) hb2); clear hb2; replace BK := am_ (k1_ BK.out (.cells #[.int .i64 o0, .int .i64 o1, .string o2, .int .i64 o3, .string o4, .bool o5] 37)); clear u0 u1 u2 u3 u4 u5 u6; have u0 := bc_ BK.out 0; have u1 := bc_ BK.out 1; have u2 := bc_ BK.out 2; have u3 := bc_ BK.out 3; have u4 := bc_ BK.out 4; have u5 := bc_ BK.out 5; have u6 := bc_ BK.out 6) | (go_at_call 46; (with_reducible refine (CO.out _ _ (by repeat (with_reducible first | exact HB.out | apply p3_ | apply p1_ | apply p2_))).mono ?_); rintro e w3 ⟨rfl, hb2⟩; have BX := am_ (kb_ (blk_new w2 (.cells #[.int .i64 o0, .int .i64 o1, .string o2, .int .i64 o3, .string o4, .bool o5] 37)) hb2); have v0 := bc_ BX.out 0; replace HB := am_ (bt_ (show Below w.heap.size w _ from (by repeat (with_reducible first | exact HB.out | apply p3_ | apply p1_ | apply p2_))) hb2); clear hb2 u0 u1 u2 u3 u4 u5 u6))
  go_ret2
  exact ⟨rfl, HB.out⟩
 rw [if_neg q1] at h
 by_cases q2 : (hi && q h0) = true
 ·rw [if_pos q2] at h
  obtain ⟨rfl, rfl⟩ := Prod.mk.inj h
  rw [Bool.and_eq_true] at q2
  obtain ⟨rfl, q2⟩ := q2
  clear h CFi CL HX HK1
  have q1' : oi = false ∨ oi = true ∧ q o0 = false := by cases oi <;> simp_all
  clear q1
  rcases q1' with rfl | ⟨rfl, q1⟩
  all_goals (go_enter Try.func15, Try.ntmps15; go_wp2_with (first | (go_at_call 45; (with_reducible refine (Ca.out _ (by repeat (with_reducible first | exact HB.out | apply p3_ | apply p1_ | apply p2_))).mono ?_); rintro e w1 ⟨rfl, hb2⟩; replace BK := am_ (kb_ (show _ from (by (with_reducible repeat (first | exact BK.out | refine k2_ ?_ _ | refine k3_ ?_ | refine k1_ ?_ _)))) hb2); replace HB := am_ (bt_ (show Below w.heap.size w _ from (by repeat (with_reducible first | exact HB.out | apply p3_ | apply p1_ | apply p2_))) hb2); clear hb2; clear u0 u1 u2 u3 u4 u5 u6; have u0 := bc_ BK.out 0; have u1 := bc_ BK.out 1; have u2 := bc_ BK.out 2; have u3 := bc_ BK.out 3; have u4 := bc_ BK.out 4; have u5 := bc_ BK.out 5; have u6 := bc_ BK.out 6) | (go_at_call 23; (with_reducible refine (CF.out _ (by repeat (with_reducible first | exact HB.out | apply p3_ | apply p1_ | apply p2_))).mono ?_); rintro e w2 ⟨rfl, hb2⟩; replace BK := am_ (kb_ (show _ from (by (with_reducible repeat (first | exact BK.out | refine k2_ ?_ _ | refine k3_ ?_ | refine k1_ ?_ _)))) hb2); replace HB := am_ (bt_ (show Below w.heap.size w _ from (by repeat (with_reducible first | exact HB.out | apply p3_ | apply p1_ | apply p2_))) hb2); clear hb2; replace BK := am_ (k1_ BK.out (.cells #[.int .i64 o0, .int .i64 o1, .string o2, .int .i64 o3, .string o4, .bool o5] 37)); clear u0 u1 u2 u3 u4 u5 u6; have u0 := bc_ BK.out 0; have u1 := bc_ BK.out 1; have u2 := bc_ BK.out 2; have u3 := bc_ BK.out 3; have u4 := bc_ BK.out 4; have u5 := bc_ BK.out 5; have u6 := bc_ BK.out 6) | (go_at_call 46; (with_reducible refine (CO.out _ _ (by repeat (with_reducible first | exact HB.out | apply p3_ | apply p1_ | apply p2_))).mono ?_); rintro e w3 ⟨rfl, hb2⟩; replace BK := am_ (kb_ (show _ from (by (with_reducible repeat (first | exact BK.out | refine k2_ ?_ _ | refine k3_ ?_ | refine k1_ ?_ _)))) hb2); replace HB := am_ (bt_ (show Below w.heap.size w _ from (by repeat (with_reducible first | exact HB.out | apply p3_ | apply p1_ | apply p2_))) hb2); clear hb2; clear u0 u1 u2 u3 u4 u5 u6; have u0 := bc_ BK.out 0; have u1 := bc_ BK.out 1; have u2 := bc_ BK.out 2; have u3 := bc_ BK.out 3; have u4 := bc_ BK.out 4; have u5 := bc_ BK.out 5; have u6 := bc_ BK.out 6) | (go_at_call 47; (with_reducible refine (CR.out _ (by repeat (with_reducible first | exact HB.out | apply p3_ | apply p1_ | apply p2_))).mono ?_); rintro e w4 ⟨rfl, hb2⟩; replace BK := am_ (kb_ (show _ from (by (with_reducible repeat (first | exact BK.out | refine k2_ ?_ _ | refine k3_ ?_ | refine k1_ ?_ _)))) hb2); replace HB := am_ (bt_ (show Below w.heap.size w _ from (by repeat (with_reducible first | exact HB.out | apply p3_ | apply p1_ | apply p2_))) hb2); clear hb2; clear u0 u1 u2 u3 u4 u5 u6; have u0 := bc_ BK.out 0; have u1 := bc_ BK.out 1; have u2 := bc_ BK.out 2; have u3 := bc_ BK.out 3; have u4 := bc_ BK.out 4; have u5 := bc_ BK.out 5; have u6 := bc_ BK.out 6)))
  all_goals (go_ret2; exact ⟨rfl, HB.out⟩)
 rw [if_neg q2] at h
 by_cases q3 : q wanted = true
 ·rw [if_pos q3] at h
  obtain ⟨rfl, rfl⟩ := Prod.mk.inj h
  clear h CFi CL HX HK1
  have q1' : oi = false ∨ oi = true ∧ q o0 = false := by cases oi <;> simp_all
  have q2' : hi = false ∨ hi = true ∧ q h0 = false := by cases hi <;> simp_all
  clear q1 q2
  rcases q1' with rfl | ⟨rfl, q1⟩ <;> rcases q2' with rfl | ⟨rfl, q2⟩
  all_goals (go_enter Try.func15, Try.ntmps15; go_wp2_with (first | (go_at_call 45; (with_reducible refine (Ca.out _ (by repeat (with_reducible first | exact HB.out | apply p3_ | apply p1_ | apply p2_))).mono ?_); rintro e w1 ⟨rfl, hb2⟩; replace BK := am_ (kb_ (show _ from (by (with_reducible repeat (first | exact BK.out | refine k2_ ?_ _ | refine k3_ ?_ | refine k1_ ?_ _)))) hb2); replace HB := am_ (bt_ (show Below w.heap.size w _ from (by repeat (with_reducible first | exact HB.out | apply p3_ | apply p1_ | apply p2_))) hb2); clear hb2; clear u0 u1 u2 u3 u4 u5 u6; have u0 := bc_ BK.out 0; have u1 := bc_ BK.out 1; have u2 := bc_ BK.out 2; have u3 := bc_ BK.out 3; have u4 := bc_ BK.out 4; have u5 := bc_ BK.out 5; have u6 := bc_ BK.out 6) | (go_at_call 23; (with_reducible refine (CF.out _ (by repeat (with_reducible first | exact HB.out | apply p3_ | apply p1_ | apply p2_))).mono ?_); rintro e w2 ⟨rfl, hb2⟩; replace BK := am_ (kb_ (show _ from (by (with_reducible repeat (first | exact BK.out | refine k2_ ?_ _ | refine k3_ ?_ | refine k1_ ?_ _)))) hb2); replace HB := am_ (bt_ (show Below w.heap.size w _ from (by repeat (with_reducible first | exact HB.out | apply p3_ | apply p1_ | apply p2_))) hb2); clear hb2; replace BK := am_ (k1_ BK.out (.cells #[.int .i64 o0, .int .i64 o1, .string o2, .int .i64 o3, .string o4, .bool o5] 37)); clear u0 u1 u2 u3 u4 u5 u6; have u0 := bc_ BK.out 0; have u1 := bc_ BK.out 1; have u2 := bc_ BK.out 2; have u3 := bc_ BK.out 3; have u4 := bc_ BK.out 4; have u5 := bc_ BK.out 5; have u6 := bc_ BK.out 6) | (go_at_call 46; (with_reducible refine (CO.out _ _ (by repeat (with_reducible first | exact HB.out | apply p3_ | apply p1_ | apply p2_))).mono ?_); rintro e w3 ⟨rfl, hb2⟩; replace BK := am_ (kb_ (show _ from (by (with_reducible repeat (first | exact BK.out | refine k2_ ?_ _ | refine k3_ ?_ | refine k1_ ?_ _)))) hb2); replace HB := am_ (bt_ (show Below w.heap.size w _ from (by repeat (with_reducible first | exact HB.out | apply p3_ | apply p1_ | apply p2_))) hb2); clear hb2; clear u0 u1 u2 u3 u4 u5 u6; have u0 := bc_ BK.out 0; have u1 := bc_ BK.out 1; have u2 := bc_ BK.out 2; have u3 := bc_ BK.out 3; have u4 := bc_ BK.out 4; have u5 := bc_ BK.out 5; have u6 := bc_ BK.out 6) | (go_at_call 47; (with_reducible refine (CR.out _ (by repeat (with_reducible first | exact HB.out | apply p3_ | apply p1_ | apply p2_))).mono ?_); rintro e w4 ⟨rfl, hb2⟩; replace BK := am_ (kb_ (show _ from (by (with_reducible repeat (first | exact BK.out | refine k2_ ?_ _ | refine k3_ ?_ | refine k1_ ?_ _)))) hb2); replace HB := am_ (bt_ (show Below w.heap.size w _ from (by repeat (with_reducible first | exact HB.out | apply p3_ | apply p1_ | apply p2_))) hb2); clear hb2; clear u0 u1 u2 u3 u4 u5 u6; have u0 := bc_ BK.out 0; have u1 := bc_ BK.out 1; have u2 := bc_ BK.out 2; have u3 := bc_ BK.out 3; have u4 := bc_ BK.out 4; have u5 := bc_ BK.out 5; have u6 := bc_ BK.out 6)))
  all_goals (go_ret2; exact ⟨rfl, HB.out⟩)
 rw [if_neg q3] at h
 have q3b : q wanted = false := Bool.eq_false_iff.2 q3
 have q1' : oi = false ∨ oi = true ∧ q o0 = false := by cases oi <;> simp_all
 have q2' : hi = false ∨ hi = true ∧ q h0 = false := by cases hi <;> simp_all
 clear q1 q2 q3
 have HE := am_ (show endP q a0_0 a0_1 l1 ((l1.drop (0 : Int).toNat).find? (hadP q now client)) = (r1, r2) from h)
 clear h
 rcases q1' with rfl | ⟨rfl, q1⟩ <;> rcases q2' with rfl | ⟨rfl, q2⟩
 all_goals (go_enter Try.func15, Try.ntmps15; go_wp2_with (first | (go_at_call 45; (with_reducible refine (Ca.out _ (by repeat (with_reducible first | exact HB.out | apply p3_ | apply p1_ | apply p2_))).mono ?_); rintro e w1 ⟨rfl, hb2⟩; replace BK := am_ (kb_ (show _ from (by (with_reducible repeat (first | exact BK.out | refine k2_ ?_ _ | refine k3_ ?_ | refine k1_ ?_ _)))) hb2); replace HB := am_ (bt_ (show Below w.heap.size w _ from (by repeat (with_reducible first | exact HB.out | apply p3_ | apply p1_ | apply p2_))) hb2); clear hb2; clear u0 u1 u2 u3 u4 u5 u6; have u0 := bc_ BK.out 0; have u1 := bc_ BK.out 1; have u2 := bc_ BK.out 2; have u3 := bc_ BK.out 3; have u4 := bc_ BK.out 4; have u5 := bc_ BK.out 5; have u6 := bc_ BK.out 6) | (go_at_call 23; (with_reducible refine (CF.out _ (by repeat (with_reducible first | exact HB.out | apply p3_ | apply p1_ | apply p2_))).mono ?_); rintro e w2 ⟨rfl, hb2⟩; replace BK := am_ (kb_ (show _ from (by (with_reducible repeat (first | exact BK.out | refine k2_ ?_ _ | refine k3_ ?_ | refine k1_ ?_ _)))) hb2); replace HB := am_ (bt_ (show Below w.heap.size w _ from (by repeat (with_reducible first | exact HB.out | apply p3_ | apply p1_ | apply p2_))) hb2); clear hb2; replace BK := am_ (k1_ BK.out (.cells #[.int .i64 o0, .int .i64 o1, .string o2, .int .i64 o3, .string o4, .bool o5] 37)); clear u0 u1 u2 u3 u4 u5 u6; have u0 := bc_ BK.out 0; have u1 := bc_ BK.out 1; have u2 := bc_ BK.out 2; have u3 := bc_ BK.out 3; have u4 := bc_ BK.out 4; have u5 := bc_ BK.out 5; have u6 := bc_ BK.out 6) | (go_at_call 46; (with_reducible refine (CO.out _ _ (by repeat (with_reducible first | exact HB.out | apply p3_ | apply p1_ | apply p2_))).mono ?_); rintro e w3 ⟨rfl, hb2⟩; replace BK := am_ (kb_ (show _ from (by (with_reducible repeat (first | exact BK.out | refine k2_ ?_ _ | refine k3_ ?_ | refine k1_ ?_ _)))) hb2); replace HB := am_ (bt_ (show Below w.heap.size w _ from (by repeat (with_reducible first | exact HB.out | apply p3_ | apply p1_ | apply p2_))) hb2); clear hb2; clear u0 u1 u2 u3 u4 u5 u6; have u0 := bc_ BK.out 0; have u1 := bc_ BK.out 1; have u2 := bc_ BK.out 2; have u3 := bc_ BK.out 3; have u4 := bc_ BK.out 4; have u5 := bc_ BK.out 5; have u6 := bc_ BK.out 6) | (go_at_call 47; (with_reducible refine (CR.out _ (by repeat (with_reducible first | exact HB.out | apply p3_ | apply p1_ | apply p2_))).mono ?_); rintro e w4 ⟨rfl, hb2⟩; replace BK := am_ (kb_ (show _ from (by (with_reducible repeat (first | exact BK.out | refine k2_ ?_ _ | refine k3_ ?_ | refine k1_ ?_ _)))) hb2); replace HB := am_ (bt_ (show Below w.heap.size w _ from (by repeat (with_reducible first | exact HB.out | apply p3_ | apply p1_ | apply p2_))) hb2); clear hb2; clear u0 u1 u2 u3 u4 u5 u6; have u0 := bc_ BK.out 0; have u1 := bc_ BK.out 1; have u2 := bc_ BK.out 2; have u3 := bc_ BK.out 3; have u4 := bc_ BK.out 4; have u5 := bc_ BK.out 5; have u6 := bc_ BK.out 6)))
 all_goals clear u0 u1 u2 u3 u4 u5 u6 CF CR Ca
 all_goals
  go_loopg [16] l1.length (fun d v w' => ∃ i : Int, 0 ≤ i ∧ i.toNat + d = l1.length ∧ v = .int .i64 i ∧ Aside0 (Below w.heap.size w w') ∧ Aside0 (w'.heap[w.heap.size]? = some (.cells #[.int .i64 a0_0, .int .i64 a0_1, .slice A0_2 l0_2.length c0_2, .slice A0_3 l0_3.length c0_3, .int .i64 a0_4, .string a0_5, .slice A0_6 l0_6.length c0_6] 26)) ∧ Aside0 (endP q a0_0 a0_1 l1 ((l1.drop i.toNat).find? (hadP q now client)) = (r1, r2)))
  case atStart => exact ⟨0, by omega, by simp, rfl, HB, BK, HE⟩
  case round =>
   clear HB BK HE
   obtain ⟨i, hi0, hd, rfl, HB, BK, HE⟩ := hrel
   by_cases hlt : i < (l1.length : Int)
   ·obtain ⟨ad, e1, hw0, hw1, hw2, hw3, hw4, hw5⟩ := at_T37 HK1.out i hi0 hlt
    cases e1
    have hx0 := (HB.out.cell (wb_ w _ hw0)).trans hw0; have hx1 := (HB.out.cell (wb_ w _ hw1)).trans hw1; have hx2 := (HB.out.cell (wb_ w _ hw2)).trans hw2; have hx3 := (HB.out.cell (wb_ w _ hw3)).trans hw3; have hx4 := (HB.out.cell (wb_ w _ hw4)).trans hw4; have hx5 := (HB.out.cell (wb_ w _ hw5)).trans hw5
    have hd1 := dropLease l1 i hi0 hlt
    have hsz := HX.out _ hd1.2
    have he := HE.out
    rw [hd1.1, List.find?_cons] at he
    have H1 := am_ (show 0 ≤ i + 1 by omega)
    have H2 := am_ (show (i + 1).toNat + (l1.length - (i.toNat + 1)) = l1.length by omega)
    have H3 := am_ (show l1.length - (i.toNat + 1) < gk by omega)
    have H4 := am_ (show IntKind.i64.wrap (i + 1) = i + 1 from (i64_w _).trans (by unfold wrap64; omega))
    have hi2 : (i + 1).toNat = i.toNat + 1 := by omega
    rw [← hi2] at he
    clear hd1 HE hi2
    generalize rd_T37 l1 i = x at hw0 hw1 hw2 hw3 hw4 hw5 hx0 hx1 hx2 hx3 hx4 hx5 hsz he
    obtain ⟨x0, x1, x2, x3, x4, x5⟩ := x
    simp only at hw0 hw1 hw2 hw3 hw4 hw5 hx0 hx1 hx2 hx3 hx4 hx5 hsz
    obtain ⟨bl, hbl⟩ : ∃ b, liveB x0 x1 x2 x3 x4 x5 now = b := ⟨_, rfl⟩
    have hq : hadP q now client ⟨x0, x1, x2, x3, x4, x5⟩ = ((!bl && decide (x2.toList = client.toList)) && q x0) := by rw [← hbl]; rfl
    rw [hq] at he
    have CV := am_ (fun W => CL.out x0 x1 x2 x3 x4 x5 hsz bl hbl W)
    have clt := decide_eq_true hlt
    have cle := decide_eq_true hi0
    have plt := eq_true hlt
    have ple := eq_true hi0
    replace hi0 := am_ hi0
    replace hd := am_ hd
    clear hq hbl hsz hlt
    replace n0 := am_ n0
    replace n1 := am_ n1
    replace n2 := am_ n2
    replace hl := am_ hl
    cases bl with
    | true =>
     have HN := am_ (show endP q a0_0 a0_1 l1 ((l1.drop (i + 1).toNat).find? (hadP q now client)) = (r1, r2) from he)
     clear he
     go_wp2_with fail
     have HB1 := am_ (below_drew HB.out)
     have BK1 := am_ (k3_ BK.out)
     refine seqS (S := pinfoldref11_Pick.S (ad.add (i.toNat * 6)) x0 x1 x2 x3 x4 x5 w.heap.size a0_0 a0_1 A0_2 l0_2.length c0_2 A0_3 l0_3.length c0_3 a0_4 a0_5 A0_6 l0_6.length c0_6) 28 (by kernel_rfl) rfl rfl (by unfold pinfoldref11_Pick.S; exact ⟨(HB1.out.cell (wb_ w _ hw0)).trans hw0, (HB1.out.cell (wb_ w _ hw1)).trans hw1, (HB1.out.cell (wb_ w _ hw2)).trans hw2, (HB1.out.cell (wb_ w _ hw3)).trans hw3, (HB1.out.cell (wb_ w _ hw4)).trans hw4, (HB1.out.cell (wb_ w _ hw5)).trans hw5, (bc_ BK1.out 0).trans rfl, (bc_ BK1.out 1).trans rfl, (bc_ BK1.out 2).trans rfl, (bc_ BK1.out 3).trans rfl, (bc_ BK1.out 4).trans rfl, (bc_ BK1.out 5).trans rfl, (bc_ BK1.out 6).trans rfl⟩) ?_
     intro hHeld
     clear hx0 hx1 hx2 hx3 hx4 hx5 HB BK
     iterate 5 first | (refine seqP (v := ?_) (a' := ?_) rfl rfl (by kernel_rfl) (fun _ _ _ h => h) (Or.inl ⟨by kernel_rfl, ?_⟩) ?_ ?_; rotate_left; (intro w'; go_simp; with_reducible rfl); rotate_left; (simp only [Act.put, sa_, sb_, sc_, i64_w, i32_w]; rfl)) | (refine seqL (v := ?_) (a' := ?_) rfl rfl (by kernel_rfl) (fun _ _ _ h => h) (Or.inl ⟨by kernel_rfl, ?_⟩) hHeld ?_ ?_; rotate_left; (rintro w' ⟨s0, s1, s2, s3, s4, s5, s6, s7, s8, s9, s10, s11, s12⟩; go_simp; with_reducible rfl); rotate_left; (simp only [Act.put, sa_, sb_, sc_, i64_w, i32_w]; rfl))
     refine seqG (fn := Try.f48) rfl rfl (by kernel_rfl) rfl Try.func48 (by kernel_rfl) (by kernel_rfl) #[.agg #[.int .i64 x0, .int .i64 x1, .string x2, .int .i64 x3, .string x4, .bool x5], .int .i64 now] (by kernel_rfl) (by (try simp only [List.map_toArray, List.map_cons, List.map_nil]); first | done | rfl) ?_
     with_reducible refine (CV.out _).mono ?_
     rintro e wg ⟨rfl, hb2⟩
     have HB2 := am_ (bt_ HB1.out hb2)
     have BK2 := am_ (kb_ BK1.out hb2)
     refine ⟨_, rfl, pinfoldref11_Pick.S_below hHeld hb2, fun hHeld => ⟨?_, ?_, ?_⟩⟩
     rotate_left
     ·simp only [Act.put, sa_, sb_, sc_, i64_w, i32_w]
      rfl
     clear hb2 HB1 BK1 CV
     iterate 2 first | (refine seqP (v := ?_) (a' := ?_) rfl rfl (by kernel_rfl) (fun _ _ _ h => h) (Or.inl ⟨by kernel_rfl, ?_⟩) ?_ ?_; rotate_left; (intro w'; go_simp; with_reducible rfl); rotate_left; (simp only [Act.put, sa_, sb_, sc_, i64_w, i32_w]; rfl)) | (refine seqL (v := ?_) (a' := ?_) rfl rfl (by kernel_rfl) (fun _ _ _ h => h) (Or.inl ⟨by kernel_rfl, ?_⟩) hHeld ?_ ?_; rotate_left; (rintro w' ⟨s0, s1, s2, s3, s4, s5, s6, s7, s8, s9, s10, s11, s12⟩; go_simp; with_reducible rfl); rotate_left; (simp only [Act.put, sa_, sb_, sc_, i64_w, i32_w]; rfl))
     iterate 7 (refine seqP (v := undef) (a' := ?_) rfl rfl (by kernel_rfl) (fun _ _ _ h => h) (Or.inr ⟨by kernel_rfl, rfl⟩) ?_ ?_; rotate_left; (simp only [Act.put, sa_, sb_, sc_, i64_w, i32_w]; rfl))
     iterate 2 first | (refine seqP (v := ?_) (a' := ?_) rfl rfl (by kernel_rfl) (fun _ _ _ h => h) (Or.inl ⟨by kernel_rfl, ?_⟩) ?_ ?_; rotate_left; (intro w'; go_simp; with_reducible rfl); rotate_left; (simp only [Act.put, sa_, sb_, sc_, i64_w, i32_w]; rfl)) | (refine seqL (v := ?_) (a' := ?_) rfl rfl (by kernel_rfl) (fun _ _ _ h => h) (Or.inl ⟨by kernel_rfl, ?_⟩) hHeld ?_ ?_; rotate_left; (rintro w' ⟨s0, s1, s2, s3, s4, s5, s6, s7, s8, s9, s10, s11, s12⟩; go_simp; with_reducible rfl); rotate_left; (simp only [Act.put, sa_, sb_, sc_, i64_w, i32_w]; rfl))
     iterate 10 (refine seqP (v := undef) (a' := ?_) rfl rfl (by kernel_rfl) (fun _ _ _ h => h) (Or.inr ⟨by kernel_rfl, rfl⟩) ?_ ?_; rotate_left; (simp only [Act.put, sa_, sb_, sc_, i64_w, i32_w]; rfl))
     iterate 1 first | (refine seqP (v := ?_) (a' := ?_) rfl rfl (by kernel_rfl) (fun _ _ _ h => h) (Or.inl ⟨by kernel_rfl, ?_⟩) ?_ ?_; rotate_left; (intro w'; go_simp; with_reducible rfl); rotate_left; (simp only [Act.put, sa_, sb_, sc_, i64_w, i32_w]; rfl)) | (refine seqL (v := ?_) (a' := ?_) rfl rfl (by kernel_rfl) (fun _ _ _ h => h) (Or.inl ⟨by kernel_rfl, ?_⟩) hHeld ?_ ?_; rotate_left; (rintro w' ⟨s0, s1, s2, s3, s4, s5, s6, s7, s8, s9, s10, s11, s12⟩; go_simp; with_reducible rfl); rotate_left; (simp only [Act.put, sa_, sb_, sc_, i64_w, i32_w]; rfl))
     refine seqE (by kernel_rfl) ?_
     go_wp2
     go_roundg (l1.length - (i.toNat + 1))
     case measure => exact H3.out
     case rel => exact ⟨i + 1, H1.out, H2.out, by first | rfl | (rw [show wrap64 (i + 1) = i + 1 from (i64_w _).symm.trans H4.out]), HB2, BK2, HN⟩
    | false =>
    rw [Bool.not_false, Bool.true_and] at he
    by_cases qc : x2.toList = client.toList
    rotate_left
    ·have qb : (x2.toList == client.toList) = false := by simpa using qc
     have HN := am_ (show endP q a0_0 a0_1 l1 ((l1.drop (i + 1).toNat).find? (hadP q now client)) = (r1, r2) by rw [decide_eq_false qc, Bool.false_and] at he; exact he)
     clear he qc
     go_wp2_with fail
     have HB1 := am_ (below_drew HB.out)
     have BK1 := am_ (k3_ BK.out)
     refine seqS (S := pinfoldref11_Pick.S (ad.add (i.toNat * 6)) x0 x1 x2 x3 x4 x5 w.heap.size a0_0 a0_1 A0_2 l0_2.length c0_2 A0_3 l0_3.length c0_3 a0_4 a0_5 A0_6 l0_6.length c0_6) 28 (by kernel_rfl) rfl rfl (by unfold pinfoldref11_Pick.S; exact ⟨(HB1.out.cell (wb_ w _ hw0)).trans hw0, (HB1.out.cell (wb_ w _ hw1)).trans hw1, (HB1.out.cell (wb_ w _ hw2)).trans hw2, (HB1.out.cell (wb_ w _ hw3)).trans hw3, (HB1.out.cell (wb_ w _ hw4)).trans hw4, (HB1.out.cell (wb_ w _ hw5)).trans hw5, (bc_ BK1.out 0).trans rfl, (bc_ BK1.out 1).trans rfl, (bc_ BK1.out 2).trans rfl, (bc_ BK1.out 3).trans rfl, (bc_ BK1.out 4).trans rfl, (bc_ BK1.out 5).trans rfl, (bc_ BK1.out 6).trans rfl⟩) ?_
     intro hHeld
     clear hx0 hx1 hx2 hx3 hx4 hx5 HB BK
     iterate 5 first | (refine seqP (v := ?_) (a' := ?_) rfl rfl (by kernel_rfl) (fun _ _ _ h => h) (Or.inl ⟨by kernel_rfl, ?_⟩) ?_ ?_; rotate_left; (intro w'; go_simp; with_reducible rfl); rotate_left; (simp only [Act.put, sa_, sb_, sc_, i64_w, i32_w]; rfl)) | (refine seqL (v := ?_) (a' := ?_) rfl rfl (by kernel_rfl) (fun _ _ _ h => h) (Or.inl ⟨by kernel_rfl, ?_⟩) hHeld ?_ ?_; rotate_left; (rintro w' ⟨s0, s1, s2, s3, s4, s5, s6, s7, s8, s9, s10, s11, s12⟩; go_simp; with_reducible rfl); rotate_left; (simp only [Act.put, sa_, sb_, sc_, i64_w, i32_w]; rfl))
     refine seqG (fn := Try.f48) rfl rfl (by kernel_rfl) rfl Try.func48 (by kernel_rfl) (by kernel_rfl) #[.agg #[.int .i64 x0, .int .i64 x1, .string x2, .int .i64 x3, .string x4, .bool x5], .int .i64 now] (by kernel_rfl) (by (try simp only [List.map_toArray, List.map_cons, List.map_nil]); first | done | rfl) ?_
     with_reducible refine (CV.out _).mono ?_
     rintro e wg ⟨rfl, hb2⟩
     have HB2 := am_ (bt_ HB1.out hb2)
     have BK2 := am_ (kb_ BK1.out hb2)
     refine ⟨_, rfl, pinfoldref11_Pick.S_below hHeld hb2, fun hHeld => ⟨?_, ?_, ?_⟩⟩
     rotate_left
     ·simp only [Act.put, sa_, sb_, sc_, i64_w, i32_w]
      rfl
     clear hb2 HB1 BK1 CV
     iterate 2 first | (refine seqP (v := ?_) (a' := ?_) rfl rfl (by kernel_rfl) (fun _ _ _ h => h) (Or.inl ⟨by kernel_rfl, ?_⟩) ?_ ?_; rotate_left; (intro w'; go_simp; with_reducible rfl); rotate_left; (simp only [Act.put, sa_, sb_, sc_, i64_w, i32_w]; rfl)) | (refine seqL (v := ?_) (a' := ?_) rfl rfl (by kernel_rfl) (fun _ _ _ h => h) (Or.inl ⟨by kernel_rfl, ?_⟩) hHeld ?_ ?_; rotate_left; (rintro w' ⟨s0, s1, s2, s3, s4, s5, s6, s7, s8, s9, s10, s11, s12⟩; go_simp; with_reducible rfl); rotate_left; (simp only [Act.put, sa_, sb_, sc_, i64_w, i32_w]; rfl))
     iterate 9 first | (refine seqP (v := ?_) (a' := ?_) rfl rfl (by kernel_rfl) (fun _ _ _ h => h) (Or.inl ⟨by kernel_rfl, ?_⟩) ?_ ?_; rotate_left; (intro w'; go_simp; with_reducible rfl); rotate_left; (simp only [Act.put, sa_, sb_, sc_, i64_w, i32_w]; rfl)) | (refine seqL (v := ?_) (a' := ?_) rfl rfl (by kernel_rfl) (fun _ _ _ h => h) (Or.inl ⟨by kernel_rfl, ?_⟩) hHeld ?_ ?_; rotate_left; (rintro w' ⟨s0, s1, s2, s3, s4, s5, s6, s7, s8, s9, s10, s11, s12⟩; go_simp; with_reducible rfl); rotate_left; (simp only [Act.put, sa_, sb_, sc_, i64_w, i32_w]; rfl))
     iterate 10 (refine seqP (v := undef) (a' := ?_) rfl rfl (by kernel_rfl) (fun _ _ _ h => h) (Or.inr ⟨by kernel_rfl, rfl⟩) ?_ ?_; rotate_left; (simp only [Act.put, sa_, sb_, sc_, i64_w, i32_w]; rfl))
     iterate 1 first | (refine seqP (v := ?_) (a' := ?_) rfl rfl (by kernel_rfl) (fun _ _ _ h => h) (Or.inl ⟨by kernel_rfl, ?_⟩) ?_ ?_; rotate_left; (intro w'; go_simp; with_reducible rfl); rotate_left; (simp only [Act.put, sa_, sb_, sc_, i64_w, i32_w]; rfl)) | (refine seqL (v := ?_) (a' := ?_) rfl rfl (by kernel_rfl) (fun _ _ _ h => h) (Or.inl ⟨by kernel_rfl, ?_⟩) hHeld ?_ ?_; rotate_left; (rintro w' ⟨s0, s1, s2, s3, s4, s5, s6, s7, s8, s9, s10, s11, s12⟩; go_simp; with_reducible rfl); rotate_left; (simp only [Act.put, sa_, sb_, sc_, i64_w, i32_w]; rfl))
     refine seqE (by kernel_rfl) ?_
     go_wp2
     go_roundg (l1.length - (i.toNat + 1))
     case measure => exact H3.out
     case rel => exact ⟨i + 1, H1.out, H2.out, by first | rfl | (rw [show wrap64 (i + 1) = i + 1 from (i64_w _).symm.trans H4.out]), HB2, BK2, HN⟩
    have qb : (x2.toList == client.toList) = true := by simpa using qc
    rw [decide_eq_true qc, Bool.true_and] at he
    obtain ⟨T, hT⟩ : ∃ T, q x0 = T := ⟨_, rfl⟩
    rw [hT] at he
    have COi := am_ (fun W hb => CO.out x0 W hb)
    rw [hT] at COi
    clear hT qc
    go_wp2_with fail
    have HB1 := am_ (below_drew HB.out)
    have BK1 := am_ (k3_ BK.out)
    refine seqS (S := pinfoldref11_Pick.S (ad.add (i.toNat * 6)) x0 x1 x2 x3 x4 x5 w.heap.size a0_0 a0_1 A0_2 l0_2.length c0_2 A0_3 l0_3.length c0_3 a0_4 a0_5 A0_6 l0_6.length c0_6) 28 (by kernel_rfl) rfl rfl (by unfold pinfoldref11_Pick.S; exact ⟨(HB1.out.cell (wb_ w _ hw0)).trans hw0, (HB1.out.cell (wb_ w _ hw1)).trans hw1, (HB1.out.cell (wb_ w _ hw2)).trans hw2, (HB1.out.cell (wb_ w _ hw3)).trans hw3, (HB1.out.cell (wb_ w _ hw4)).trans hw4, (HB1.out.cell (wb_ w _ hw5)).trans hw5, (bc_ BK1.out 0).trans rfl, (bc_ BK1.out 1).trans rfl, (bc_ BK1.out 2).trans rfl, (bc_ BK1.out 3).trans rfl, (bc_ BK1.out 4).trans rfl, (bc_ BK1.out 5).trans rfl, (bc_ BK1.out 6).trans rfl⟩) ?_
    intro hHeld
    clear hx0 hx1 hx2 hx3 hx4 hx5 HB BK
    iterate 5 first | (refine seqP (v := ?_) (a' := ?_) rfl rfl (by kernel_rfl) (fun _ _ _ h => h) (Or.inl ⟨by kernel_rfl, ?_⟩) ?_ ?_; rotate_left; (intro w'; go_simp; with_reducible rfl); rotate_left; (simp only [Act.put, sa_, sb_, sc_, i64_w, i32_w]; rfl)) | (refine seqL (v := ?_) (a' := ?_) rfl rfl (by kernel_rfl) (fun _ _ _ h => h) (Or.inl ⟨by kernel_rfl, ?_⟩) hHeld ?_ ?_; rotate_left; (rintro w' ⟨s0, s1, s2, s3, s4, s5, s6, s7, s8, s9, s10, s11, s12⟩; go_simp; with_reducible rfl); rotate_left; (simp only [Act.put, sa_, sb_, sc_, i64_w, i32_w]; rfl))
    refine seqG (fn := Try.f48) rfl rfl (by kernel_rfl) rfl Try.func48 (by kernel_rfl) (by kernel_rfl) #[.agg #[.int .i64 x0, .int .i64 x1, .string x2, .int .i64 x3, .string x4, .bool x5], .int .i64 now] (by kernel_rfl) (by (try simp only [List.map_toArray, List.map_cons, List.map_nil]); first | done | rfl) ?_
    with_reducible refine (CV.out _).mono ?_
    rintro e wg ⟨rfl, hb2⟩
    have HB2 := am_ (bt_ HB1.out hb2)
    have BK2 := am_ (kb_ BK1.out hb2)
    refine ⟨_, rfl, pinfoldref11_Pick.S_below hHeld hb2, fun hHeld => ⟨?_, ?_, ?_⟩⟩
    rotate_left
    ·simp only [Act.put, sa_, sb_, sc_, i64_w, i32_w]
     rfl
    clear hb2 HB1 BK1 CV
    iterate 2 first | (refine seqP (v := ?_) (a' := ?_) rfl rfl (by kernel_rfl) (fun _ _ _ h => h) (Or.inl ⟨by kernel_rfl, ?_⟩) ?_ ?_; rotate_left; (intro w'; go_simp; with_reducible rfl); rotate_left; (simp only [Act.put, sa_, sb_, sc_, i64_w, i32_w]; rfl)) | (refine seqL (v := ?_) (a' := ?_) rfl rfl (by kernel_rfl) (fun _ _ _ h => h) (Or.inl ⟨by kernel_rfl, ?_⟩) hHeld ?_ ?_; rotate_left; (rintro w' ⟨s0, s1, s2, s3, s4, s5, s6, s7, s8, s9, s10, s11, s12⟩; go_simp; with_reducible rfl); rotate_left; (simp only [Act.put, sa_, sb_, sc_, i64_w, i32_w]; rfl))
    iterate 18 first | (refine seqP (v := ?_) (a' := ?_) rfl rfl (by kernel_rfl) (fun _ _ _ h => h) (Or.inl ⟨by kernel_rfl, ?_⟩) ?_ ?_; rotate_left; (intro w'; go_simp; with_reducible rfl); rotate_left; (simp only [Act.put, sa_, sb_, sc_, i64_w, i32_w]; rfl)) | (refine seqL (v := ?_) (a' := ?_) rfl rfl (by kernel_rfl) (fun _ _ _ h => h) (Or.inl ⟨by kernel_rfl, ?_⟩) hHeld ?_ ?_; rotate_left; (rintro w' ⟨s0, s1, s2, s3, s4, s5, s6, s7, s8, s9, s10, s11, s12⟩; go_simp; with_reducible rfl); rotate_left; (simp only [Act.put, sa_, sb_, sc_, i64_w, i32_w]; rfl))
    refine seqG (fn := Try.f46) rfl rfl (by kernel_rfl) rfl Try.func46 (by kernel_rfl) (by kernel_rfl) #[.agg #[.int .i64 a0_0, .int .i64 a0_1, .slice A0_2 l0_2.length c0_2, .slice A0_3 l0_3.length c0_3, .int .i64 a0_4, .string a0_5, .slice A0_6 l0_6.length c0_6], .slice (some ad) l1.length c1, .int .i64 now, .string client, .int .i64 x0] (by kernel_rfl) (by (try simp only [List.map_toArray, List.map_cons, List.map_nil]); first | done | rfl) ?_
    with_reducible refine (COi.out _ HB2.out).mono ?_
    rintro e wg ⟨rfl, hb2⟩
    have HB3 := am_ (bt_ HB2.out hb2)
    have BK3 := am_ (kb_ BK2.out hb2)
    refine ⟨_, rfl, pinfoldref11_Pick.S_below hHeld hb2, fun hHeld => ⟨?_, ?_, ?_⟩⟩
    rotate_left
    ·simp only [Act.put, sa_, sb_, sc_, i64_w, i32_w]
     rfl
    clear hb2 HB2 BK2 COi
    iterate 1 first | (refine seqP (v := ?_) (a' := ?_) rfl rfl (by kernel_rfl) (fun _ _ _ h => h) (Or.inl ⟨by kernel_rfl, ?_⟩) ?_ ?_; rotate_left; (intro w'; go_simp; with_reducible rfl); rotate_left; (simp only [Act.put, sa_, sb_, sc_, i64_w, i32_w]; rfl)) | (refine seqL (v := ?_) (a' := ?_) rfl rfl (by kernel_rfl) (fun _ _ _ h => h) (Or.inl ⟨by kernel_rfl, ?_⟩) hHeld ?_ ?_; rotate_left; (rintro w' ⟨s0, s1, s2, s3, s4, s5, s6, s7, s8, s9, s10, s11, s12⟩; go_simp; with_reducible rfl); rotate_left; (simp only [Act.put, sa_, sb_, sc_, i64_w, i32_w]; rfl))
    cases T with
    | false =>
     have HN := am_ (show endP q a0_0 a0_1 l1 ((l1.drop (i + 1).toNat).find? (hadP q now client)) = (r1, r2) from he)
     clear he
     refine seqE (by kernel_rfl) ?_
     go_wp2
     go_roundg (l1.length - (i.toNat + 1))
     case measure => exact H3.out
     case rel => exact ⟨i + 1, H1.out, H2.out, by first | rfl | (rw [show wrap64 (i + 1) = i + 1 from (i64_w _).symm.trans H4.out]), HB3, BK3, HN⟩
    | true =>
     obtain ⟨e1, e2⟩ := Prod.mk.inj (show (x0, (0 : Int)) = (r1, r2) from he)
     replace e1 := am_ e1
     replace e2 := am_ e2
     clear he
     have hx0 := (HB3.out.cell (wb_ w _ hw0)).trans hw0
     refine seqE (by kernel_rfl) ?_
     go_wp2
     go_ret2
     exact ⟨by rw [← e1.out, ← e2.out] <;> rfl, HB3.out⟩
   ·have HE2 := am_ (show refGo l1 0 0 ((hostsFrom a0_0 (a0_1 + 1 - a0_0).toNat).filter q) = (r1, r2) by have he := HE.out; rw [List.drop_eq_nil_of_le (by omega)] at he; exact he)
    have u0 := bc_ BK.out 0
    have u1 := bc_ BK.out 1
    have u2 := bc_ BK.out 2
    have u3 := bc_ BK.out 3
    have u4 := bc_ BK.out 4
    have u5 := bc_ BK.out 5
    have u6 := bc_ BK.out 6
    clear HE HX
    go_wp2
    clear u0 u1 u2 u3 u4 u5 u6
    go_loopg [17, 18, 19] (a0_1 + 1 - a0_0).toNat (fun d vb vt vh w' => ∃ h best til : Int, a0_0 ≤ h ∧ (a0_1 + 1 - h).toNat = d ∧ vb = .int .i64 best ∧ vt = .int .i64 til ∧ vh = .int .i64 h ∧ Aside0 (Below w.heap.size w w') ∧ Aside0 (w'.heap[w.heap.size]? = some (.cells #[.int .i64 a0_0, .int .i64 a0_1, .slice A0_2 l0_2.length c0_2, .slice A0_3 l0_3.length c0_3, .int .i64 a0_4, .string a0_5, .slice A0_6 l0_6.length c0_6] 26)) ∧ Aside0 (refGo l1 best til ((hostsFrom h (a0_1 + 1 - h).toNat).filter q) = (r1, r2)))
    case atStart => exact ⟨a0_0, 0, 0, by omega, rfl, rfl, rfl, rfl, HB, BK, HE2⟩
    case round =>
     clear HB BK HE2
     obtain ⟨h, best, til, hh0, hh1, rfl, rfl, rfl, HB, BK, HE⟩ := hrel
     have u0 := bc_ BK.out 0
     have u1 := bc_ BK.out 1
     have u2 := bc_ BK.out 2
     have u3 := bc_ BK.out 3
     have u4 := bc_ BK.out 4
     have u5 := bc_ BK.out 5
     have u6 := bc_ BK.out 6
     have he := HE.out
     clear HE
     by_cases hle : h ≤ a0_1
     ·rw [show (a0_1 + 1 - h).toNat = (a0_1 + 1 - (h + 1)).toNat + 1 by omega] at he
      unfold hostsFrom at he
      rw [List.filter_cons] at he
      obtain ⟨T, hT⟩ : ∃ T, q h = T := ⟨_, rfl⟩
      have COi := am_ (fun W hb => CO.out h W hb)
      rw [hT] at he COi
      clear hT
      cases T with
      | false =>
       have HN := am_ (show refGo l1 best til ((hostsFrom (h + 1) (a0_1 + 1 - (h + 1)).toNat).filter q) = (r1, r2) from he)
       clear he
       go_wp2_with (first | (go_at_call 46; (with_reducible refine (COi.out _ (by repeat (with_reducible first | exact HB.out | apply p3_ | apply p1_ | apply p2_))).mono ?_); rintro e w5 ⟨rfl, hb2⟩; replace BK := am_ (kb_ BK.out hb2); replace HB := am_ (bt_ HB.out hb2); clear hb2; clear u0 u1 u2 u3 u4 u5 u6; have u0 := bc_ BK.out 0; have u1 := bc_ BK.out 1; have u2 := bc_ BK.out 2; have u3 := bc_ BK.out 3; have u4 := bc_ BK.out 4; have u5 := bc_ BK.out 5; have u6 := bc_ BK.out 6))
       go_roundg (a0_1 + 1 - (h + 1)).toNat
       case measure => first | omega | (simp; omega)
       case rel => exact ⟨h + 1, best, til, by omega, by omega, rfl, rfl, by first | rfl | go_num, ⟨(by repeat (with_reducible first | exact HB.out | apply p3_ | apply p1_ | apply p2_))⟩, ⟨(by (with_reducible repeat (first | exact BK.out | refine k2_ ?_ _ | refine k3_ ?_ | refine k1_ ?_ _)))⟩, HN⟩
      | true =>
      rw [if_pos rfl] at he
      unfold refGo at he
      cases hf : findL l1 h with
      | none =>
       rw [hf] at he
       obtain ⟨e1, e2⟩ := Prod.mk.inj (show (h, (0 : Int)) = (r1, r2) from he)
       replace e1 := am_ e1
       replace e2 := am_ e2
       have CG := am_ (fun W hb => CFi.out h ⟨0, 0, (⟨#[]⟩ : ByteArray), 0, (⟨#[]⟩ : ByteArray), false⟩ false (by rw [hf]; exact ⟨rfl, rfl⟩) W hb)
       clear he hf
       go_wp2_with (first | (go_at_call 46; (with_reducible refine (COi.out _ (by repeat (with_reducible first | exact HB.out | apply p3_ | apply p1_ | apply p2_))).mono ?_); rintro e w5 ⟨rfl, hb2⟩; replace BK := am_ (kb_ BK.out hb2); replace HB := am_ (bt_ HB.out hb2); clear hb2; clear u0 u1 u2 u3 u4 u5 u6; have u0 := bc_ BK.out 0; have u1 := bc_ BK.out 1; have u2 := bc_ BK.out 2; have u3 := bc_ BK.out 3; have u4 := bc_ BK.out 4; have u5 := bc_ BK.out 5; have u6 := bc_ BK.out 6) | (go_at_call 21; (with_reducible refine (CG.out _ HB.out).mono ?_); rintro e w6 ⟨rfl, hb2⟩; replace BK := am_ (kb_ BK.out hb2); replace HB := am_ (bt_ HB.out hb2); clear hb2 u0 u1 u2 u3 u4 u5 u6))
       go_ret2
       exact ⟨by rw [← e1.out, ← e2.out] <;> rfl, (by repeat (with_reducible first | exact HB.out | apply p3_ | apply p1_ | apply p2_))⟩
      | some y =>
       rw [hf] at he
       obtain ⟨y0, y1, y2, y3, y4, y5⟩ := y
       have he2 : (if best = 0 ∨ y3 < til then refGo l1 h y3 ((hostsFrom (h + 1) (a0_1 + 1 - (h + 1)).toNat).filter q) else refGo l1 best til ((hostsFrom (h + 1) (a0_1 + 1 - (h + 1)).toNat).filter q)) = (r1, r2) := he
       have CG := am_ (fun W hb => CFi.out h ⟨y0, y1, y2, y3, y4, y5⟩ true (by rw [hf]; exact ⟨rfl, rfl⟩) W hb)
       clear he hf
       by_cases c1 : best = 0 ∨ y3 < til
       ·rw [if_pos c1] at he2
        have HN := am_ he2
        clear he2
        have c1' : (best == 0) = true ∨ (best == 0) = false ∧ decide (y3 < til) = true := by
         by_cases e : best = 0
         ·exact .inl (by simpa using e)
         ·exact .inr ⟨by simpa using e, decide_eq_true (c1.resolve_left e)⟩
        clear c1
        rcases c1' with c1 | ⟨c1, c2⟩
        all_goals go_wp2_with (first | (go_at_call 46; (with_reducible refine (COi.out _ (by repeat (with_reducible first | exact HB.out | apply p3_ | apply p1_ | apply p2_))).mono ?_); rintro e w5 ⟨rfl, hb2⟩; replace BK := am_ (kb_ BK.out hb2); replace HB := am_ (bt_ HB.out hb2); clear hb2; clear u0 u1 u2 u3 u4 u5 u6; have u0 := bc_ BK.out 0; have u1 := bc_ BK.out 1; have u2 := bc_ BK.out 2; have u3 := bc_ BK.out 3; have u4 := bc_ BK.out 4; have u5 := bc_ BK.out 5; have u6 := bc_ BK.out 6) | (go_at_call 21; (with_reducible refine (CG.out _ HB.out).mono ?_); rintro e w6 ⟨rfl, hb2⟩; replace BK := am_ (kb_ BK.out hb2); replace HB := am_ (bt_ HB.out hb2); clear hb2 u0 u1 u2 u3 u4 u5 u6))
        all_goals replace HB := am_ (p3_ HB.out (.cells #[.int .i64 y0, .int .i64 y1, .string y2, .int .i64 y3, .string y4, .bool y5] 37))
        all_goals replace BK := am_ (k1_ BK.out (.cells #[.int .i64 y0, .int .i64 y1, .string y2, .int .i64 y3, .string y4, .bool y5] 37))
        all_goals
         go_roundg (a0_1 + 1 - (h + 1)).toNat
         case measure => first | omega | (simp; omega)
         case rel => exact ⟨h + 1, h, y3, by omega, by omega, rfl, rfl, by first | rfl | go_num, HB, BK, HN⟩
       ·rw [if_neg c1] at he2
        have HN := am_ he2
        have c2 : (best == 0) = false := by simpa using fun e => c1 (.inl e)
        have c3 : decide (y3 < til) = false := decide_eq_false (fun e => c1 (.inr e))
        clear c1 he2
        go_wp2_with (first | (go_at_call 46; (with_reducible refine (COi.out _ (by repeat (with_reducible first | exact HB.out | apply p3_ | apply p1_ | apply p2_))).mono ?_); rintro e w5 ⟨rfl, hb2⟩; replace BK := am_ (kb_ BK.out hb2); replace HB := am_ (bt_ HB.out hb2); clear hb2; clear u0 u1 u2 u3 u4 u5 u6; have u0 := bc_ BK.out 0; have u1 := bc_ BK.out 1; have u2 := bc_ BK.out 2; have u3 := bc_ BK.out 3; have u4 := bc_ BK.out 4; have u5 := bc_ BK.out 5; have u6 := bc_ BK.out 6) | (go_at_call 21; (with_reducible refine (CG.out _ HB.out).mono ?_); rintro e w6 ⟨rfl, hb2⟩; replace BK := am_ (kb_ BK.out hb2); replace HB := am_ (bt_ HB.out hb2); clear hb2 u0 u1 u2 u3 u4 u5 u6))
        replace HB := am_ (p3_ HB.out (.cells #[.int .i64 y0, .int .i64 y1, .string y2, .int .i64 y3, .string y4, .bool y5] 37))
        replace BK := am_ (k1_ BK.out (.cells #[.int .i64 y0, .int .i64 y1, .string y2, .int .i64 y3, .string y4, .bool y5] 37))
        go_roundg (a0_1 + 1 - (h + 1)).toNat
        case measure => first | omega | (simp; omega)
        case rel => exact ⟨h + 1, best, til, by omega, by omega, rfl, rfl, by first | rfl | go_num, ⟨(by repeat (with_reducible first | exact HB.out | apply p3_ | apply p1_ | apply p2_))⟩, ⟨(by (with_reducible repeat (first | exact BK.out | refine k2_ ?_ _ | refine k3_ ?_ | refine k1_ ?_ _)))⟩, HN⟩
     ·rw [show (a0_1 + 1 - h).toNat = 0 by omega] at he
      have he2 : (if best = 0 then ((0 : Int), (1401 : Int)) else (best, 0)) = (r1, r2) := he
      clear he
      by_cases e : best = 0
      ·subst e
       rw [if_pos rfl] at he2
       obtain ⟨rfl, rfl⟩ := Prod.mk.inj he2
       clear he2
       go_wp2
       go_ret2
       exact ⟨rfl, HB.out⟩
      ·rw [if_neg e] at he2
       obtain ⟨e1, e2⟩ := Prod.mk.inj he2
       have c2 : (best == 0) = false := by simpa using e
       replace e1 := am_ e1
       replace e2 := am_ e2
       clear he2 e
       go_wp2
       go_ret2
       exact ⟨by rw [← e1.out, ← e2.out] <;> rfl, HB.out⟩

/-! ### pinfoldlaw19_SweepPick: function 3 -/
def pinfoldlaw19_SweepPick.f (k : Nat) (a0_0 : Int) (a0_1 : Int) (l0_2 : List Int) (l0_3 : List (S118)) (a0_4 : Int) (a0_5 : ByteArray) (l0_6 : List (S139)) (l1 : List (S37)) (a2 : Int) (a3 : ByteArray) (a4 : Int) : Option (Bool) := (pinfoldlaw19_awake.f k).bind fun t171 => (if t171 = true then ((sweep_Sweep.f k l1 a2).bind fun bt172 => ((pinfoldref11_Pick_c.f a0_0 a0_1 l0_2 l0_3 a0_4 a0_5 l0_6 l1 a2 a3 a4).bind fun bt176 => ((pinfoldref11_Pick_c.f a0_0 a0_1 l0_2 l0_3 a0_4 a0_5 l0_6 bt172.1 a2 a3 a4).bind fun bt178 => ((pinfoldlaw0_Num.f bt172.2).bind fun t180 => (if t180 = 0 then (if bt176.1 = bt178.1 then (some (bt176.2 == bt178.2)) else (none)) else (some ((bt172.1.length : Int) == 0))))))) else (none))
theorem pinfoldlaw19_SweepPick.mono : ∀ a0 a1 a2 a3 a4 a5 a6 a7 a8 a9 a10 k, LeO (pinfoldlaw19_SweepPick.f k a0 a1 a2 a3 a4 a5 a6 a7 a8 a9 a10) (pinfoldlaw19_SweepPick.f (k + 1) a0 a1 a2 a3 a4 a5 a6 a7 a8 a9 a10) := by
 intro a0 a1 a2 a3 a4 a5 a6 a7 a8 a9 a10 k
 unfold pinfoldlaw19_SweepPick.f
 repeat' first
   | (with_reducible exact pinfoldlaw19_awake.mono _)
   | (with_reducible exact sweep_Sweep.mono _ _ _)
   | (with_reducible exact LeO.refl _)
   | (with_reducible exact LeO.none _)
   | (with_reducible refine LeO.ite ?_ ?_)
   | (with_reducible refine LeO.bind ?_ (fun _ => ?_))
   | exact pinfoldlaw19_awake.mono _
   | exact sweep_Sweep.mono _ _ _
   | exact LeO.none _
   | refine LeO.ite ?_ ?_
   | refine LeO.bind ?_ (fun _ => ?_)
set_option maxHeartbeats 8000000 in
set_option maxRecDepth 100000 in
theorem pinfoldlaw19_SweepPick.calls (k : Nat) (a0_0 : Int) (a0_1 : Int) (A0_2 : Option Addr) (c0_2 : Nat) (l0_2 : List Int) (A0_3 : Option Addr) (c0_3 : Nat) (l0_3 : List (S118)) (a0_4 : Int) (a0_5 : ByteArray) (A0_6 : Option Addr) (c0_6 : Nat) (l0_6 : List (S139)) (A1 : Option Addr) (c1 : Nat) (l1 : List (S37)) (a2 : Int) (a3 : ByteArray) (a4 : Int) (r : Bool) (w : World) (hr0_2 : Kd.C (Kd.int .i64) w A0_2 l0_2.length l0_2) (hc0_2 : l0_2.length ≤ c0_2) (hr0_3 : Kd.C k118 w A0_3 l0_3.length l0_3) (hc0_3 : l0_3.length ≤ c0_3) (hr0_6 : Kd.C k139 w A0_6 l0_6.length l0_6) (hc0_6 : l0_6.length ≤ c0_6) (hr1 : Kd.C k37 w A1 l1.length l1) (hc1 : l1.length ≤ c1) (h : pinfoldlaw19_SweepPick.f k a0_0 a0_1 l0_2 l0_3 a0_4 a0_5 l0_6 l1 a2 a3 a4 = some r) :
  Calls Try.prog 3 #[.agg #[.int .i64 a0_0, .int .i64 a0_1, .slice A0_2 l0_2.length c0_2, .slice A0_3 l0_3.length c0_3, .int .i64 a0_4, .string a0_5, .slice A0_6 l0_6.length c0_6], .slice A1 l1.length c1, .int .i64 a2, .string a3, .int .i64 a4] w fun e w' => e = .returned (.bool r) ∧ Below w.heap.size w w' := by
 have hu26 := Try.underlying26
 have HR0_2 := am_ hr0_2
 have HC0_2 := am_ hc0_2
 clear hr0_2 hc0_2
 have HR0_3 := am_ hr0_3
 have HC0_3 := am_ hc0_3
 clear hr0_3 hc0_3
 have HR0_6 := am_ hr0_6
 have HC0_6 := am_ hc0_6
 clear hr0_6 hc0_6
 have HR1 := am_ hr1
 have HC1 := am_ hc1
 clear hr1 hc1
 have HB := am_ (Below.refl w.heap.size w)
 have H : ((pinfoldlaw19_awake.f k).bind fun t171 => (if t171 = true then ((sweep_Sweep.f k l1 a2).bind fun bt172 => ((pinfoldref11_Pick_c.f a0_0 a0_1 l0_2 l0_3 a0_4 a0_5 l0_6 l1 a2 a3 a4).bind fun bt176 => ((pinfoldref11_Pick_c.f a0_0 a0_1 l0_2 l0_3 a0_4 a0_5 l0_6 bt172.1 a2 a3 a4).bind fun bt178 => ((pinfoldlaw0_Num.f bt172.2).bind fun t180 => (if t180 = 0 then (if bt176.1 = bt178.1 then (some (bt176.2 == bt178.2)) else (none)) else (some ((bt172.1.length : Int) == 0))))))) else (none))) = some r := h
 clear h
 replace H := e4_ H
 obtain ⟨t171, A60, H⟩ := H
 replace H : (if t171 = true then ((sweep_Sweep.f k l1 a2).bind fun bt172 => ((pinfoldref11_Pick_c.f a0_0 a0_1 l0_2 l0_3 a0_4 a0_5 l0_6 l1 a2 a3 a4).bind fun bt176 => ((pinfoldref11_Pick_c.f a0_0 a0_1 l0_2 l0_3 a0_4 a0_5 l0_6 bt172.1 a2 a3 a4).bind fun bt178 => ((pinfoldlaw0_Num.f bt172.2).bind fun t180 => (if t180 = 0 then (if bt176.1 = bt178.1 then (some (bt176.2 == bt178.2)) else (none)) else (some ((bt172.1.length : Int) == 0))))))) else (none)) = some r := H
 have A6 := am_ A60
 clear A60
 by_cases c7 : t171 = true
 ·subst c7
  have H1 : ((sweep_Sweep.f k l1 a2).bind fun bt172 => ((pinfoldref11_Pick_c.f a0_0 a0_1 l0_2 l0_3 a0_4 a0_5 l0_6 l1 a2 a3 a4).bind fun bt176 => ((pinfoldref11_Pick_c.f a0_0 a0_1 l0_2 l0_3 a0_4 a0_5 l0_6 bt172.1 a2 a3 a4).bind fun bt178 => ((pinfoldlaw0_Num.f bt172.2).bind fun t180 => (if t180 = 0 then (if bt176.1 = bt178.1 then (some (bt176.2 == bt178.2)) else (none)) else (some ((bt172.1.length : Int) == 0))))))) = some r := by rw [if_pos rfl] at H; exact H
  clear H
  have H := H1
  clear H1
  replace H := e4_ H
  obtain ⟨⟨t172, t173⟩, A80, H⟩ := H
  replace H : ((pinfoldref11_Pick_c.f a0_0 a0_1 l0_2 l0_3 a0_4 a0_5 l0_6 l1 a2 a3 a4).bind fun bt176 => ((pinfoldref11_Pick_c.f a0_0 a0_1 l0_2 l0_3 a0_4 a0_5 l0_6 t172 a2 a3 a4).bind fun bt178 => ((pinfoldlaw0_Num.f t173).bind fun t180 => (if t180 = 0 then (if bt176.1 = bt178.1 then (some (bt176.2 == bt178.2)) else (none)) else (some ((t172.length : Int) == 0)))))) = some r := H
  have A8 := am_ A80
  clear A80
  replace H := e4_ H
  obtain ⟨⟨t176, t177⟩, A90, H⟩ := H
  replace H : ((pinfoldref11_Pick_c.f a0_0 a0_1 l0_2 l0_3 a0_4 a0_5 l0_6 t172 a2 a3 a4).bind fun bt178 => ((pinfoldlaw0_Num.f t173).bind fun t180 => (if t180 = 0 then (if t176 = bt178.1 then (some (t177 == bt178.2)) else (none)) else (some ((t172.length : Int) == 0))))) = some r := H
  have A9 := am_ A90
  clear A90
  replace H := e4_ H
  obtain ⟨⟨t178, t179⟩, A100, H⟩ := H
  replace H : ((pinfoldlaw0_Num.f t173).bind fun t180 => (if t180 = 0 then (if t176 = t178 then (some (t177 == t179)) else (none)) else (some ((t172.length : Int) == 0)))) = some r := H
  have A10 := am_ A100
  clear A100
  replace H := e4_ H
  obtain ⟨t180, A110, H⟩ := H
  replace H : (if t180 = 0 then (if t176 = t178 then (some (t177 == t179)) else (none)) else (some ((t172.length : Int) == 0))) = some r := H
  have A11 := am_ A110
  clear A110
  by_cases c12 : t180 = 0
  ·rw [if_pos c12] at H
   have c12b0 : (t180 == 0) = true := beq_iff_eq.mpr c12
   have c12b1 : (t180 != 0) = false := e1_ c12
   clear c12
   by_cases c13 : t176 = t178
   rotate_left
   ·rw [if_neg c13] at H
    exact absurd H (by simp)
   rw [if_pos c13] at H
   have c13b0 : (t176 == t178) = true := beq_iff_eq.mpr c13
   have c13b1 : (t176 != t178) = false := e1_ c13
   clear c13
   obtain rfl := e5_ H
   go_enter Try.func3, Try.ntmps3
   go_wp2_with (first | ((with_reducible refine gate_dst (N := 5) rfl ?_); refine box_event ?hg (N := 5) ?hd (cs := #[.int .i64 a0_0, .int .i64 a0_1, .slice A0_2 l0_2.length c0_2, .slice A0_3 l0_3.length c0_3, .int .i64 a0_4, .string a0_5, .slice A0_6 l0_6.length c0_6]) (t := 26) ?hr ?_; (case hd => rfl); (case hg => rfl); (case hr => first | (go_simp; done) | (go_simp; rfl)); intro gb170 hg w14 hbox hb; have n0_ := am_ (bt_ (by repeat (with_reducible first | exact HB.out | apply p3_ | apply p1_ | apply p2_)) hb); have n1_ := am_ (hbox); have n2_ := am_ ((by rw [hg]; exact (bz_ (by repeat (with_reducible first | exact HB.out | apply p3_ | apply p1_ | apply p2_))) : w.heap.size ≤ gb170)); have n3_ := am_ ((by rw [hg]; exact (bz_ (by repeat (with_reducible first | exact HB.out | apply p3_ | apply p1_ | apply p2_))) : w.heap.size ≤ gb170)); clear HB; have HB := n0_; have BK170 := n1_; have GW170 := n2_; have GE170 := n3_; clear n0_ n1_ n2_ n3_; clear hb hbox hg) | ((with_reducible refine gate_callee (f := 13) rfl ?_); refine goesL_ (some 17) rfl rfl Try.func13 (by kernel_rfl) rfl #[] rfl (by (try simp only [List.map_toArray, List.map_cons, List.map_nil]); first | done | rfl | (simp only [List.length_drop, List.length_take]; rfl)) ?_; (with_reducible refine (pinfoldlaw19_awake.calls k  true _ A6.out).mono ?_); rintro e w15 ⟨rfl, hb⟩; refine ⟨_, rfl, ?_⟩; have n0_ := am_ (kb_ (g := gb170) (o := .cells #[.int .i64 a0_0, .int .i64 a0_1, .slice A0_2 l0_2.length c0_2, .slice A0_3 l0_3.length c0_3, .int .i64 a0_4, .string a0_5, .slice A0_6 l0_6.length c0_6] 26 (0, 0)) (by (with_reducible repeat (first | refine k2_ ?_ _ | refine k3_ ?_ | refine k1_ ?_ _)); exact BK170.out) hb); have n1_ := am_ (bt_ (by repeat (with_reducible first | exact HB.out | apply p3_ | apply p1_ | apply p2_ | refine bs_ ?_ GE170.out)) hb); clear BK170; clear HB; have BK170 := n0_; have HB := n1_; clear n0_ n1_; (try clear hb)) | ((with_reducible refine gate_callee (f := 14) rfl ?_); refine goesL_ (some 22) rfl rfl Try.func14 (by kernel_rfl) rfl #[.slice A1 l1.length c1, .int .i64 a2] rfl (by (try simp only [List.map_toArray, List.map_cons, List.map_nil]); first | done | rfl | (simp only [List.length_drop, List.length_take]; rfl)) ?_; (with_reducible refine (sweep_Sweep.calls k _ _ l1 a2 t172 t173 _ ?side1 ?side2 A8.out).mono ?_); (case side1 => repeat (first | exact (c4_ HR1.out HB.out) | (with_reducible refine c1_ ?_ _) | (with_reducible refine c2_ ?_ _) | (with_reducible refine c3_ ?_))); (case side2 => exact HC1.out); rintro e w16 ⟨v174, rfl, ho0, hb⟩; refine ⟨_, rfl, ?_⟩; have n0_ := am_ (Kd.R_lower ho0 (bz_ (by repeat (with_reducible first | exact HB.out | apply p3_ | apply p1_ | apply p2_ | refine bs_ ?_ GE170.out)))); have n1_ := am_ (kb_ (g := gb170) (o := .cells #[.int .i64 a0_0, .int .i64 a0_1, .slice A0_2 l0_2.length c0_2, .slice A0_3 l0_3.length c0_3, .int .i64 a0_4, .string a0_5, .slice A0_6 l0_6.length c0_6] 26 (0, 0)) (by (with_reducible repeat (first | refine k2_ ?_ _ | refine k3_ ?_ | refine k1_ ?_ _)); exact BK170.out) hb); have n2_ := am_ (bt_ (by repeat (with_reducible first | exact HB.out | apply p3_ | apply p1_ | apply p2_ | refine bs_ ?_ GE170.out)) hb); clear BK170; clear HB; have HO175 := n0_; have BK170 := n1_; have HB := n2_; clear n0_ n1_ n2_; (try clear hb); (try clear ho0); have hcz17_0 : w16.cell? ⟨gb170, 0, none⟩ = some (.int .i64 a0_0) := (bc_ BK170.out 0).trans rfl; have hcz17_1 : w16.cell? ⟨gb170, 1, none⟩ = some (.int .i64 a0_1) := (bc_ BK170.out 1).trans rfl; have hcz17_2 : w16.cell? ⟨gb170, 2, none⟩ = some (.slice A0_2 l0_2.length c0_2) := (bc_ BK170.out 2).trans rfl; have hcz17_3 : w16.cell? ⟨gb170, 3, none⟩ = some (.slice A0_3 l0_3.length c0_3) := (bc_ BK170.out 3).trans rfl; have hcz17_4 : w16.cell? ⟨gb170, 4, none⟩ = some (.int .i64 a0_4) := (bc_ BK170.out 4).trans rfl; have hcz17_5 : w16.cell? ⟨gb170, 5, none⟩ = some (.string a0_5) := (bc_ BK170.out 5).trans rfl; have hcz17_6 : w16.cell? ⟨gb170, 6, none⟩ = some (.slice A0_6 l0_6.length c0_6) := (bc_ BK170.out 6).trans rfl; have hfz17_0 := bf_ BK170.out 0; have hfz17_1 := bf_ BK170.out 1; have hfz17_2 := bf_ BK170.out 2; have hfz17_3 := bf_ BK170.out 3; have hfz17_4 := bf_ BK170.out 4; have hfz17_5 := bf_ BK170.out 5; have hfz17_6 := bf_ BK170.out 6) | ((with_reducible refine gate_callee (f := 15) rfl ?_); refine goesL_ (some 31) rfl rfl Try.func15 (by kernel_rfl) rfl #[.agg #[.int .i64 a0_0, .int .i64 a0_1, .slice A0_2 l0_2.length c0_2, .slice A0_3 l0_3.length c0_3, .int .i64 a0_4, .string a0_5, .slice A0_6 l0_6.length c0_6], .slice A1 l1.length c1, .int .i64 a2, .string a3, .int .i64 a4] rfl (by (try simp only [List.map_toArray, List.map_cons, List.map_nil]); first | done | rfl | (simp only [List.length_drop, List.length_take]; rfl)) ?_; (with_reducible refine (pinfoldref11_Pick_c.calls a0_0 a0_1 _ _ l0_2 _ _ l0_3 a0_4 a0_5 _ _ l0_6 _ _ l1 a2 a3 a4 t176 t177 _ ?side1 ?side2 ?side3 ?side4 ?side5 ?side6 ?side7 ?side8 A9.out).mono ?_); (case side1 => repeat (first | exact (c4_ HR0_2.out HB.out) | (with_reducible refine c1_ ?_ _) | (with_reducible refine c2_ ?_ _) | (with_reducible refine c3_ ?_))); (case side2 => exact HC0_2.out); (case side3 => repeat (first | exact (c4_ HR0_3.out HB.out) | (with_reducible refine c1_ ?_ _) | (with_reducible refine c2_ ?_ _) | (with_reducible refine c3_ ?_))); (case side4 => exact HC0_3.out); (case side5 => repeat (first | exact (c4_ HR0_6.out HB.out) | (with_reducible refine c1_ ?_ _) | (with_reducible refine c2_ ?_ _) | (with_reducible refine c3_ ?_))); (case side6 => exact HC0_6.out); (case side7 => repeat (first | exact (c4_ HR1.out HB.out) | (with_reducible refine c1_ ?_ _) | (with_reducible refine c2_ ?_ _) | (with_reducible refine c3_ ?_))); (case side8 => exact HC1.out); rintro e w18 ⟨rfl, hb⟩; refine ⟨_, rfl, ?_⟩; have n0_ := am_ (Kd.R_below (by (with_reducible repeat (first | apply r1_ | apply r2_ | apply r3_)); exact HO175.out) hb); have n1_ := am_ (kb_ (g := gb170) (o := .cells #[.int .i64 a0_0, .int .i64 a0_1, .slice A0_2 l0_2.length c0_2, .slice A0_3 l0_3.length c0_3, .int .i64 a0_4, .string a0_5, .slice A0_6 l0_6.length c0_6] 26 (0, 0)) (by (with_reducible repeat (first | refine k2_ ?_ _ | refine k3_ ?_ | refine k1_ ?_ _)); exact BK170.out) hb); have n2_ := am_ (bt_ (by repeat (with_reducible first | exact HB.out | apply p3_ | apply p1_ | apply p2_ | refine bs_ ?_ GE170.out)) hb); clear HO175; clear BK170; clear HB; have HO175 := n0_; have BK170 := n1_; have HB := n2_; clear n0_ n1_ n2_; (try clear hb); have hcz19_0 : w18.cell? ⟨gb170, 0, none⟩ = some (.int .i64 a0_0) := (bc_ BK170.out 0).trans rfl; have hcz19_1 : w18.cell? ⟨gb170, 1, none⟩ = some (.int .i64 a0_1) := (bc_ BK170.out 1).trans rfl; have hcz19_2 : w18.cell? ⟨gb170, 2, none⟩ = some (.slice A0_2 l0_2.length c0_2) := (bc_ BK170.out 2).trans rfl; have hcz19_3 : w18.cell? ⟨gb170, 3, none⟩ = some (.slice A0_3 l0_3.length c0_3) := (bc_ BK170.out 3).trans rfl; have hcz19_4 : w18.cell? ⟨gb170, 4, none⟩ = some (.int .i64 a0_4) := (bc_ BK170.out 4).trans rfl; have hcz19_5 : w18.cell? ⟨gb170, 5, none⟩ = some (.string a0_5) := (bc_ BK170.out 5).trans rfl; have hcz19_6 : w18.cell? ⟨gb170, 6, none⟩ = some (.slice A0_6 l0_6.length c0_6) := (bc_ BK170.out 6).trans rfl; have hfz19_0 := bf_ BK170.out 0; have hfz19_1 := bf_ BK170.out 1; have hfz19_2 := bf_ BK170.out 2; have hfz19_3 := bf_ BK170.out 3; have hfz19_4 := bf_ BK170.out 4; have hfz19_5 := bf_ BK170.out 5; have hfz19_6 := bf_ BK170.out 6; obtain ⟨Ao20, co20, eo20⟩ := Kd.R_slice HO175.out; subst eo20) | ((with_reducible refine gate_callee (f := 15) rfl ?_); refine goesL_ (some 40) rfl rfl Try.func15 (by kernel_rfl) rfl #[.agg #[.int .i64 a0_0, .int .i64 a0_1, .slice A0_2 l0_2.length c0_2, .slice A0_3 l0_3.length c0_3, .int .i64 a0_4, .string a0_5, .slice A0_6 l0_6.length c0_6], .slice Ao20 t172.length co20, .int .i64 a2, .string a3, .int .i64 a4] rfl (by (try simp only [List.map_toArray, List.map_cons, List.map_nil]); first | done | rfl | (simp only [List.length_drop, List.length_take]; rfl)) ?_; (with_reducible refine (pinfoldref11_Pick_c.calls a0_0 a0_1 _ _ l0_2 _ _ l0_3 a0_4 a0_5 _ _ l0_6 _ _ t172 a2 a3 a4 t178 t179 _ ?side1 ?side2 ?side3 ?side4 ?side5 ?side6 ?side7 ?side8 A10.out).mono ?_); (case side1 => repeat (first | exact (c4_ HR0_2.out HB.out) | (with_reducible refine c1_ ?_ _) | (with_reducible refine c2_ ?_ _) | (with_reducible refine c3_ ?_))); (case side2 => exact HC0_2.out); (case side3 => repeat (first | exact (c4_ HR0_3.out HB.out) | (with_reducible refine c1_ ?_ _) | (with_reducible refine c2_ ?_ _) | (with_reducible refine c3_ ?_))); (case side4 => exact HC0_3.out); (case side5 => repeat (first | exact (c4_ HR0_6.out HB.out) | (with_reducible refine c1_ ?_ _) | (with_reducible refine c2_ ?_ _) | (with_reducible refine c3_ ?_))); (case side6 => exact HC0_6.out); (case side7 => repeat (first | exact (Kd.R_reads' HO175.out).2.2 | (with_reducible refine c1_ ?_ _) | (with_reducible refine c2_ ?_ _) | (with_reducible refine c3_ ?_))); (case side8 => exact (Kd.R_reads' HO175.out).2.1); rintro e w21 ⟨rfl, hb⟩; refine ⟨_, rfl, ?_⟩; have n0_ := am_ (Kd.R_below (by (with_reducible repeat (first | apply r1_ | apply r2_ | apply r3_)); exact HO175.out) hb); have n1_ := am_ (kb_ (g := gb170) (o := .cells #[.int .i64 a0_0, .int .i64 a0_1, .slice A0_2 l0_2.length c0_2, .slice A0_3 l0_3.length c0_3, .int .i64 a0_4, .string a0_5, .slice A0_6 l0_6.length c0_6] 26 (0, 0)) (by (with_reducible repeat (first | refine k2_ ?_ _ | refine k3_ ?_ | refine k1_ ?_ _)); exact BK170.out) hb); have n2_ := am_ (bt_ (by repeat (with_reducible first | exact HB.out | apply p3_ | apply p1_ | apply p2_ | refine bs_ ?_ GE170.out)) hb); clear HO175; clear BK170; clear HB; have HO175 := n0_; have BK170 := n1_; have HB := n2_; clear n0_ n1_ n2_; (try clear hb)) | ((with_reducible refine gate_callee (f := 16) rfl ?_); refine goesL_ (some 44) rfl rfl Try.func16 (by kernel_rfl) rfl #[.int .i64 t173] rfl (by (try simp only [List.map_toArray, List.map_cons, List.map_nil]); first | done | rfl | (simp only [List.length_drop, List.length_take]; rfl)) ?_; (with_reducible refine (pinfoldlaw0_Num.calls t173 t180 _ A11.out).mono ?_); rintro e w' ⟨rfl, ⟨nd, rfl⟩⟩; refine ⟨_, rfl, ?_⟩))
   go_ret
   exact ⟨by first | rfl | (simp [errW_none, errW_some] <;> rfl) | (simp [*, errW_none, errW_some] <;> rfl), by repeat (with_reducible first | exact HB.out | apply p3_ | apply p1_ | apply p2_ | refine bs_ ?_ GE170.out)⟩
  rw [if_neg c12] at H
  have c12b0 : (t180 == 0) = false := e2_ c12
  have c12b1 : (t180 != 0) = true := bne_iff_ne.mpr c12
  obtain rfl := e5_ H
  go_enter Try.func3, Try.ntmps3
  go_wp2_with (first | ((with_reducible refine gate_dst (N := 5) rfl ?_); refine box_event ?hg (N := 5) ?hd (cs := #[.int .i64 a0_0, .int .i64 a0_1, .slice A0_2 l0_2.length c0_2, .slice A0_3 l0_3.length c0_3, .int .i64 a0_4, .string a0_5, .slice A0_6 l0_6.length c0_6]) (t := 26) ?hr ?_; (case hd => rfl); (case hg => rfl); (case hr => first | (go_simp; done) | (go_simp; rfl)); intro gb170 hg w22 hbox hb; have n0_ := am_ (bt_ (by repeat (with_reducible first | exact HB.out | apply p3_ | apply p1_ | apply p2_)) hb); have n1_ := am_ (hbox); have n2_ := am_ ((by rw [hg]; exact (bz_ (by repeat (with_reducible first | exact HB.out | apply p3_ | apply p1_ | apply p2_))) : w.heap.size ≤ gb170)); have n3_ := am_ ((by rw [hg]; exact (bz_ (by repeat (with_reducible first | exact HB.out | apply p3_ | apply p1_ | apply p2_))) : w.heap.size ≤ gb170)); clear HB; have HB := n0_; have BK170 := n1_; have GW170 := n2_; have GE170 := n3_; clear n0_ n1_ n2_ n3_; clear hb hbox hg) | ((with_reducible refine gate_callee (f := 13) rfl ?_); refine goesL_ (some 17) rfl rfl Try.func13 (by kernel_rfl) rfl #[] rfl (by (try simp only [List.map_toArray, List.map_cons, List.map_nil]); first | done | rfl | (simp only [List.length_drop, List.length_take]; rfl)) ?_; (with_reducible refine (pinfoldlaw19_awake.calls k  true _ A6.out).mono ?_); rintro e w23 ⟨rfl, hb⟩; refine ⟨_, rfl, ?_⟩; have n0_ := am_ (kb_ (g := gb170) (o := .cells #[.int .i64 a0_0, .int .i64 a0_1, .slice A0_2 l0_2.length c0_2, .slice A0_3 l0_3.length c0_3, .int .i64 a0_4, .string a0_5, .slice A0_6 l0_6.length c0_6] 26 (0, 0)) (by (with_reducible repeat (first | refine k2_ ?_ _ | refine k3_ ?_ | refine k1_ ?_ _)); exact BK170.out) hb); have n1_ := am_ (bt_ (by repeat (with_reducible first | exact HB.out | apply p3_ | apply p1_ | apply p2_ | refine bs_ ?_ GE170.out)) hb); clear BK170; clear HB; have BK170 := n0_; have HB := n1_; clear n0_ n1_; (try clear hb)) | ((with_reducible refine gate_callee (f := 14) rfl ?_); refine goesL_ (some 22) rfl rfl Try.func14 (by kernel_rfl) rfl #[.slice A1 l1.length c1, .int .i64 a2] rfl (by (try simp only [List.map_toArray, List.map_cons, List.map_nil]); first | done | rfl | (simp only [List.length_drop, List.length_take]; rfl)) ?_; (with_reducible refine (sweep_Sweep.calls k _ _ l1 a2 t172 t173 _ ?side1 ?side2 A8.out).mono ?_); (case side1 => repeat (first | exact (c4_ HR1.out HB.out) | (with_reducible refine c1_ ?_ _) | (with_reducible refine c2_ ?_ _) | (with_reducible refine c3_ ?_))); (case side2 => exact HC1.out); rintro e w24 ⟨v174, rfl, ho0, hb⟩; refine ⟨_, rfl, ?_⟩; have n0_ := am_ (Kd.R_lower ho0 (bz_ (by repeat (with_reducible first | exact HB.out | apply p3_ | apply p1_ | apply p2_ | refine bs_ ?_ GE170.out)))); have n1_ := am_ (kb_ (g := gb170) (o := .cells #[.int .i64 a0_0, .int .i64 a0_1, .slice A0_2 l0_2.length c0_2, .slice A0_3 l0_3.length c0_3, .int .i64 a0_4, .string a0_5, .slice A0_6 l0_6.length c0_6] 26 (0, 0)) (by (with_reducible repeat (first | refine k2_ ?_ _ | refine k3_ ?_ | refine k1_ ?_ _)); exact BK170.out) hb); have n2_ := am_ (bt_ (by repeat (with_reducible first | exact HB.out | apply p3_ | apply p1_ | apply p2_ | refine bs_ ?_ GE170.out)) hb); clear BK170; clear HB; have HO175 := n0_; have BK170 := n1_; have HB := n2_; clear n0_ n1_ n2_; (try clear hb); (try clear ho0); have hcz25_0 : w24.cell? ⟨gb170, 0, none⟩ = some (.int .i64 a0_0) := (bc_ BK170.out 0).trans rfl; have hcz25_1 : w24.cell? ⟨gb170, 1, none⟩ = some (.int .i64 a0_1) := (bc_ BK170.out 1).trans rfl; have hcz25_2 : w24.cell? ⟨gb170, 2, none⟩ = some (.slice A0_2 l0_2.length c0_2) := (bc_ BK170.out 2).trans rfl; have hcz25_3 : w24.cell? ⟨gb170, 3, none⟩ = some (.slice A0_3 l0_3.length c0_3) := (bc_ BK170.out 3).trans rfl; have hcz25_4 : w24.cell? ⟨gb170, 4, none⟩ = some (.int .i64 a0_4) := (bc_ BK170.out 4).trans rfl; have hcz25_5 : w24.cell? ⟨gb170, 5, none⟩ = some (.string a0_5) := (bc_ BK170.out 5).trans rfl; have hcz25_6 : w24.cell? ⟨gb170, 6, none⟩ = some (.slice A0_6 l0_6.length c0_6) := (bc_ BK170.out 6).trans rfl; have hfz25_0 := bf_ BK170.out 0; have hfz25_1 := bf_ BK170.out 1; have hfz25_2 := bf_ BK170.out 2; have hfz25_3 := bf_ BK170.out 3; have hfz25_4 := bf_ BK170.out 4; have hfz25_5 := bf_ BK170.out 5; have hfz25_6 := bf_ BK170.out 6) | ((with_reducible refine gate_callee (f := 15) rfl ?_); refine goesL_ (some 31) rfl rfl Try.func15 (by kernel_rfl) rfl #[.agg #[.int .i64 a0_0, .int .i64 a0_1, .slice A0_2 l0_2.length c0_2, .slice A0_3 l0_3.length c0_3, .int .i64 a0_4, .string a0_5, .slice A0_6 l0_6.length c0_6], .slice A1 l1.length c1, .int .i64 a2, .string a3, .int .i64 a4] rfl (by (try simp only [List.map_toArray, List.map_cons, List.map_nil]); first | done | rfl | (simp only [List.length_drop, List.length_take]; rfl)) ?_; (with_reducible refine (pinfoldref11_Pick_c.calls a0_0 a0_1 _ _ l0_2 _ _ l0_3 a0_4 a0_5 _ _ l0_6 _ _ l1 a2 a3 a4 t176 t177 _ ?side1 ?side2 ?side3 ?side4 ?side5 ?side6 ?side7 ?side8 A9.out).mono ?_); (case side1 => repeat (first | exact (c4_ HR0_2.out HB.out) | (with_reducible refine c1_ ?_ _) | (with_reducible refine c2_ ?_ _) | (with_reducible refine c3_ ?_))); (case side2 => exact HC0_2.out); (case side3 => repeat (first | exact (c4_ HR0_3.out HB.out) | (with_reducible refine c1_ ?_ _) | (with_reducible refine c2_ ?_ _) | (with_reducible refine c3_ ?_))); (case side4 => exact HC0_3.out); (case side5 => repeat (first | exact (c4_ HR0_6.out HB.out) | (with_reducible refine c1_ ?_ _) | (with_reducible refine c2_ ?_ _) | (with_reducible refine c3_ ?_))); (case side6 => exact HC0_6.out); (case side7 => repeat (first | exact (c4_ HR1.out HB.out) | (with_reducible refine c1_ ?_ _) | (with_reducible refine c2_ ?_ _) | (with_reducible refine c3_ ?_))); (case side8 => exact HC1.out); rintro e w26 ⟨rfl, hb⟩; refine ⟨_, rfl, ?_⟩; have n0_ := am_ (Kd.R_below (by (with_reducible repeat (first | apply r1_ | apply r2_ | apply r3_)); exact HO175.out) hb); have n1_ := am_ (kb_ (g := gb170) (o := .cells #[.int .i64 a0_0, .int .i64 a0_1, .slice A0_2 l0_2.length c0_2, .slice A0_3 l0_3.length c0_3, .int .i64 a0_4, .string a0_5, .slice A0_6 l0_6.length c0_6] 26 (0, 0)) (by (with_reducible repeat (first | refine k2_ ?_ _ | refine k3_ ?_ | refine k1_ ?_ _)); exact BK170.out) hb); have n2_ := am_ (bt_ (by repeat (with_reducible first | exact HB.out | apply p3_ | apply p1_ | apply p2_ | refine bs_ ?_ GE170.out)) hb); clear HO175; clear BK170; clear HB; have HO175 := n0_; have BK170 := n1_; have HB := n2_; clear n0_ n1_ n2_; (try clear hb); have hcz27_0 : w26.cell? ⟨gb170, 0, none⟩ = some (.int .i64 a0_0) := (bc_ BK170.out 0).trans rfl; have hcz27_1 : w26.cell? ⟨gb170, 1, none⟩ = some (.int .i64 a0_1) := (bc_ BK170.out 1).trans rfl; have hcz27_2 : w26.cell? ⟨gb170, 2, none⟩ = some (.slice A0_2 l0_2.length c0_2) := (bc_ BK170.out 2).trans rfl; have hcz27_3 : w26.cell? ⟨gb170, 3, none⟩ = some (.slice A0_3 l0_3.length c0_3) := (bc_ BK170.out 3).trans rfl; have hcz27_4 : w26.cell? ⟨gb170, 4, none⟩ = some (.int .i64 a0_4) := (bc_ BK170.out 4).trans rfl; have hcz27_5 : w26.cell? ⟨gb170, 5, none⟩ = some (.string a0_5) := (bc_ BK170.out 5).trans rfl; have hcz27_6 : w26.cell? ⟨gb170, 6, none⟩ = some (.slice A0_6 l0_6.length c0_6) := (bc_ BK170.out 6).trans rfl; have hfz27_0 := bf_ BK170.out 0; have hfz27_1 := bf_ BK170.out 1; have hfz27_2 := bf_ BK170.out 2; have hfz27_3 := bf_ BK170.out 3; have hfz27_4 := bf_ BK170.out 4; have hfz27_5 := bf_ BK170.out 5; have hfz27_6 := bf_ BK170.out 6; obtain ⟨Ao28, co28, eo28⟩ := Kd.R_slice HO175.out; subst eo28) | ((with_reducible refine gate_callee (f := 15) rfl ?_); refine goesL_ (some 40) rfl rfl Try.func15 (by kernel_rfl) rfl #[.agg #[.int .i64 a0_0, .int .i64 a0_1, .slice A0_2 l0_2.length c0_2, .slice A0_3 l0_3.length c0_3, .int .i64 a0_4, .string a0_5, .slice A0_6 l0_6.length c0_6], .slice Ao28 t172.length co28, .int .i64 a2, .string a3, .int .i64 a4] rfl (by (try simp only [List.map_toArray, List.map_cons, List.map_nil]); first | done | rfl | (simp only [List.length_drop, List.length_take]; rfl)) ?_; (with_reducible refine (pinfoldref11_Pick_c.calls a0_0 a0_1 _ _ l0_2 _ _ l0_3 a0_4 a0_5 _ _ l0_6 _ _ t172 a2 a3 a4 t178 t179 _ ?side1 ?side2 ?side3 ?side4 ?side5 ?side6 ?side7 ?side8 A10.out).mono ?_); (case side1 => repeat (first | exact (c4_ HR0_2.out HB.out) | (with_reducible refine c1_ ?_ _) | (with_reducible refine c2_ ?_ _) | (with_reducible refine c3_ ?_))); (case side2 => exact HC0_2.out); (case side3 => repeat (first | exact (c4_ HR0_3.out HB.out) | (with_reducible refine c1_ ?_ _) | (with_reducible refine c2_ ?_ _) | (with_reducible refine c3_ ?_))); (case side4 => exact HC0_3.out); (case side5 => repeat (first | exact (c4_ HR0_6.out HB.out) | (with_reducible refine c1_ ?_ _) | (with_reducible refine c2_ ?_ _) | (with_reducible refine c3_ ?_))); (case side6 => exact HC0_6.out); (case side7 => repeat (first | exact (Kd.R_reads' HO175.out).2.2 | (with_reducible refine c1_ ?_ _) | (with_reducible refine c2_ ?_ _) | (with_reducible refine c3_ ?_))); (case side8 => exact (Kd.R_reads' HO175.out).2.1); rintro e w29 ⟨rfl, hb⟩; refine ⟨_, rfl, ?_⟩; have n0_ := am_ (Kd.R_below (by (with_reducible repeat (first | apply r1_ | apply r2_ | apply r3_)); exact HO175.out) hb); have n1_ := am_ (kb_ (g := gb170) (o := .cells #[.int .i64 a0_0, .int .i64 a0_1, .slice A0_2 l0_2.length c0_2, .slice A0_3 l0_3.length c0_3, .int .i64 a0_4, .string a0_5, .slice A0_6 l0_6.length c0_6] 26 (0, 0)) (by (with_reducible repeat (first | refine k2_ ?_ _ | refine k3_ ?_ | refine k1_ ?_ _)); exact BK170.out) hb); have n2_ := am_ (bt_ (by repeat (with_reducible first | exact HB.out | apply p3_ | apply p1_ | apply p2_ | refine bs_ ?_ GE170.out)) hb); clear HO175; clear BK170; clear HB; have HO175 := n0_; have BK170 := n1_; have HB := n2_; clear n0_ n1_ n2_; (try clear hb)) | ((with_reducible refine gate_callee (f := 16) rfl ?_); refine goesL_ (some 44) rfl rfl Try.func16 (by kernel_rfl) rfl #[.int .i64 t173] rfl (by (try simp only [List.map_toArray, List.map_cons, List.map_nil]); first | done | rfl | (simp only [List.length_drop, List.length_take]; rfl)) ?_; (with_reducible refine (pinfoldlaw0_Num.calls t173 t180 _ A11.out).mono ?_); rintro e w' ⟨rfl, ⟨nd, rfl⟩⟩; refine ⟨_, rfl, ?_⟩))
  go_ret
  exact ⟨by first | rfl | (simp [errW_none, errW_some] <;> rfl) | (simp [*, errW_none, errW_some] <;> rfl), by repeat (with_reducible first | exact HB.out | apply p3_ | apply p1_ | apply p2_ | refine bs_ ?_ GE170.out)⟩
 replace c7 := e3_ c7
 subst c7
 have H1 : (none) = some r := by rw [if_neg (show ¬ (false = true) by decide)] at H; exact H
 clear H
 have H := H1
 clear H1
 exact absurd H (by simp)

/-- THE ONE PURE STATEMENT of pinfoldlaw19_SweepPick. -/
def pinfoldlaw19_SweepPick.Pure : Prop := ∀ (a0_0 : Int) (a0_1 : Int) (l0_2 : List Int) (l0_3 : List (S118)) (a0_4 : Int) (a0_5 : ByteArray) (l0_6 : List (S139)) (l1 : List (S37)) (a2 : Int) (a3 : ByteArray) (a4 : Int), (Lit.int .i64 a0_0).wf = true → (Lit.int .i64 a0_1).wf = true → (l0_2.length ≤ 1048576 ∧ ∀ y0_ ∈ l0_2, (Lit.int .i64 y0_).wf = true) → (l0_3.length ≤ 1048576 ∧ ∀ y0_ ∈ l0_3, (y0_.f0.size ≤ 1048576 ∧ (Lit.int .i64 y0_.f1).wf = true)) → (Lit.int .i64 a0_4).wf = true → a0_5.size ≤ 1048576 → (l0_6.length ≤ 1048576 ∧ ∀ y0_ ∈ l0_6, (y0_.f0.size ≤ 1048576 ∧ ((Lit.int .i64 y0_.f1).wf = true ∧ ((Lit.int .i64 y0_.f2).wf = true ∧ ((Lit.int .i64 y0_.f3).wf = true ∧ (y0_.f4.size ≤ 1048576 ∧ (y0_.f5.size ≤ 1048576 ∧ (Lit.int .i64 y0_.f6).wf = true))))))) → (l1.length ≤ 1048576 ∧ ∀ y0_ ∈ l1, ((Lit.int .i64 y0_.f0).wf = true ∧ ((Lit.int .i64 y0_.f1).wf = true ∧ (y0_.f2.size ≤ 1048576 ∧ ((Lit.int .i64 y0_.f3).wf = true ∧ (y0_.f4.size ≤ 1048576 ∧ True)))))) → (Lit.int .i64 a2).wf = true → a3.size ≤ 1048576 → (Lit.int .i64 a4).wf = true → ∃ k, pinfoldlaw19_SweepPick.f k a0_0 a0_1 l0_2 l0_3 a0_4 a0_5 l0_6 l1 a2 a3 a4 = some true
theorem pinfoldlaw19_SweepPick.walk (P : pinfoldlaw19_SweepPick.Pure) (a0_0 : Int) (a0_1 : Int) (A0_2 : Option Addr) (c0_2 : Nat) (l0_2 : List Int) (A0_3 : Option Addr) (c0_3 : Nat) (l0_3 : List (S118)) (a0_4 : Int) (a0_5 : ByteArray) (A0_6 : Option Addr) (c0_6 : Nat) (l0_6 : List (S139)) (A1 : Option Addr) (c1 : Nat) (l1 : List (S37)) (a2 : Int) (a3 : ByteArray) (a4 : Int) (w : World) (hr0_2 : Kd.C (Kd.int .i64) w A0_2 l0_2.length l0_2) (hc0_2 : l0_2.length ≤ c0_2) (hr0_3 : Kd.C k118 w A0_3 l0_3.length l0_3) (hc0_3 : l0_3.length ≤ c0_3) (hr0_6 : Kd.C k139 w A0_6 l0_6.length l0_6) (hc0_6 : l0_6.length ≤ c0_6) (hr1 : Kd.C k37 w A1 l1.length l1) (hc1 : l1.length ≤ c1) (w0_0 : (Lit.int .i64 a0_0).wf = true) (w0_1 : (Lit.int .i64 a0_1).wf = true) (w0_2 : (l0_2.length ≤ 1048576 ∧ ∀ y0_ ∈ l0_2, (Lit.int .i64 y0_).wf = true)) (w0_3 : (l0_3.length ≤ 1048576 ∧ ∀ y0_ ∈ l0_3, (y0_.f0.size ≤ 1048576 ∧ (Lit.int .i64 y0_.f1).wf = true))) (w0_4 : (Lit.int .i64 a0_4).wf = true) (w0_5 : a0_5.size ≤ 1048576) (w0_6 : (l0_6.length ≤ 1048576 ∧ ∀ y0_ ∈ l0_6, (y0_.f0.size ≤ 1048576 ∧ ((Lit.int .i64 y0_.f1).wf = true ∧ ((Lit.int .i64 y0_.f2).wf = true ∧ ((Lit.int .i64 y0_.f3).wf = true ∧ (y0_.f4.size ≤ 1048576 ∧ (y0_.f5.size ≤ 1048576 ∧ (Lit.int .i64 y0_.f6).wf = true)))))))) (w1 : (l1.length ≤ 1048576 ∧ ∀ y0_ ∈ l1, ((Lit.int .i64 y0_.f0).wf = true ∧ ((Lit.int .i64 y0_.f1).wf = true ∧ (y0_.f2.size ≤ 1048576 ∧ ((Lit.int .i64 y0_.f3).wf = true ∧ (y0_.f4.size ≤ 1048576 ∧ True))))))) (w2 : (Lit.int .i64 a2).wf = true) (w3 : a3.size ≤ 1048576) (w4 : (Lit.int .i64 a4).wf = true) :
  Calls Try.prog 3 #[.agg #[.int .i64 a0_0, .int .i64 a0_1, .slice A0_2 l0_2.length c0_2, .slice A0_3 l0_3.length c0_3, .int .i64 a0_4, .string a0_5, .slice A0_6 l0_6.length c0_6], .slice A1 l1.length c1, .int .i64 a2, .string a3, .int .i64 a4] w fun e w' => e = .returned (.bool true) ∧ Below w.heap.size w w' := by
 obtain ⟨k, h⟩ := P a0_0 a0_1 l0_2 l0_3 a0_4 a0_5 l0_6 l1 a2 a3 a4 w0_0 w0_1 w0_2 w0_3 w0_4 w0_5 w0_6 w1 w2 w3 w4
 refine (pinfoldlaw19_SweepPick.calls k a0_0 a0_1 _ _ l0_2 _ _ l0_3 a0_4 a0_5 _ _ l0_6 _ _ l1 a2 a3 a4 true w hr0_2 hc0_2 hr0_3 hc0_3 hr0_6 hc0_6 hr1 hc1 h).mono ?_
 rintro e w' ⟨rfl, hd⟩
 exact ⟨rfl, hd⟩

end Go.Proofs.Ytibmakpghbinbaa.PS
