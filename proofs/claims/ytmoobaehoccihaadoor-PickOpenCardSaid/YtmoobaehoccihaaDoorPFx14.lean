-- Made by wip/pr.py out of the translation (a turned copy of the kit's print; contracts by hand where said).
import Derived.Test.YtmoobaehoccihaaDoorPFx0
import Derived.Test.YtmoobaehoccihaaDoorPFx4
import Derived.Test.YtmoobaehoccihaaDoorPFx7
import Derived.Test.YtmoobaehoccihaaDoorPFx8
import Derived.Test.YtmoobaehoccihaaDoorPFx11
import Derived.Test.YtmoobaehoccihaaDoorPFx13
namespace Go.Proofs.YtmoobaehoccihaaDoor.PF
open Go.RowKit Go.Proofs.YtmoobaehoccihaaDoorW.PrintWords Go.Proofs.YtmoobaehoccihaaDoorW.PrintLast Go.Proofs.YtmoobaehoccihaaDoorW.PrintMore
-- shrunk
attribute [local go_sem] max2_int min2_int max_two min_two max_three min_three max_four min_four   -- for this text's walks alone
set_option linter.unusedVariables false
set_option linter.unusedSimpArgs false

/-! ### pinfoldref11_Pick: function 27 -/
-- BY HAND
-- 37 45 46 47 25 30
def pinfoldref11_Pick.S (pb : Addr) (x0 x1 : Int) (x2 : ByteArray) (x3 : Int) (x4 : ByteArray) (x5 : Bool) (g : Nat) (a0_0 a0_1 : Int) (A0_2 : Option Addr) (n0_2 c0_2 : Nat) (A0_3 : Option Addr) (n0_3 c0_3 : Nat) (a0_4 : Int) (a0_5 : ByteArray) (A0_6 : Option Addr) (n0_6 c0_6 : Nat) (w' : World) : Prop := w'.cell? pb = some (.int .i64 x0) ∧ w'.cell? ⟨pb.block, pb.off + 1, none⟩ = some (.int .i64 x1) ∧ w'.cell? ⟨pb.block, pb.off + 2, none⟩ = some (.string x2) ∧ w'.cell? ⟨pb.block, pb.off + 3, none⟩ = some (.int .i64 x3) ∧ w'.cell? ⟨pb.block, pb.off + 4, none⟩ = some (.string x4) ∧ w'.cell? ⟨pb.block, pb.off + 5, none⟩ = some (.bool x5) ∧ w'.cell? ⟨g, 0, none⟩ = some (.int .i64 a0_0) ∧ w'.cell? ⟨g, 1, none⟩ = some (.int .i64 a0_1) ∧ w'.cell? ⟨g, 2, none⟩ = some (.slice A0_2 n0_2 c0_2) ∧ w'.cell? ⟨g, 3, none⟩ = some (.slice A0_3 n0_3 c0_3) ∧ w'.cell? ⟨g, 4, none⟩ = some (.int .i64 a0_4) ∧ w'.cell? ⟨g, 5, none⟩ = some (.string a0_5) ∧ w'.cell? ⟨g, 6, none⟩ = some (.slice A0_6 n0_6 c0_6)
theorem pinfoldref11_Pick.S_below {w w2 : World} {pb : Addr} {x0 x1 : Int} {x2 : ByteArray} {x3 : Int} {x4 : ByteArray} {x5 : Bool} {g : Nat} {a0_0 a0_1 : Int} {A0_2 : Option Addr} {n0_2 c0_2 : Nat} {A0_3 : Option Addr} {n0_3 c0_3 : Nat} {a0_4 : Int} {a0_5 : ByteArray} {A0_6 : Option Addr} {n0_6 c0_6 : Nat} (h : pinfoldref11_Pick.S pb x0 x1 x2 x3 x4 x5 g a0_0 a0_1 A0_2 n0_2 c0_2 A0_3 n0_3 c0_3 a0_4 a0_5 A0_6 n0_6 c0_6 w) (hb : Below w.heap.size w w2) : pinfoldref11_Pick.S pb x0 x1 x2 x3 x4 x5 g a0_0 a0_1 A0_2 n0_2 c0_2 A0_3 n0_3 c0_3 a0_4 a0_5 A0_6 n0_6 c0_6 w2 := by
 obtain ⟨s0, s1, s2, s3, s4, s5, s6, s7, s8, s9, s10, s11, s12⟩ := h
 exact ⟨(hb.cell (wb_ _ _ s0)).trans s0, (hb.cell (wb_ _ _ s1)).trans s1, (hb.cell (wb_ _ _ s2)).trans s2, (hb.cell (wb_ _ _ s3)).trans s3, (hb.cell (wb_ _ _ s4)).trans s4, (hb.cell (wb_ _ _ s5)).trans s5, (hb.cell (wb_ _ _ s6)).trans s6, (hb.cell (wb_ _ _ s7)).trans s7, (hb.cell (wb_ _ _ s8)).trans s8, (hb.cell (wb_ _ _ s9)).trans s9, (hb.cell (wb_ _ _ s10)).trans s10, (hb.cell (wb_ _ _ s11)).trans s11, (hb.cell (wb_ _ _ s12)).trans s12⟩
theorem conf_bnd {a0 a1 : Int} {l2 : List Int} {l3 : List S72} {a4 : Int} {z : ByteArray} {l6 : List S74} (h : confB a0 a1 l2 l3 a4 z l6 = true) : 2 ≤ a0 ∧ a0 ≤ a1 ∧ a1 ≤ 254 ∧ a1 - a0 < 8 := by
 unfold confB at h
 simp only [Bool.and_eq_true, decide_eq_true_eq] at h
 exact h.1.1
def pinfoldref11_Pick_c.f (a0_0 : Int) (a0_1 : Int) (l0_2 : List Int) (l0_3 : List S72) (a0_4 : Int) (a0_5 : ByteArray) (l0_6 : List S74) (l1 : List S42) (now : Int) (client : ByteArray) (wanted : Int) : Option (Int × Int) := if confFitR l0_2 l0_3 a0_5 l0_6 ∧ tabFitR l1 then some (if pickMayB a0_0 a0_1 l0_2 l0_3 a0_4 a0_5 l0_6 l1 now client = true then refPickP a0_0 a0_1 l0_2 l0_3 a0_4 a0_5 l0_6 l1 now client wanted else (0, 1400)) else none
set_option maxHeartbeats 8000000 in
set_option maxRecDepth 100000 in
theorem pinfoldref11_Pick_c.calls (a0_0 : Int) (a0_1 : Int) (A0_2 : Option Addr) (c0_2 : Nat) (l0_2 : List Int) (A0_3 : Option Addr) (c0_3 : Nat) (l0_3 : List S72) (a0_4 : Int) (a0_5 : ByteArray) (A0_6 : Option Addr) (c0_6 : Nat) (l0_6 : List S74) (A1 : Option Addr) (c1 : Nat) (l1 : List S42) (now : Int) (client : ByteArray) (wanted r1 r2 : Int) (w : World) (hr0_2 : Kd.C (Kd.int .i64) w A0_2 l0_2.length l0_2) (hc0_2 : l0_2.length ≤ c0_2) (hr0_3 : Kd.C k72 w A0_3 l0_3.length l0_3) (hc0_3 : l0_3.length ≤ c0_3) (hr0_6 : Kd.C k74 w A0_6 l0_6.length l0_6) (hc0_6 : l0_6.length ≤ c0_6) (hr1 : Kd.C k42 w A1 l1.length l1) (hc1 : l1.length ≤ c1) (h : pinfoldref11_Pick_c.f a0_0 a0_1 l0_2 l0_3 a0_4 a0_5 l0_6 l1 now client wanted = some (r1, r2)) :
  Calls Tryd.prog 27 #[.agg #[.int .i64 a0_0, .int .i64 a0_1, .slice A0_2 l0_2.length c0_2, .slice A0_3 l0_3.length c0_3, .int .i64 a0_4, .string a0_5, .slice A0_6 l0_6.length c0_6], .slice A1 l1.length c1, .int .i64 now, .string client, .int .i64 wanted] w fun e w' => e = .returned (.tuple #[.int .i64 r1, .int .i64 r2]) ∧ Below w.heap.size w w' := by
 unfold pinfoldref11_Pick_c.f at h
 by_cases hs : confFitR l0_2 l0_3 a0_5 l0_6 ∧ tabFitR l1
 rotate_left
 ·rw [if_neg hs] at h
  cases h
 rw [if_pos hs] at h
 replace h := e5_ h
 obtain ⟨b1, h1⟩ : ∃ b, pickMayB a0_0 a0_1 l0_2 l0_3 a0_4 a0_5 l0_6 l1 now client = b := ⟨_, rfl⟩
 have Ca := am_ (fun W (hb : Below w.heap.size w W) => pinfoldref11_asked_c.calls a0_0 a0_1 A0_2 c0_2 l0_2 A0_3 c0_3 l0_3 a0_4 a0_5 A0_6 c0_6 l0_6 A1 c1 l1 now client 1099511627776 b1 W (c4_ hr0_2 hb) hc0_2 (c4_ hr0_3 hb) hc0_3 (c4_ hr0_6 hb) hc0_6 (c4_ hr1 hb) hc1 (by unfold pinfoldref11_asked_c.f; rw [if_pos hs]; exact congrArg some h1))
 have CO := am_ (fun host W (hb : Below w.heap.size w W) => pinfoldref11_open_c.calls a0_0 a0_1 A0_2 c0_2 l0_2 A0_3 c0_3 l0_3 a0_4 a0_5 A0_6 c0_6 l0_6 A1 c1 l1 now client host (openB a0_0 a0_1 l0_2 l0_3 a0_4 a0_5 l0_6 l1 now client host) W (c4_ hr0_2 hb) hc0_2 (c4_ hr0_3 hb) hc0_3 (c4_ hr0_6 hb) hc0_6 (c4_ hr1 hb) hc1 (by unfold pinfoldref11_open_c.f; rw [if_pos hs]))
 have CF := am_ (fun W (hb : Below w.heap.size w W) => pinfoldref11_Of_c.calls A1 c1 l1 client now (gotL (ofL l1 client now)).f0 (gotL (ofL l1 client now)).f1 (gotL (ofL l1 client now)).f2 (gotL (ofL l1 client now)).f3 (gotL (ofL l1 client now)).f4 (gotL (ofL l1 client now)).f5 (ofL l1 client now).isSome W (c4_ hr1 hb) hc1 (by unfold pinfoldref11_Of_c.f; rw [if_pos hs.2]))
 have CR := am_ (fun W (hb : Below w.heap.size w W) => pinfoldref11_Reserved_c.calls a0_0 a0_1 A0_2 c0_2 l0_2 A0_3 c0_3 l0_3 a0_4 a0_5 A0_6 c0_6 l0_6 client (foundH (reservR a0_0 a0_1 l0_2 l0_3 a0_4 a0_5 l0_6 client)) (foundIs (reservR a0_0 a0_1 l0_2 l0_3 a0_4 a0_5 l0_6 client)) W (c4_ hr0_2 hb) hc0_2 (c4_ hr0_3 hb) hc0_3 (c4_ hr0_6 hb) hc0_6 (by unfold pinfoldref11_Reserved_c.f; rw [if_pos hs.1]))
 have CFi := am_ (fun host (x : S42) b (e : gotL (findL l1 host) = x ∧ (findL l1 host).isSome = b) W (hb : Below w.heap.size w W) => pinfoldref11_FindLease_c.calls A1 c1 l1 host x.f0 x.f1 x.f2 x.f3 x.f4 x.f5 b W (c4_ hr1 hb) hc1 (by unfold pinfoldref11_FindLease_c.f; rw [if_pos hs.2.1, e.1, e.2]))
 have CL := am_ (fun x0 x1 x2 x3 x4 x5 (hx : x4.size ≤ 8796093022000) b (e : liveB x0 x1 x2 x3 x4 x5 now = b) W => pinfoldref11_Live_c.calls x0 x1 x2 x3 x4 x5 now b W (by unfold pinfoldref11_Live_c.f; rw [if_pos hx, e]))
 have HX := am_ hs.2.2
 have hl := hs.2.1
 have hbd : b1 = true → 2 ≤ a0_0 ∧ a0_0 ≤ a0_1 ∧ a0_1 ≤ 254 := fun e => by
  have h2 := h1.trans e
  unfold pickMayB at h2
  rw [Bool.and_eq_true] at h2
  have := conf_bnd h2.1
  exact ⟨this.1, this.2.1, this.2.2.1⟩
 rw [h1] at h
 have HK1 := am_ hr1
 have HB := am_ (Below.refl w.heap.size w)
 have BK := am_ (blk_new w (.cells #[.int .i64 a0_0, .int .i64 a0_1, .slice A0_2 l0_2.length c0_2, .slice A0_3 l0_3.length c0_3, .int .i64 a0_4, .string a0_5, .slice A0_6 l0_6.length c0_6] 26))
 have u0 := bc_ BK.out 0
 have u1 := bc_ BK.out 1
 have u2 := bc_ BK.out 2
 have u3 := bc_ BK.out 3
 have u4 := bc_ BK.out 4
 have u5 := bc_ BK.out 5
 have u6 := bc_ BK.out 6
 clear h1 hr0_2 hr0_3 hr0_6 hc0_2 hc0_3 hc0_6 hr1 hc1 hs
 cases b1 with
 | false =>
  rw [if_neg (by decide)] at h
  obtain ⟨rfl, rfl⟩ := Prod.mk.inj h
  clear h hbd CO CF CR CFi CL HX HK1
  go_enter Tryd.func27, Tryd.ntmps27
  go_wp2_with (first | (go_at_call 37; (with_reducible refine (Ca.out _ (by repeat (with_reducible first | exact HB.out | apply p3_ | apply p1_ | apply p2_))).mono ?_); rintro e w1 ⟨rfl, hb2⟩; replace BK := am_ (kb_ (show _ from (by (with_reducible repeat (first | exact BK.out | refine k2_ ?_ _ | refine k3_ ?_ | refine k1_ ?_ _)))) hb2); replace HB := am_ (bt_ (show Below w.heap.size w _ from (by repeat (with_reducible first | exact HB.out | apply p3_ | apply p1_ | apply p2_))) hb2); clear hb2; clear u0 u1 u2 u3 u4 u5 u6; have u0 := bc_ BK.out 0; have u1 := bc_ BK.out 1; have u2 := bc_ BK.out 2; have u3 := bc_ BK.out 3; have u4 := bc_ BK.out 4; have u5 := bc_ BK.out 5; have u6 := bc_ BK.out 6))
  go_ret2
  exact ⟨rfl, HB.out⟩
 | true =>
 obtain ⟨n0, n1, n2⟩ := hbd rfl
 clear hbd
 rw [if_pos rfl] at h
 unfold refPickP refEnd at h
 have hh : hadC a0_0 a0_1 l0_2 l0_3 a0_4 a0_5 l0_6 l1 now client = hadP (openB a0_0 a0_1 l0_2 l0_3 a0_4 a0_5 l0_6 l1 now client) now client := rfl
 rw [hh] at h
 generalize openB a0_0 a0_1 l0_2 l0_3 a0_4 a0_5 l0_6 l1 now client = q at h CO
 generalize foundIs (reservR a0_0 a0_1 l0_2 l0_3 a0_4 a0_5 l0_6 client) = hi at h CR
 generalize foundH (reservR a0_0 a0_1 l0_2 l0_3 a0_4 a0_5 l0_6 client) = h0 at h CR
 generalize (ofL l1 client now).isSome = oi at h CF
 generalize gotL (ofL l1 client now) = o at h CF
 obtain ⟨o0, o1, o2, o3, o4, o5⟩ := o
 simp only at h CF
 clear hh
 by_cases q1 : (oi && q o0) = true
 ·rw [if_pos q1] at h
  obtain ⟨rfl, rfl⟩ := Prod.mk.inj h
  rw [Bool.and_eq_true] at q1
  obtain ⟨rfl, q1⟩ := q1
  clear h CR CFi CL HX HK1
  go_enter Tryd.func27, Tryd.ntmps27
  go_wp2_with (first | (go_at_call 37; (with_reducible refine (Ca.out _ (by repeat (with_reducible first | exact HB.out | apply p3_ | apply p1_ | apply p2_))).mono ?_); rintro e w1 ⟨rfl, hb2⟩; replace BK := am_ (kb_ (show _ from (by (with_reducible repeat (first | exact BK.out | refine k2_ ?_ _ | refine k3_ ?_ | refine k1_ ?_ _)))) hb2); replace HB := am_ (bt_ (show Below w.heap.size w _ from (by repeat (with_reducible first | exact HB.out | apply p3_ | apply p1_ | apply p2_))) hb2); clear hb2; clear u0 u1 u2 u3 u4 u5 u6; have u0 := bc_ BK.out 0; have u1 := bc_ BK.out 1; have u2 := bc_ BK.out 2; have u3 := bc_ BK.out 3; have u4 := bc_ BK.out 4; have u5 := bc_ BK.out 5; have u6 := bc_ BK.out 6) | (go_at_call 45; (with_reducible refine (CF.out _ (by repeat (with_reducible first | exact HB.out | apply p3_ | apply p1_ | apply p2_))).mono ?_); rintro e w2 ⟨rfl, hb2⟩; replace BK := am_ (kb_ (show _ from (by (with_reducible repeat (first | exact BK.out | refine k2_ ?_ _ | refine k3_ ?_ | refine k1_ ?_ _)))) hb2); replace HB := am_ (bt_ (show Below w.heap.size w _ from (by repeat (with_reducible first | exact HB.out | apply p3_ | apply p1_ | apply p2_))) hb2); clear hb2; replace BK := am_ (k1_ BK.out (.cells #[.int .i64 o0, .int .i64 o1, .string o2, .int .i64 o3, .string o4, .bool o5] 42)); clear u0 u1 u2 u3 u4 u5 u6; have u0 := bc_ BK.out 0; have u1 := bc_ BK.out 1; have u2 := bc_ BK.out 2; have u3 := bc_ BK.out 3; have u4 := bc_ BK.out 4; have u5 := bc_ BK.out 5; have u6 := bc_ BK.out 6) | (go_at_call 46; (with_reducible refine (CO.out _ _ (by repeat (with_reducible first | exact HB.out | apply p3_ | apply p1_ | apply p2_))).mono ?_); rintro e w3 ⟨rfl, hb2⟩; have BX := am_ (kb_ (blk_new w2 (.cells #[.int .i64 o0, .int .i64 o1, .string o2, .int .i64 o3, .string o4, .bool o5] 42)) hb2); have v0 := bc_ BX.out 0; replace HB := am_ (bt_ (show Below w.heap.size w _ from (by repeat (with_reducible first | exact HB.out | apply p3_ | apply p1_ | apply p2_))) hb2); clear hb2 u0 u1 u2 u3 u4 u5 u6))
  go_ret2
  exact ⟨rfl, HB.out⟩
 rw [if_neg q1] at h
 by_cases q2 : (hi && q h0) = true
 ·rw [if_pos q2] at h
  obtain ⟨rfl, rfl⟩ := Prod.mk.inj h
  rw [Bool.and_eq_true] at q2
  obtain ⟨rfl, q2⟩ := q2
  clear h CFi CL HX HK1
  have q1' : oi = false ∨ oi = true ∧ q o0 = false := by cases oi <;> simp_all
  clear q1
  rcases q1' with rfl | ⟨rfl, q1⟩
  all_goals (go_enter Tryd.func27, Tryd.ntmps27; go_wp2_with (first | (go_at_call 37; (with_reducible refine (Ca.out _ (by repeat (with_reducible first | exact HB.out | apply p3_ | apply p1_ | apply p2_))).mono ?_); rintro e w1 ⟨rfl, hb2⟩; replace BK := am_ (kb_ (show _ from (by (with_reducible repeat (first | exact BK.out | refine k2_ ?_ _ | refine k3_ ?_ | refine k1_ ?_ _)))) hb2); replace HB := am_ (bt_ (show Below w.heap.size w _ from (by repeat (with_reducible first | exact HB.out | apply p3_ | apply p1_ | apply p2_))) hb2); clear hb2; clear u0 u1 u2 u3 u4 u5 u6; have u0 := bc_ BK.out 0; have u1 := bc_ BK.out 1; have u2 := bc_ BK.out 2; have u3 := bc_ BK.out 3; have u4 := bc_ BK.out 4; have u5 := bc_ BK.out 5; have u6 := bc_ BK.out 6) | (go_at_call 45; (with_reducible refine (CF.out _ (by repeat (with_reducible first | exact HB.out | apply p3_ | apply p1_ | apply p2_))).mono ?_); rintro e w2 ⟨rfl, hb2⟩; replace BK := am_ (kb_ (show _ from (by (with_reducible repeat (first | exact BK.out | refine k2_ ?_ _ | refine k3_ ?_ | refine k1_ ?_ _)))) hb2); replace HB := am_ (bt_ (show Below w.heap.size w _ from (by repeat (with_reducible first | exact HB.out | apply p3_ | apply p1_ | apply p2_))) hb2); clear hb2; replace BK := am_ (k1_ BK.out (.cells #[.int .i64 o0, .int .i64 o1, .string o2, .int .i64 o3, .string o4, .bool o5] 42)); clear u0 u1 u2 u3 u4 u5 u6; have u0 := bc_ BK.out 0; have u1 := bc_ BK.out 1; have u2 := bc_ BK.out 2; have u3 := bc_ BK.out 3; have u4 := bc_ BK.out 4; have u5 := bc_ BK.out 5; have u6 := bc_ BK.out 6) | (go_at_call 46; (with_reducible refine (CO.out _ _ (by repeat (with_reducible first | exact HB.out | apply p3_ | apply p1_ | apply p2_))).mono ?_); rintro e w3 ⟨rfl, hb2⟩; replace BK := am_ (kb_ (show _ from (by (with_reducible repeat (first | exact BK.out | refine k2_ ?_ _ | refine k3_ ?_ | refine k1_ ?_ _)))) hb2); replace HB := am_ (bt_ (show Below w.heap.size w _ from (by repeat (with_reducible first | exact HB.out | apply p3_ | apply p1_ | apply p2_))) hb2); clear hb2; clear u0 u1 u2 u3 u4 u5 u6; have u0 := bc_ BK.out 0; have u1 := bc_ BK.out 1; have u2 := bc_ BK.out 2; have u3 := bc_ BK.out 3; have u4 := bc_ BK.out 4; have u5 := bc_ BK.out 5; have u6 := bc_ BK.out 6) | (go_at_call 47; (with_reducible refine (CR.out _ (by repeat (with_reducible first | exact HB.out | apply p3_ | apply p1_ | apply p2_))).mono ?_); rintro e w4 ⟨rfl, hb2⟩; replace BK := am_ (kb_ (show _ from (by (with_reducible repeat (first | exact BK.out | refine k2_ ?_ _ | refine k3_ ?_ | refine k1_ ?_ _)))) hb2); replace HB := am_ (bt_ (show Below w.heap.size w _ from (by repeat (with_reducible first | exact HB.out | apply p3_ | apply p1_ | apply p2_))) hb2); clear hb2; clear u0 u1 u2 u3 u4 u5 u6; have u0 := bc_ BK.out 0; have u1 := bc_ BK.out 1; have u2 := bc_ BK.out 2; have u3 := bc_ BK.out 3; have u4 := bc_ BK.out 4; have u5 := bc_ BK.out 5; have u6 := bc_ BK.out 6)))
  all_goals (go_ret2; exact ⟨rfl, HB.out⟩)
 rw [if_neg q2] at h
 by_cases q3 : q wanted = true
 ·rw [if_pos q3] at h
  obtain ⟨rfl, rfl⟩ := Prod.mk.inj h
  clear h CFi CL HX HK1
  have q1' : oi = false ∨ oi = true ∧ q o0 = false := by cases oi <;> simp_all
  have q2' : hi = false ∨ hi = true ∧ q h0 = false := by cases hi <;> simp_all
  clear q1 q2
  rcases q1' with rfl | ⟨rfl, q1⟩ <;> rcases q2' with rfl | ⟨rfl, q2⟩
  all_goals (go_enter Tryd.func27, Tryd.ntmps27; go_wp2_with (first | (go_at_call 37; (with_reducible refine (Ca.out _ (by repeat (with_reducible first | exact HB.out | apply p3_ | apply p1_ | apply p2_))).mono ?_); rintro e w1 ⟨rfl, hb2⟩; replace BK := am_ (kb_ (show _ from (by (with_reducible repeat (first | exact BK.out | refine k2_ ?_ _ | refine k3_ ?_ | refine k1_ ?_ _)))) hb2); replace HB := am_ (bt_ (show Below w.heap.size w _ from (by repeat (with_reducible first | exact HB.out | apply p3_ | apply p1_ | apply p2_))) hb2); clear hb2; clear u0 u1 u2 u3 u4 u5 u6; have u0 := bc_ BK.out 0; have u1 := bc_ BK.out 1; have u2 := bc_ BK.out 2; have u3 := bc_ BK.out 3; have u4 := bc_ BK.out 4; have u5 := bc_ BK.out 5; have u6 := bc_ BK.out 6) | (go_at_call 45; (with_reducible refine (CF.out _ (by repeat (with_reducible first | exact HB.out | apply p3_ | apply p1_ | apply p2_))).mono ?_); rintro e w2 ⟨rfl, hb2⟩; replace BK := am_ (kb_ (show _ from (by (with_reducible repeat (first | exact BK.out | refine k2_ ?_ _ | refine k3_ ?_ | refine k1_ ?_ _)))) hb2); replace HB := am_ (bt_ (show Below w.heap.size w _ from (by repeat (with_reducible first | exact HB.out | apply p3_ | apply p1_ | apply p2_))) hb2); clear hb2; replace BK := am_ (k1_ BK.out (.cells #[.int .i64 o0, .int .i64 o1, .string o2, .int .i64 o3, .string o4, .bool o5] 42)); clear u0 u1 u2 u3 u4 u5 u6; have u0 := bc_ BK.out 0; have u1 := bc_ BK.out 1; have u2 := bc_ BK.out 2; have u3 := bc_ BK.out 3; have u4 := bc_ BK.out 4; have u5 := bc_ BK.out 5; have u6 := bc_ BK.out 6) | (go_at_call 46; (with_reducible refine (CO.out _ _ (by repeat (with_reducible first | exact HB.out | apply p3_ | apply p1_ | apply p2_))).mono ?_); rintro e w3 ⟨rfl, hb2⟩; replace BK := am_ (kb_ (show _ from (by (with_reducible repeat (first | exact BK.out | refine k2_ ?_ _ | refine k3_ ?_ | refine k1_ ?_ _)))) hb2); replace HB := am_ (bt_ (show Below w.heap.size w _ from (by repeat (with_reducible first | exact HB.out | apply p3_ | apply p1_ | apply p2_))) hb2); clear hb2; clear u0 u1 u2 u3 u4 u5 u6; have u0 := bc_ BK.out 0; have u1 := bc_ BK.out 1; have u2 := bc_ BK.out 2; have u3 := bc_ BK.out 3; have u4 := bc_ BK.out 4; have u5 := bc_ BK.out 5; have u6 := bc_ BK.out 6) | (go_at_call 47; (with_reducible refine (CR.out _ (by repeat (with_reducible first | exact HB.out | apply p3_ | apply p1_ | apply p2_))).mono ?_); rintro e w4 ⟨rfl, hb2⟩; replace BK := am_ (kb_ (show _ from (by (with_reducible repeat (first | exact BK.out | refine k2_ ?_ _ | refine k3_ ?_ | refine k1_ ?_ _)))) hb2); replace HB := am_ (bt_ (show Below w.heap.size w _ from (by repeat (with_reducible first | exact HB.out | apply p3_ | apply p1_ | apply p2_))) hb2); clear hb2; clear u0 u1 u2 u3 u4 u5 u6; have u0 := bc_ BK.out 0; have u1 := bc_ BK.out 1; have u2 := bc_ BK.out 2; have u3 := bc_ BK.out 3; have u4 := bc_ BK.out 4; have u5 := bc_ BK.out 5; have u6 := bc_ BK.out 6)))
  all_goals (go_ret2; exact ⟨rfl, HB.out⟩)
 rw [if_neg q3] at h
 have q3b : q wanted = false := Bool.eq_false_iff.2 q3
 have q1' : oi = false ∨ oi = true ∧ q o0 = false := by cases oi <;> simp_all
 have q2' : hi = false ∨ hi = true ∧ q h0 = false := by cases hi <;> simp_all
 clear q1 q2 q3
 have HE := am_ (show endP q a0_0 a0_1 l1 ((l1.drop (0 : Int).toNat).find? (hadP q now client)) = (r1, r2) from h)
 clear h
 rcases q1' with rfl | ⟨rfl, q1⟩ <;> rcases q2' with rfl | ⟨rfl, q2⟩
 all_goals (go_enter Tryd.func27, Tryd.ntmps27; go_wp2_with (first | (go_at_call 37; (with_reducible refine (Ca.out _ (by repeat (with_reducible first | exact HB.out | apply p3_ | apply p1_ | apply p2_))).mono ?_); rintro e w1 ⟨rfl, hb2⟩; replace BK := am_ (kb_ (show _ from (by (with_reducible repeat (first | exact BK.out | refine k2_ ?_ _ | refine k3_ ?_ | refine k1_ ?_ _)))) hb2); replace HB := am_ (bt_ (show Below w.heap.size w _ from (by repeat (with_reducible first | exact HB.out | apply p3_ | apply p1_ | apply p2_))) hb2); clear hb2; clear u0 u1 u2 u3 u4 u5 u6; have u0 := bc_ BK.out 0; have u1 := bc_ BK.out 1; have u2 := bc_ BK.out 2; have u3 := bc_ BK.out 3; have u4 := bc_ BK.out 4; have u5 := bc_ BK.out 5; have u6 := bc_ BK.out 6) | (go_at_call 45; (with_reducible refine (CF.out _ (by repeat (with_reducible first | exact HB.out | apply p3_ | apply p1_ | apply p2_))).mono ?_); rintro e w2 ⟨rfl, hb2⟩; replace BK := am_ (kb_ (show _ from (by (with_reducible repeat (first | exact BK.out | refine k2_ ?_ _ | refine k3_ ?_ | refine k1_ ?_ _)))) hb2); replace HB := am_ (bt_ (show Below w.heap.size w _ from (by repeat (with_reducible first | exact HB.out | apply p3_ | apply p1_ | apply p2_))) hb2); clear hb2; replace BK := am_ (k1_ BK.out (.cells #[.int .i64 o0, .int .i64 o1, .string o2, .int .i64 o3, .string o4, .bool o5] 42)); clear u0 u1 u2 u3 u4 u5 u6; have u0 := bc_ BK.out 0; have u1 := bc_ BK.out 1; have u2 := bc_ BK.out 2; have u3 := bc_ BK.out 3; have u4 := bc_ BK.out 4; have u5 := bc_ BK.out 5; have u6 := bc_ BK.out 6) | (go_at_call 46; (with_reducible refine (CO.out _ _ (by repeat (with_reducible first | exact HB.out | apply p3_ | apply p1_ | apply p2_))).mono ?_); rintro e w3 ⟨rfl, hb2⟩; replace BK := am_ (kb_ (show _ from (by (with_reducible repeat (first | exact BK.out | refine k2_ ?_ _ | refine k3_ ?_ | refine k1_ ?_ _)))) hb2); replace HB := am_ (bt_ (show Below w.heap.size w _ from (by repeat (with_reducible first | exact HB.out | apply p3_ | apply p1_ | apply p2_))) hb2); clear hb2; clear u0 u1 u2 u3 u4 u5 u6; have u0 := bc_ BK.out 0; have u1 := bc_ BK.out 1; have u2 := bc_ BK.out 2; have u3 := bc_ BK.out 3; have u4 := bc_ BK.out 4; have u5 := bc_ BK.out 5; have u6 := bc_ BK.out 6) | (go_at_call 47; (with_reducible refine (CR.out _ (by repeat (with_reducible first | exact HB.out | apply p3_ | apply p1_ | apply p2_))).mono ?_); rintro e w4 ⟨rfl, hb2⟩; replace BK := am_ (kb_ (show _ from (by (with_reducible repeat (first | exact BK.out | refine k2_ ?_ _ | refine k3_ ?_ | refine k1_ ?_ _)))) hb2); replace HB := am_ (bt_ (show Below w.heap.size w _ from (by repeat (with_reducible first | exact HB.out | apply p3_ | apply p1_ | apply p2_))) hb2); clear hb2; clear u0 u1 u2 u3 u4 u5 u6; have u0 := bc_ BK.out 0; have u1 := bc_ BK.out 1; have u2 := bc_ BK.out 2; have u3 := bc_ BK.out 3; have u4 := bc_ BK.out 4; have u5 := bc_ BK.out 5; have u6 := bc_ BK.out 6)))
 all_goals clear u0 u1 u2 u3 u4 u5 u6 CF CR Ca
 all_goals
  go_loopg [16] l1.length (fun d v w' => ∃ i : Int, 0 ≤ i ∧ i.toNat + d = l1.length ∧ v = .int .i64 i ∧ Aside0 (Below w.heap.size w w') ∧ Aside0 (w'.heap[w.heap.size]? = some (.cells #[.int .i64 a0_0, .int .i64 a0_1, .slice A0_2 l0_2.length c0_2, .slice A0_3 l0_3.length c0_3, .int .i64 a0_4, .string a0_5, .slice A0_6 l0_6.length c0_6] 26)) ∧ Aside0 (endP q a0_0 a0_1 l1 ((l1.drop i.toNat).find? (hadP q now client)) = (r1, r2)))
  case atStart => exact ⟨0, by omega, by simp, rfl, HB, BK, HE⟩
  case round =>
   clear HB BK HE
   obtain ⟨i, hi0, hd, rfl, HB, BK, HE⟩ := hrel
   by_cases hlt : i < (l1.length : Int)
   ·obtain ⟨ad, e1, hw0, hw1, hw2, hw3, hw4, hw5⟩ := at_T42 HK1.out i hi0 hlt
    cases e1
    have hx0 := (HB.out.cell (wb_ w _ hw0)).trans hw0; have hx1 := (HB.out.cell (wb_ w _ hw1)).trans hw1; have hx2 := (HB.out.cell (wb_ w _ hw2)).trans hw2; have hx3 := (HB.out.cell (wb_ w _ hw3)).trans hw3; have hx4 := (HB.out.cell (wb_ w _ hw4)).trans hw4; have hx5 := (HB.out.cell (wb_ w _ hw5)).trans hw5
    have hd1 := dropLease l1 i hi0 hlt
    have hsz := HX.out _ hd1.2
    have he := HE.out
    rw [hd1.1, List.find?_cons] at he
    have H1 := am_ (show 0 ≤ i + 1 by omega)
    have H2 := am_ (show (i + 1).toNat + (l1.length - (i.toNat + 1)) = l1.length by omega)
    have H3 := am_ (show l1.length - (i.toNat + 1) < gk by omega)
    have H4 := am_ (show IntKind.i64.wrap (i + 1) = i + 1 from (i64_w _).trans (by unfold wrap64; omega))
    have hi2 : (i + 1).toNat = i.toNat + 1 := by omega
    rw [← hi2] at he
    clear hd1 HE hi2
    generalize rd_T42 l1 i = x at hw0 hw1 hw2 hw3 hw4 hw5 hx0 hx1 hx2 hx3 hx4 hx5 hsz he
    obtain ⟨x0, x1, x2, x3, x4, x5⟩ := x
    simp only at hw0 hw1 hw2 hw3 hw4 hw5 hx0 hx1 hx2 hx3 hx4 hx5 hsz
    obtain ⟨bl, hbl⟩ : ∃ b, liveB x0 x1 x2 x3 x4 x5 now = b := ⟨_, rfl⟩
    have hq : hadP q now client ⟨x0, x1, x2, x3, x4, x5⟩ = ((!bl && decide (x2.toList = client.toList)) && q x0) := by rw [← hbl]; rfl
    rw [hq] at he
    have CV := am_ (fun W => CL.out x0 x1 x2 x3 x4 x5 hsz bl hbl W)
    have clt := decide_eq_true hlt
    have cle := decide_eq_true hi0
    have plt := eq_true hlt
    have ple := eq_true hi0
    replace hi0 := am_ hi0
    replace hd := am_ hd
    clear hq hbl hsz hlt
    replace n0 := am_ n0
    replace n1 := am_ n1
    replace n2 := am_ n2
    replace hl := am_ hl
    cases bl with
    | true =>
     have HN := am_ (show endP q a0_0 a0_1 l1 ((l1.drop (i + 1).toNat).find? (hadP q now client)) = (r1, r2) from he)
     clear he
     go_wp2_with fail
     have HB1 := am_ (below_drew HB.out)
     have BK1 := am_ (k3_ BK.out)
     refine seqS (S := pinfoldref11_Pick.S (ad.add (i.toNat * 6)) x0 x1 x2 x3 x4 x5 w.heap.size a0_0 a0_1 A0_2 l0_2.length c0_2 A0_3 l0_3.length c0_3 a0_4 a0_5 A0_6 l0_6.length c0_6) 28 (by kernel_rfl) rfl rfl (by unfold pinfoldref11_Pick.S; exact ⟨(HB1.out.cell (wb_ w _ hw0)).trans hw0, (HB1.out.cell (wb_ w _ hw1)).trans hw1, (HB1.out.cell (wb_ w _ hw2)).trans hw2, (HB1.out.cell (wb_ w _ hw3)).trans hw3, (HB1.out.cell (wb_ w _ hw4)).trans hw4, (HB1.out.cell (wb_ w _ hw5)).trans hw5, (bc_ BK1.out 0).trans rfl, (bc_ BK1.out 1).trans rfl, (bc_ BK1.out 2).trans rfl, (bc_ BK1.out 3).trans rfl, (bc_ BK1.out 4).trans rfl, (bc_ BK1.out 5).trans rfl, (bc_ BK1.out 6).trans rfl⟩) ?_
     intro hHeld
     clear hx0 hx1 hx2 hx3 hx4 hx5 HB BK
     iterate 5 first | (refine seqP (v := ?_) (a' := ?_) rfl rfl (by kernel_rfl) (fun _ _ _ h => h) (Or.inl ⟨by kernel_rfl, ?_⟩) ?_ ?_; rotate_left; (intro w'; go_simp; with_reducible rfl); rotate_left; (simp only [Act.put, sa_, sb_, sc_, i64_w, i32_w]; rfl)) | (refine seqL (v := ?_) (a' := ?_) rfl rfl (by kernel_rfl) (fun _ _ _ h => h) (Or.inl ⟨by kernel_rfl, ?_⟩) hHeld ?_ ?_; rotate_left; (rintro w' ⟨s0, s1, s2, s3, s4, s5, s6, s7, s8, s9, s10, s11, s12⟩; go_simp; with_reducible rfl); rotate_left; (simp only [Act.put, sa_, sb_, sc_, i64_w, i32_w]; rfl))
     refine seqG (fn := Tryd.f25) rfl rfl (by kernel_rfl) rfl Tryd.func25 (by kernel_rfl) (by kernel_rfl) #[.agg #[.int .i64 x0, .int .i64 x1, .string x2, .int .i64 x3, .string x4, .bool x5], .int .i64 now] (by kernel_rfl) (by (try simp only [List.map_toArray, List.map_cons, List.map_nil]); first | done | rfl) ?_
     with_reducible refine (CV.out _).mono ?_
     rintro e wg ⟨rfl, hb2⟩
     have HB2 := am_ (bt_ HB1.out hb2)
     have BK2 := am_ (kb_ BK1.out hb2)
     refine ⟨_, rfl, pinfoldref11_Pick.S_below hHeld hb2, fun hHeld => ⟨?_, ?_, ?_⟩⟩
     rotate_left
     ·simp only [Act.put, sa_, sb_, sc_, i64_w, i32_w]
      rfl
     clear hb2 HB1 BK1 CV
     iterate 2 first | (refine seqP (v := ?_) (a' := ?_) rfl rfl (by kernel_rfl) (fun _ _ _ h => h) (Or.inl ⟨by kernel_rfl, ?_⟩) ?_ ?_; rotate_left; (intro w'; go_simp; with_reducible rfl); rotate_left; (simp only [Act.put, sa_, sb_, sc_, i64_w, i32_w]; rfl)) | (refine seqL (v := ?_) (a' := ?_) rfl rfl (by kernel_rfl) (fun _ _ _ h => h) (Or.inl ⟨by kernel_rfl, ?_⟩) hHeld ?_ ?_; rotate_left; (rintro w' ⟨s0, s1, s2, s3, s4, s5, s6, s7, s8, s9, s10, s11, s12⟩; go_simp; with_reducible rfl); rotate_left; (simp only [Act.put, sa_, sb_, sc_, i64_w, i32_w]; rfl))
     iterate 7 (refine seqP (v := undef) (a' := ?_) rfl rfl (by kernel_rfl) (fun _ _ _ h => h) (Or.inr ⟨by kernel_rfl, rfl⟩) ?_ ?_; rotate_left; (simp only [Act.put, sa_, sb_, sc_, i64_w, i32_w]; rfl))
     iterate 2 first | (refine seqP (v := ?_) (a' := ?_) rfl rfl (by kernel_rfl) (fun _ _ _ h => h) (Or.inl ⟨by kernel_rfl, ?_⟩) ?_ ?_; rotate_left; (intro w'; go_simp; with_reducible rfl); rotate_left; (simp only [Act.put, sa_, sb_, sc_, i64_w, i32_w]; rfl)) | (refine seqL (v := ?_) (a' := ?_) rfl rfl (by kernel_rfl) (fun _ _ _ h => h) (Or.inl ⟨by kernel_rfl, ?_⟩) hHeld ?_ ?_; rotate_left; (rintro w' ⟨s0, s1, s2, s3, s4, s5, s6, s7, s8, s9, s10, s11, s12⟩; go_simp; with_reducible rfl); rotate_left; (simp only [Act.put, sa_, sb_, sc_, i64_w, i32_w]; rfl))
     iterate 10 (refine seqP (v := undef) (a' := ?_) rfl rfl (by kernel_rfl) (fun _ _ _ h => h) (Or.inr ⟨by kernel_rfl, rfl⟩) ?_ ?_; rotate_left; (simp only [Act.put, sa_, sb_, sc_, i64_w, i32_w]; rfl))
     iterate 1 first | (refine seqP (v := ?_) (a' := ?_) rfl rfl (by kernel_rfl) (fun _ _ _ h => h) (Or.inl ⟨by kernel_rfl, ?_⟩) ?_ ?_; rotate_left; (intro w'; go_simp; with_reducible rfl); rotate_left; (simp only [Act.put, sa_, sb_, sc_, i64_w, i32_w]; rfl)) | (refine seqL (v := ?_) (a' := ?_) rfl rfl (by kernel_rfl) (fun _ _ _ h => h) (Or.inl ⟨by kernel_rfl, ?_⟩) hHeld ?_ ?_; rotate_left; (rintro w' ⟨s0, s1, s2, s3, s4, s5, s6, s7, s8, s9, s10, s11, s12⟩; go_simp; with_reducible rfl); rotate_left; (simp only [Act.put, sa_, sb_, sc_, i64_w, i32_w]; rfl))
     refine seqE (by kernel_rfl) ?_
     go_wp2
     go_roundg (l1.length - (i.toNat + 1))
     case measure => exact H3.out
     case rel => exact ⟨i + 1, H1.out, H2.out, by first | rfl | (rw [show wrap64 (i + 1) = i + 1 from (i64_w _).symm.trans H4.out]), HB2, BK2, HN⟩
    | false =>
    rw [Bool.not_false, Bool.true_and] at he
    by_cases qc : x2.toList = client.toList
    rotate_left
    ·have qb : (x2.toList == client.toList) = false := by simpa using qc
     have HN := am_ (show endP q a0_0 a0_1 l1 ((l1.drop (i + 1).toNat).find? (hadP q now client)) = (r1, r2) by rw [decide_eq_false qc, Bool.false_and] at he; exact he)
     clear he qc
     go_wp2_with fail
     have HB1 := am_ (below_drew HB.out)
     have BK1 := am_ (k3_ BK.out)
     refine seqS (S := pinfoldref11_Pick.S (ad.add (i.toNat * 6)) x0 x1 x2 x3 x4 x5 w.heap.size a0_0 a0_1 A0_2 l0_2.length c0_2 A0_3 l0_3.length c0_3 a0_4 a0_5 A0_6 l0_6.length c0_6) 28 (by kernel_rfl) rfl rfl (by unfold pinfoldref11_Pick.S; exact ⟨(HB1.out.cell (wb_ w _ hw0)).trans hw0, (HB1.out.cell (wb_ w _ hw1)).trans hw1, (HB1.out.cell (wb_ w _ hw2)).trans hw2, (HB1.out.cell (wb_ w _ hw3)).trans hw3, (HB1.out.cell (wb_ w _ hw4)).trans hw4, (HB1.out.cell (wb_ w _ hw5)).trans hw5, (bc_ BK1.out 0).trans rfl, (bc_ BK1.out 1).trans rfl, (bc_ BK1.out 2).trans rfl, (bc_ BK1.out 3).trans rfl, (bc_ BK1.out 4).trans rfl, (bc_ BK1.out 5).trans rfl, (bc_ BK1.out 6).trans rfl⟩) ?_
     intro hHeld
     clear hx0 hx1 hx2 hx3 hx4 hx5 HB BK
     iterate 5 first | (refine seqP (v := ?_) (a' := ?_) rfl rfl (by kernel_rfl) (fun _ _ _ h => h) (Or.inl ⟨by kernel_rfl, ?_⟩) ?_ ?_; rotate_left; (intro w'; go_simp; with_reducible rfl); rotate_left; (simp only [Act.put, sa_, sb_, sc_, i64_w, i32_w]; rfl)) | (refine seqL (v := ?_) (a' := ?_) rfl rfl (by kernel_rfl) (fun _ _ _ h => h) (Or.inl ⟨by kernel_rfl, ?_⟩) hHeld ?_ ?_; rotate_left; (rintro w' ⟨s0, s1, s2, s3, s4, s5, s6, s7, s8, s9, s10, s11, s12⟩; go_simp; with_reducible rfl); rotate_left; (simp only [Act.put, sa_, sb_, sc_, i64_w, i32_w]; rfl))
     refine seqG (fn := Tryd.f25) rfl rfl (by kernel_rfl) rfl Tryd.func25 (by kernel_rfl) (by kernel_rfl) #[.agg #[.int .i64 x0, .int .i64 x1, .string x2, .int .i64 x3, .string x4, .bool x5], .int .i64 now] (by kernel_rfl) (by (try simp only [List.map_toArray, List.map_cons, List.map_nil]); first | done | rfl) ?_
     with_reducible refine (CV.out _).mono ?_
     rintro e wg ⟨rfl, hb2⟩
     have HB2 := am_ (bt_ HB1.out hb2)
     have BK2 := am_ (kb_ BK1.out hb2)
     refine ⟨_, rfl, pinfoldref11_Pick.S_below hHeld hb2, fun hHeld => ⟨?_, ?_, ?_⟩⟩
     rotate_left
     ·simp only [Act.put, sa_, sb_, sc_, i64_w, i32_w]
      rfl
     clear hb2 HB1 BK1 CV
     iterate 2 first | (refine seqP (v := ?_) (a' := ?_) rfl rfl (by kernel_rfl) (fun _ _ _ h => h) (Or.inl ⟨by kernel_rfl, ?_⟩) ?_ ?_; rotate_left; (intro w'; go_simp; with_reducible rfl); rotate_left; (simp only [Act.put, sa_, sb_, sc_, i64_w, i32_w]; rfl)) | (refine seqL (v := ?_) (a' := ?_) rfl rfl (by kernel_rfl) (fun _ _ _ h => h) (Or.inl ⟨by kernel_rfl, ?_⟩) hHeld ?_ ?_; rotate_left; (rintro w' ⟨s0, s1, s2, s3, s4, s5, s6, s7, s8, s9, s10, s11, s12⟩; go_simp; with_reducible rfl); rotate_left; (simp only [Act.put, sa_, sb_, sc_, i64_w, i32_w]; rfl))
     iterate 9 first | (refine seqP (v := ?_) (a' := ?_) rfl rfl (by kernel_rfl) (fun _ _ _ h => h) (Or.inl ⟨by kernel_rfl, ?_⟩) ?_ ?_; rotate_left; (intro w'; go_simp; with_reducible rfl); rotate_left; (simp only [Act.put, sa_, sb_, sc_, i64_w, i32_w]; rfl)) | (refine seqL (v := ?_) (a' := ?_) rfl rfl (by kernel_rfl) (fun _ _ _ h => h) (Or.inl ⟨by kernel_rfl, ?_⟩) hHeld ?_ ?_; rotate_left; (rintro w' ⟨s0, s1, s2, s3, s4, s5, s6, s7, s8, s9, s10, s11, s12⟩; go_simp; with_reducible rfl); rotate_left; (simp only [Act.put, sa_, sb_, sc_, i64_w, i32_w]; rfl))
     iterate 10 (refine seqP (v := undef) (a' := ?_) rfl rfl (by kernel_rfl) (fun _ _ _ h => h) (Or.inr ⟨by kernel_rfl, rfl⟩) ?_ ?_; rotate_left; (simp only [Act.put, sa_, sb_, sc_, i64_w, i32_w]; rfl))
     iterate 1 first | (refine seqP (v := ?_) (a' := ?_) rfl rfl (by kernel_rfl) (fun _ _ _ h => h) (Or.inl ⟨by kernel_rfl, ?_⟩) ?_ ?_; rotate_left; (intro w'; go_simp; with_reducible rfl); rotate_left; (simp only [Act.put, sa_, sb_, sc_, i64_w, i32_w]; rfl)) | (refine seqL (v := ?_) (a' := ?_) rfl rfl (by kernel_rfl) (fun _ _ _ h => h) (Or.inl ⟨by kernel_rfl, ?_⟩) hHeld ?_ ?_; rotate_left; (rintro w' ⟨s0, s1, s2, s3, s4, s5, s6, s7, s8, s9, s10, s11, s12⟩; go_simp; with_reducible rfl); rotate_left; (simp only [Act.put, sa_, sb_, sc_, i64_w, i32_w]; rfl))
     refine seqE (by kernel_rfl) ?_
     go_wp2
     go_roundg (l1.length - (i.toNat + 1))
     case measure => exact H3.out
     case rel => exact ⟨i + 1, H1.out, H2.out, by first | rfl | (rw [show wrap64 (i + 1) = i + 1 from (i64_w _).symm.trans H4.out]), HB2, BK2, HN⟩
    have qb : (x2.toList == client.toList) = true := by simpa using qc
    rw [decide_eq_true qc, Bool.true_and] at he
    obtain ⟨T, hT⟩ : ∃ T, q x0 = T := ⟨_, rfl⟩
    rw [hT] at he
    have COi := am_ (fun W hb => CO.out x0 W hb)
    rw [hT] at COi
    clear hT qc
    go_wp2_with fail
    have HB1 := am_ (below_drew HB.out)
    have BK1 := am_ (k3_ BK.out)
    refine seqS (S := pinfoldref11_Pick.S (ad.add (i.toNat * 6)) x0 x1 x2 x3 x4 x5 w.heap.size a0_0 a0_1 A0_2 l0_2.length c0_2 A0_3 l0_3.length c0_3 a0_4 a0_5 A0_6 l0_6.length c0_6) 28 (by kernel_rfl) rfl rfl (by unfold pinfoldref11_Pick.S; exact ⟨(HB1.out.cell (wb_ w _ hw0)).trans hw0, (HB1.out.cell (wb_ w _ hw1)).trans hw1, (HB1.out.cell (wb_ w _ hw2)).trans hw2, (HB1.out.cell (wb_ w _ hw3)).trans hw3, (HB1.out.cell (wb_ w _ hw4)).trans hw4, (HB1.out.cell (wb_ w _ hw5)).trans hw5, (bc_ BK1.out 0).trans rfl, (bc_ BK1.out 1).trans rfl, (bc_ BK1.out 2).trans rfl, (bc_ BK1.out 3).trans rfl, (bc_ BK1.out 4).trans rfl, (bc_ BK1.out 5).trans rfl, (bc_ BK1.out 6).trans rfl⟩) ?_
    intro hHeld
    clear hx0 hx1 hx2 hx3 hx4 hx5 HB BK
    iterate 5 first | (refine seqP (v := ?_) (a' := ?_) rfl rfl (by kernel_rfl) (fun _ _ _ h => h) (Or.inl ⟨by kernel_rfl, ?_⟩) ?_ ?_; rotate_left; (intro w'; go_simp; with_reducible rfl); rotate_left; (simp only [Act.put, sa_, sb_, sc_, i64_w, i32_w]; rfl)) | (refine seqL (v := ?_) (a' := ?_) rfl rfl (by kernel_rfl) (fun _ _ _ h => h) (Or.inl ⟨by kernel_rfl, ?_⟩) hHeld ?_ ?_; rotate_left; (rintro w' ⟨s0, s1, s2, s3, s4, s5, s6, s7, s8, s9, s10, s11, s12⟩; go_simp; with_reducible rfl); rotate_left; (simp only [Act.put, sa_, sb_, sc_, i64_w, i32_w]; rfl))
    refine seqG (fn := Tryd.f25) rfl rfl (by kernel_rfl) rfl Tryd.func25 (by kernel_rfl) (by kernel_rfl) #[.agg #[.int .i64 x0, .int .i64 x1, .string x2, .int .i64 x3, .string x4, .bool x5], .int .i64 now] (by kernel_rfl) (by (try simp only [List.map_toArray, List.map_cons, List.map_nil]); first | done | rfl) ?_
    with_reducible refine (CV.out _).mono ?_
    rintro e wg ⟨rfl, hb2⟩
    have HB2 := am_ (bt_ HB1.out hb2)
    have BK2 := am_ (kb_ BK1.out hb2)
    refine ⟨_, rfl, pinfoldref11_Pick.S_below hHeld hb2, fun hHeld => ⟨?_, ?_, ?_⟩⟩
    rotate_left
    ·simp only [Act.put, sa_, sb_, sc_, i64_w, i32_w]
     rfl
    clear hb2 HB1 BK1 CV
    iterate 2 first | (refine seqP (v := ?_) (a' := ?_) rfl rfl (by kernel_rfl) (fun _ _ _ h => h) (Or.inl ⟨by kernel_rfl, ?_⟩) ?_ ?_; rotate_left; (intro w'; go_simp; with_reducible rfl); rotate_left; (simp only [Act.put, sa_, sb_, sc_, i64_w, i32_w]; rfl)) | (refine seqL (v := ?_) (a' := ?_) rfl rfl (by kernel_rfl) (fun _ _ _ h => h) (Or.inl ⟨by kernel_rfl, ?_⟩) hHeld ?_ ?_; rotate_left; (rintro w' ⟨s0, s1, s2, s3, s4, s5, s6, s7, s8, s9, s10, s11, s12⟩; go_simp; with_reducible rfl); rotate_left; (simp only [Act.put, sa_, sb_, sc_, i64_w, i32_w]; rfl))
    iterate 18 first | (refine seqP (v := ?_) (a' := ?_) rfl rfl (by kernel_rfl) (fun _ _ _ h => h) (Or.inl ⟨by kernel_rfl, ?_⟩) ?_ ?_; rotate_left; (intro w'; go_simp; with_reducible rfl); rotate_left; (simp only [Act.put, sa_, sb_, sc_, i64_w, i32_w]; rfl)) | (refine seqL (v := ?_) (a' := ?_) rfl rfl (by kernel_rfl) (fun _ _ _ h => h) (Or.inl ⟨by kernel_rfl, ?_⟩) hHeld ?_ ?_; rotate_left; (rintro w' ⟨s0, s1, s2, s3, s4, s5, s6, s7, s8, s9, s10, s11, s12⟩; go_simp; with_reducible rfl); rotate_left; (simp only [Act.put, sa_, sb_, sc_, i64_w, i32_w]; rfl))
    refine seqG (fn := Tryd.f46) rfl rfl (by kernel_rfl) rfl Tryd.func46 (by kernel_rfl) (by kernel_rfl) #[.agg #[.int .i64 a0_0, .int .i64 a0_1, .slice A0_2 l0_2.length c0_2, .slice A0_3 l0_3.length c0_3, .int .i64 a0_4, .string a0_5, .slice A0_6 l0_6.length c0_6], .slice (some ad) l1.length c1, .int .i64 now, .string client, .int .i64 x0] (by kernel_rfl) (by (try simp only [List.map_toArray, List.map_cons, List.map_nil]); first | done | rfl) ?_
    with_reducible refine (COi.out _ HB2.out).mono ?_
    rintro e wg ⟨rfl, hb2⟩
    have HB3 := am_ (bt_ HB2.out hb2)
    have BK3 := am_ (kb_ BK2.out hb2)
    refine ⟨_, rfl, pinfoldref11_Pick.S_below hHeld hb2, fun hHeld => ⟨?_, ?_, ?_⟩⟩
    rotate_left
    ·simp only [Act.put, sa_, sb_, sc_, i64_w, i32_w]
     rfl
    clear hb2 HB2 BK2 COi
    iterate 1 first | (refine seqP (v := ?_) (a' := ?_) rfl rfl (by kernel_rfl) (fun _ _ _ h => h) (Or.inl ⟨by kernel_rfl, ?_⟩) ?_ ?_; rotate_left; (intro w'; go_simp; with_reducible rfl); rotate_left; (simp only [Act.put, sa_, sb_, sc_, i64_w, i32_w]; rfl)) | (refine seqL (v := ?_) (a' := ?_) rfl rfl (by kernel_rfl) (fun _ _ _ h => h) (Or.inl ⟨by kernel_rfl, ?_⟩) hHeld ?_ ?_; rotate_left; (rintro w' ⟨s0, s1, s2, s3, s4, s5, s6, s7, s8, s9, s10, s11, s12⟩; go_simp; with_reducible rfl); rotate_left; (simp only [Act.put, sa_, sb_, sc_, i64_w, i32_w]; rfl))
    cases T with
    | false =>
     have HN := am_ (show endP q a0_0 a0_1 l1 ((l1.drop (i + 1).toNat).find? (hadP q now client)) = (r1, r2) from he)
     clear he
     refine seqE (by kernel_rfl) ?_
     go_wp2
     go_roundg (l1.length - (i.toNat + 1))
     case measure => exact H3.out
     case rel => exact ⟨i + 1, H1.out, H2.out, by first | rfl | (rw [show wrap64 (i + 1) = i + 1 from (i64_w _).symm.trans H4.out]), HB3, BK3, HN⟩
    | true =>
     obtain ⟨e1, e2⟩ := Prod.mk.inj (show (x0, (0 : Int)) = (r1, r2) from he)
     replace e1 := am_ e1
     replace e2 := am_ e2
     clear he
     have hx0 := (HB3.out.cell (wb_ w _ hw0)).trans hw0
     refine seqE (by kernel_rfl) ?_
     go_wp2
     go_ret2
     exact ⟨by rw [← e1.out, ← e2.out] <;> rfl, HB3.out⟩
   ·have HE2 := am_ (show refGo l1 0 0 ((hostsFrom a0_0 (a0_1 + 1 - a0_0).toNat).filter q) = (r1, r2) by have he := HE.out; rw [List.drop_eq_nil_of_le (by omega)] at he; exact he)
    have u0 := bc_ BK.out 0
    have u1 := bc_ BK.out 1
    have u2 := bc_ BK.out 2
    have u3 := bc_ BK.out 3
    have u4 := bc_ BK.out 4
    have u5 := bc_ BK.out 5
    have u6 := bc_ BK.out 6
    clear HE HX
    go_wp2
    clear u0 u1 u2 u3 u4 u5 u6
    go_loopg [17, 18, 19] (a0_1 + 1 - a0_0).toNat (fun d vb vt vh w' => ∃ h best til : Int, a0_0 ≤ h ∧ (a0_1 + 1 - h).toNat = d ∧ vb = .int .i64 best ∧ vt = .int .i64 til ∧ vh = .int .i64 h ∧ Aside0 (Below w.heap.size w w') ∧ Aside0 (w'.heap[w.heap.size]? = some (.cells #[.int .i64 a0_0, .int .i64 a0_1, .slice A0_2 l0_2.length c0_2, .slice A0_3 l0_3.length c0_3, .int .i64 a0_4, .string a0_5, .slice A0_6 l0_6.length c0_6] 26)) ∧ Aside0 (refGo l1 best til ((hostsFrom h (a0_1 + 1 - h).toNat).filter q) = (r1, r2)))
    case atStart => exact ⟨a0_0, 0, 0, by omega, rfl, rfl, rfl, rfl, HB, BK, HE2⟩
    case round =>
     clear HB BK HE2
     obtain ⟨h, best, til, hh0, hh1, rfl, rfl, rfl, HB, BK, HE⟩ := hrel
     have u0 := bc_ BK.out 0
     have u1 := bc_ BK.out 1
     have u2 := bc_ BK.out 2
     have u3 := bc_ BK.out 3
     have u4 := bc_ BK.out 4
     have u5 := bc_ BK.out 5
     have u6 := bc_ BK.out 6
     have he := HE.out
     clear HE
     by_cases hle : h ≤ a0_1
     ·rw [show (a0_1 + 1 - h).toNat = (a0_1 + 1 - (h + 1)).toNat + 1 by omega] at he
      unfold hostsFrom at he
      rw [List.filter_cons] at he
      obtain ⟨T, hT⟩ : ∃ T, q h = T := ⟨_, rfl⟩
      have COi := am_ (fun W hb => CO.out h W hb)
      rw [hT] at he COi
      clear hT
      cases T with
      | false =>
       have HN := am_ (show refGo l1 best til ((hostsFrom (h + 1) (a0_1 + 1 - (h + 1)).toNat).filter q) = (r1, r2) from he)
       clear he
       go_wp2_with (first | (go_at_call 46; (with_reducible refine (COi.out _ (by repeat (with_reducible first | exact HB.out | apply p3_ | apply p1_ | apply p2_))).mono ?_); rintro e w5 ⟨rfl, hb2⟩; replace BK := am_ (kb_ BK.out hb2); replace HB := am_ (bt_ HB.out hb2); clear hb2; clear u0 u1 u2 u3 u4 u5 u6; have u0 := bc_ BK.out 0; have u1 := bc_ BK.out 1; have u2 := bc_ BK.out 2; have u3 := bc_ BK.out 3; have u4 := bc_ BK.out 4; have u5 := bc_ BK.out 5; have u6 := bc_ BK.out 6))
       go_roundg (a0_1 + 1 - (h + 1)).toNat
       case measure => first | omega | (simp; omega)
       case rel => exact ⟨h + 1, best, til, by omega, by omega, rfl, rfl, by first | rfl | go_num, ⟨(by repeat (with_reducible first | exact HB.out | apply p3_ | apply p1_ | apply p2_))⟩, ⟨(by (with_reducible repeat (first | exact BK.out | refine k2_ ?_ _ | refine k3_ ?_ | refine k1_ ?_ _)))⟩, HN⟩
      | true =>
      rw [if_pos rfl] at he
      unfold refGo at he
      cases hf : findL l1 h with
      | none =>
       rw [hf] at he
       obtain ⟨e1, e2⟩ := Prod.mk.inj (show (h, (0 : Int)) = (r1, r2) from he)
       replace e1 := am_ e1
       replace e2 := am_ e2
       have CG := am_ (fun W hb => CFi.out h ⟨0, 0, (⟨#[]⟩ : ByteArray), 0, (⟨#[]⟩ : ByteArray), false⟩ false (by rw [hf]; exact ⟨rfl, rfl⟩) W hb)
       clear he hf
       go_wp2_with (first | (go_at_call 46; (with_reducible refine (COi.out _ (by repeat (with_reducible first | exact HB.out | apply p3_ | apply p1_ | apply p2_))).mono ?_); rintro e w5 ⟨rfl, hb2⟩; replace BK := am_ (kb_ BK.out hb2); replace HB := am_ (bt_ HB.out hb2); clear hb2; clear u0 u1 u2 u3 u4 u5 u6; have u0 := bc_ BK.out 0; have u1 := bc_ BK.out 1; have u2 := bc_ BK.out 2; have u3 := bc_ BK.out 3; have u4 := bc_ BK.out 4; have u5 := bc_ BK.out 5; have u6 := bc_ BK.out 6) | (go_at_call 30; (with_reducible refine (CG.out _ HB.out).mono ?_); rintro e w6 ⟨rfl, hb2⟩; replace BK := am_ (kb_ BK.out hb2); replace HB := am_ (bt_ HB.out hb2); clear hb2 u0 u1 u2 u3 u4 u5 u6))
       go_ret2
       exact ⟨by rw [← e1.out, ← e2.out] <;> rfl, (by repeat (with_reducible first | exact HB.out | apply p3_ | apply p1_ | apply p2_))⟩
      | some y =>
       rw [hf] at he
       obtain ⟨y0, y1, y2, y3, y4, y5⟩ := y
       have he2 : (if best = 0 ∨ y3 < til then refGo l1 h y3 ((hostsFrom (h + 1) (a0_1 + 1 - (h + 1)).toNat).filter q) else refGo l1 best til ((hostsFrom (h + 1) (a0_1 + 1 - (h + 1)).toNat).filter q)) = (r1, r2) := he
       have CG := am_ (fun W hb => CFi.out h ⟨y0, y1, y2, y3, y4, y5⟩ true (by rw [hf]; exact ⟨rfl, rfl⟩) W hb)
       clear he hf
       by_cases c1 : best = 0 ∨ y3 < til
       ·rw [if_pos c1] at he2
        have HN := am_ he2
        clear he2
        have c1' : (best == 0) = true ∨ (best == 0) = false ∧ decide (y3 < til) = true := by
         by_cases e : best = 0
         ·exact .inl (by simpa using e)
         ·exact .inr ⟨by simpa using e, decide_eq_true (c1.resolve_left e)⟩
        clear c1
        rcases c1' with c1 | ⟨c1, c2⟩
        all_goals go_wp2_with (first | (go_at_call 46; (with_reducible refine (COi.out _ (by repeat (with_reducible first | exact HB.out | apply p3_ | apply p1_ | apply p2_))).mono ?_); rintro e w5 ⟨rfl, hb2⟩; replace BK := am_ (kb_ BK.out hb2); replace HB := am_ (bt_ HB.out hb2); clear hb2; clear u0 u1 u2 u3 u4 u5 u6; have u0 := bc_ BK.out 0; have u1 := bc_ BK.out 1; have u2 := bc_ BK.out 2; have u3 := bc_ BK.out 3; have u4 := bc_ BK.out 4; have u5 := bc_ BK.out 5; have u6 := bc_ BK.out 6) | (go_at_call 30; (with_reducible refine (CG.out _ HB.out).mono ?_); rintro e w6 ⟨rfl, hb2⟩; replace BK := am_ (kb_ BK.out hb2); replace HB := am_ (bt_ HB.out hb2); clear hb2 u0 u1 u2 u3 u4 u5 u6))
        all_goals replace HB := am_ (p3_ HB.out (.cells #[.int .i64 y0, .int .i64 y1, .string y2, .int .i64 y3, .string y4, .bool y5] 42))
        all_goals replace BK := am_ (k1_ BK.out (.cells #[.int .i64 y0, .int .i64 y1, .string y2, .int .i64 y3, .string y4, .bool y5] 42))
        all_goals
         go_roundg (a0_1 + 1 - (h + 1)).toNat
         case measure => first | omega | (simp; omega)
         case rel => exact ⟨h + 1, h, y3, by omega, by omega, rfl, rfl, by first | rfl | go_num, HB, BK, HN⟩
       ·rw [if_neg c1] at he2
        have HN := am_ he2
        have c2 : (best == 0) = false := by simpa using fun e => c1 (.inl e)
        have c3 : decide (y3 < til) = false := decide_eq_false (fun e => c1 (.inr e))
        clear c1 he2
        go_wp2_with (first | (go_at_call 46; (with_reducible refine (COi.out _ (by repeat (with_reducible first | exact HB.out | apply p3_ | apply p1_ | apply p2_))).mono ?_); rintro e w5 ⟨rfl, hb2⟩; replace BK := am_ (kb_ BK.out hb2); replace HB := am_ (bt_ HB.out hb2); clear hb2; clear u0 u1 u2 u3 u4 u5 u6; have u0 := bc_ BK.out 0; have u1 := bc_ BK.out 1; have u2 := bc_ BK.out 2; have u3 := bc_ BK.out 3; have u4 := bc_ BK.out 4; have u5 := bc_ BK.out 5; have u6 := bc_ BK.out 6) | (go_at_call 30; (with_reducible refine (CG.out _ HB.out).mono ?_); rintro e w6 ⟨rfl, hb2⟩; replace BK := am_ (kb_ BK.out hb2); replace HB := am_ (bt_ HB.out hb2); clear hb2 u0 u1 u2 u3 u4 u5 u6))
        replace HB := am_ (p3_ HB.out (.cells #[.int .i64 y0, .int .i64 y1, .string y2, .int .i64 y3, .string y4, .bool y5] 42))
        replace BK := am_ (k1_ BK.out (.cells #[.int .i64 y0, .int .i64 y1, .string y2, .int .i64 y3, .string y4, .bool y5] 42))
        go_roundg (a0_1 + 1 - (h + 1)).toNat
        case measure => first | omega | (simp; omega)
        case rel => exact ⟨h + 1, best, til, by omega, by omega, rfl, rfl, by first | rfl | go_num, ⟨(by repeat (with_reducible first | exact HB.out | apply p3_ | apply p1_ | apply p2_))⟩, ⟨(by (with_reducible repeat (first | exact BK.out | refine k2_ ?_ _ | refine k3_ ?_ | refine k1_ ?_ _)))⟩, HN⟩
     ·rw [show (a0_1 + 1 - h).toNat = 0 by omega] at he
      have he2 : (if best = 0 then ((0 : Int), (1401 : Int)) else (best, 0)) = (r1, r2) := he
      clear he
      by_cases e : best = 0
      ·subst e
       rw [if_pos rfl] at he2
       obtain ⟨rfl, rfl⟩ := Prod.mk.inj he2
       clear he2
       go_wp2
       go_ret2
       exact ⟨rfl, HB.out⟩
      ·rw [if_neg e] at he2
       obtain ⟨e1, e2⟩ := Prod.mk.inj he2
       have c2 : (best == 0) = false := by simpa using e
       replace e1 := am_ e1
       replace e2 := am_ e2
       clear he2 e
       go_wp2
       go_ret2
       exact ⟨by rw [← e1.out, ← e2.out] <;> rfl, HB.out⟩

end Go.Proofs.YtmoobaehoccihaaDoor.PF
