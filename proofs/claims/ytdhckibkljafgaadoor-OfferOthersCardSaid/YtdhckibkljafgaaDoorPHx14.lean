-- Made by wip/pr.py out of the translation (a turned copy of the kit's print; contracts by hand where said).
import Derived.Test.YtdhckibkljafgaaDoorPHx0
import Derived.Test.YtdhckibkljafgaaDoorPHx2
import Derived.Test.YtdhckibkljafgaaDoorPHx3
import Derived.Test.YtdhckibkljafgaaDoorPHx13
namespace Go.Proofs.YtdhckibkljafgaaDoor.PH
open Go.RowKit Go.Proofs.YtdhckibkljafgaaDoorW.PrintWords Go.Proofs.YtdhckibkljafgaaDoorW.PrintLast Go.Proofs.YtdhckibkljafgaaDoorW.PrintMore
-- shrunk
attribute [local go_sem] max2_int min2_int max_two min_two max_three min_three max_four min_four   -- for this text's walks alone
set_option linter.unusedVariables false
set_option linter.unusedSimpArgs false

/-! ### pinfoldref11_FindLease: function 10 -/
def pinfoldref11_FindLease.l0 : Nat → List (S35) → Int → Int → Option (Int × Int × ByteArray × Int × ByteArray × Bool × Bool)
 | 0, _, _, _ => none
 | k + 1, x0, x1, x6 => if x6 < (x0.length : Int) then (if 0 ≤ x6 then (if ((rd_T35 x0 x6).f0) = x1 then (some ((rd_T35 x0 x6).f0, (rd_T35 x0 x6).f1, (rd_T35 x0 x6).f2, (rd_T35 x0 x6).f3, (rd_T35 x0 x6).f4, (rd_T35 x0 x6).f5, true)) else (pinfoldref11_FindLease.l0 k x0 x1 (wrap64 (x6 + 1)))) else (none)) else (some (0, 0, (⟨#[]⟩ : ByteArray), 0, (⟨#[]⟩ : ByteArray), false, false))
def pinfoldref11_FindLease.f (k : Nat) (l0 : List (S35)) (a1 : Int) : Option (Int × Int × ByteArray × Int × ByteArray × Bool × Bool) := pinfoldref11_FindLease.l0 k l0 a1 0
theorem pinfoldref11_FindLease.mono_l : ∀ k, (∀ y0 y1 y2, LeO (pinfoldref11_FindLease.l0 k y0 y1 y2) (pinfoldref11_FindLease.l0 (k + 1) y0 y1 y2))
 | 0 => fun _ _ _ r h => by simp [pinfoldref11_FindLease.l0] at h
 | k + 1 => by
  have ih0 := pinfoldref11_FindLease.mono_l k
  ·intro y0 y1 y2
   unfold pinfoldref11_FindLease.l0
   repeat' first
   | (with_reducible exact ih0 _ _ _)
   | (with_reducible exact LeO.refl _)
   | (with_reducible exact LeO.none _)
   | (with_reducible refine LeO.ite ?_ ?_)
   | (with_reducible refine LeO.bind ?_ (fun _ => ?_))
   | exact ih0 _ _ _
   | exact LeO.none _
   | refine LeO.ite ?_ ?_
   | refine LeO.bind ?_ (fun _ => ?_)
theorem pinfoldref11_FindLease.mono : ∀ a0 a1 k, LeO (pinfoldref11_FindLease.f k a0 a1) (pinfoldref11_FindLease.f (k + 1) a0 a1) := by
 intro a0 a1 k
 have ih0 := pinfoldref11_FindLease.mono_l k
 unfold pinfoldref11_FindLease.f
 repeat' first
   | (with_reducible exact ih0 _ _ _)
   | (with_reducible exact LeO.refl _)
   | (with_reducible exact LeO.none _)
   | (with_reducible refine LeO.ite ?_ ?_)
   | (with_reducible refine LeO.bind ?_ (fun _ => ?_))
   | exact ih0 _ _ _
   | exact LeO.none _
   | refine LeO.ite ?_ ?_
   | refine LeO.bind ?_ (fun _ => ?_)
set_option maxHeartbeats 8000000 in
set_option maxRecDepth 100000 in
theorem pinfoldref11_FindLease.calls (k : Nat) (A0 : Option Addr) (c0 : Nat) (l0 : List (S35)) (a1 : Int) (r1 : Int) (r2 : Int) (r3 : ByteArray) (r4 : Int) (r5 : ByteArray) (r6 : Bool) (r7 : Bool) (w : World) (hr0 : Kd.C k35 w A0 l0.length l0) (hc0 : l0.length ≤ c0) (h : pinfoldref11_FindLease.f k l0 a1 = some (r1, r2, r3, r4, r5, r6, r7)) :
  Calls Tryd.prog 10 #[.slice A0 l0.length c0, .int .i64 a1] w fun e w' => e = .returned (.tuple #[.agg #[.int .i64 r1, .int .i64 r2, .string r3, .int .i64 r4, .string r5, .bool r6], .bool r7]) ∧ Below w.heap.size w w' := by
 have hu35 := Tryd.underlying35
 have HR0 := am_ hr0
 have HC0 := am_ hc0
 clear hr0 hc0
 have HB := am_ (Below.refl w.heap.size w)
 have H : (pinfoldref11_FindLease.l0 k l0 a1 0) = some (r1, r2, r3, r4, r5, r6, r7) := h
 clear h
 have H' := am_ H
 clear H
 go_enter Tryd.func10, Tryd.ntmps10
 go_wp2_with (first | ((with_reducible refine gate_dst (N := 4) rfl ?_); refine box_event ?hg (N := 4) ?hd (cs := #[.int .i64 0, .int .i64 0, .string (⟨#[]⟩ : ByteArray), .int .i64 0, .string (⟨#[]⟩ : ByteArray), .bool false]) (t := 35) ?hr ?_; (case hd => rfl); (case hg => rfl); (case hr => first | (go_simp; done) | (go_simp; rfl)); intro gb262 hg w3 hbox hb; have n0_ := am_ (bt_ (by repeat (with_reducible first | exact HB.out | apply p3_ | apply p1_ | apply p2_)) hb); have n1_ := am_ (hbox); have n2_ := am_ ((by rw [hg]; exact (bz_ (by repeat (with_reducible first | exact HB.out | apply p3_ | apply p1_ | apply p2_))) : w.heap.size ≤ gb262)); have n3_ := am_ ((by rw [hg]; exact (bz_ (by repeat (with_reducible first | exact HB.out | apply p3_ | apply p1_ | apply p2_))) : w.heap.size ≤ gb262)); clear HB; have HB := n0_; have BK262 := n1_; have GW262 := n2_; have GE262 := n3_; clear n0_ n1_ n2_ n3_; clear hb hbox hg))
 go_loopg [6] k (fun kq v6 w' => ∃ (x6_1 : Int) (x263000_1 : Int) (x263001_1 : Int) (x263002_1 : ByteArray) (x263003_1 : Int) (x263004_1 : ByteArray) (x263005_1 : Bool), v6 = .int .i64 x6_1 ∧ Aside0 (pinfoldref11_FindLease.l0 kq l0 a1 x6_1 = some (r1, r2, r3, r4, r5, r6, r7)) ∧ Aside0 (kq ≤ k) ∧ Aside0 (w'.heap[gb262]? = some (.cells #[.int .i64 x263000_1, .int .i64 x263001_1, .string x263002_1, .int .i64 x263003_1, .string x263004_1, .bool x263005_1] 35 (0, 0))) ∧ Aside0 (Below w.heap.size w w'))
 case atStart => exact ⟨(0), (0), (0), ((⟨#[]⟩ : ByteArray)), (0), ((⟨#[]⟩ : ByteArray)), (false), (by first | rfl | (simp; done) | (simp [*]; done)), H', ⟨Nat.le_refl _⟩, ⟨by (with_reducible repeat (first | refine k2_ ?_ _ | refine k3_ ?_ | refine k1_ ?_ _)); exact BK262.out⟩, ⟨by repeat (with_reducible first | exact HB.out | apply p3_ | apply p1_ | apply p2_ | refine bs_ ?_ GE262.out)⟩⟩
 case round =>
  clear H'
  obtain ⟨x6_1, x263000_1, x263001_1, x263002_1, x263003_1, x263004_1, x263005_1, rfl, HA, HK1, BK262, HB⟩ := hrel
  cases gk with
  | zero => exact absurd HA.out (by simp [pinfoldref11_FindLease.l0])
  | succ k1 =>
   have H := HA.out
   clear HA
   simp only [pinfoldref11_FindLease.l0] at H
   by_cases c4 : x6_1 < (l0.length : Int)
   ·rw [if_pos c4] at H
    have c4b0 : decide (x6_1 < (l0.length : Int)) = true := decide_eq_true c4
    clear c4
    by_cases c5 : 0 ≤ x6_1
    rotate_left
    ·rw [if_neg c5] at H
     exact absurd H (by simp)
    rw [if_pos c5] at H
    have c5b0 : decide (0 ≤ x6_1) = true := decide_eq_true c5
    clear c5
    by_cases c6 : ((rd_T35 l0 x6_1).f0) = a1
    ·rw [if_pos c6] at H
     have c6b0 : (((rd_T35 l0 x6_1).f0) == a1) = true := beq_iff_eq.mpr c6
     have c6b1 : (((rd_T35 l0 x6_1).f0) != a1) = false := e1_ c6
     clear c6
     simp only [Option.some.injEq, Prod.mk.injEq] at H
     obtain ⟨rfl, rfl, rfl, rfl, rfl, rfl, rfl⟩ := H
     have p263 : 0 ≤ (x6_1 : Int) := of_decide_eq_true (by first | (with_reducible assumption) | assumption)
     have q263 : x6_1 < (l0.length : Int) := of_decide_eq_true (by first | (with_reducible assumption) | assumption)
     obtain ⟨ad263, e263, hx263_0, hx263_1, hx263_2, hx263_3, hx263_4, hx263_5⟩ := at_T35 HR0.out x6_1 p263 q263
     cases e263
     replace hx263_0 := (HB.out.cell (wb_ w _ hx263_0)).trans hx263_0
     replace hx263_1 := (HB.out.cell (wb_ w _ hx263_1)).trans hx263_1
     replace hx263_2 := (HB.out.cell (wb_ w _ hx263_2)).trans hx263_2
     replace hx263_3 := (HB.out.cell (wb_ w _ hx263_3)).trans hx263_3
     replace hx263_4 := (HB.out.cell (wb_ w _ hx263_4)).trans hx263_4
     replace hx263_5 := (HB.out.cell (wb_ w _ hx263_5)).trans hx263_5
     replace p263 := eq_true p263
     replace q263 := eq_true q263
     have p264 : 0 ≤ (x6_1 : Int) := of_decide_eq_true (by first | (with_reducible assumption) | assumption)
     have q264 : x6_1 < (l0.length : Int) := of_decide_eq_true (by first | (with_reducible assumption) | assumption)
     obtain ⟨ad264, e264, hx264_0, hx264_1, hx264_2, hx264_3, hx264_4, hx264_5⟩ := at_T35 HR0.out x6_1 p264 q264
     obtain rfl : ad263 = ad264 := (by injection e264)
     replace hx264_0 := (HB.out.cell (wb_ w _ hx264_0)).trans hx264_0
     replace hx264_1 := (HB.out.cell (wb_ w _ hx264_1)).trans hx264_1
     replace hx264_2 := (HB.out.cell (wb_ w _ hx264_2)).trans hx264_2
     replace hx264_3 := (HB.out.cell (wb_ w _ hx264_3)).trans hx264_3
     replace hx264_4 := (HB.out.cell (wb_ w _ hx264_4)).trans hx264_4
     replace hx264_5 := (HB.out.cell (wb_ w _ hx264_5)).trans hx264_5
     replace p264 := eq_true p264
     replace q264 := eq_true q264
     have hcz7_0 : wr.cell? ⟨gb262, 0, none⟩ = some (.int .i64 x263000_1) := (bc_ BK262.out 0).trans rfl; have hcz7_1 : wr.cell? ⟨gb262, 1, none⟩ = some (.int .i64 x263001_1) := (bc_ BK262.out 1).trans rfl; have hcz7_2 : wr.cell? ⟨gb262, 2, none⟩ = some (.string x263002_1) := (bc_ BK262.out 2).trans rfl; have hcz7_3 : wr.cell? ⟨gb262, 3, none⟩ = some (.int .i64 x263003_1) := (bc_ BK262.out 3).trans rfl; have hcz7_4 : wr.cell? ⟨gb262, 4, none⟩ = some (.string x263004_1) := (bc_ BK262.out 4).trans rfl; have hcz7_5 : wr.cell? ⟨gb262, 5, none⟩ = some (.bool x263005_1) := (bc_ BK262.out 5).trans rfl; have hfz7_0 := bf_ BK262.out 0; have hfz7_1 := bf_ BK262.out 1; have hfz7_2 := bf_ BK262.out 2; have hfz7_3 := bf_ BK262.out 3; have hfz7_4 := bf_ BK262.out 4; have hfz7_5 := bf_ BK262.out 5
     go_wp2
     refine bodyPost_ret (results_ct rfl _ _ gb262 35 #[.int .i64 ((rd_T35 l0 x6_1).f0), .int .i64 ((rd_T35 l0 x6_1).f1), .string ((rd_T35 l0 x6_1).f2), .int .i64 ((rd_T35 l0 x6_1).f3), .string ((rd_T35 l0 x6_1).f4), .bool ((rd_T35 l0 x6_1).f5)] (0, 0) _ rfl (by (with_reducible repeat (first | refine k2_ ?_ _ | refine k3_ ?_ | refine k1_ ?_ _)); refine blk_put (cs := #[.int .i64 ((rd_T35 l0 x6_1).f0), .int .i64 ((rd_T35 l0 x6_1).f1), .string ((rd_T35 l0 x6_1).f2), .int .i64 ((rd_T35 l0 x6_1).f3), .string ((rd_T35 l0 x6_1).f4), .bool x263005_1]) ?_ 5 _ rfl; (with_reducible repeat (first | refine k2_ ?_ _ | refine k3_ ?_ | refine k1_ ?_ _)); refine blk_put (cs := #[.int .i64 ((rd_T35 l0 x6_1).f0), .int .i64 ((rd_T35 l0 x6_1).f1), .string ((rd_T35 l0 x6_1).f2), .int .i64 ((rd_T35 l0 x6_1).f3), .string x263004_1, .bool x263005_1]) ?_ 4 _ rfl; (with_reducible repeat (first | refine k2_ ?_ _ | refine k3_ ?_ | refine k1_ ?_ _)); refine blk_put (cs := #[.int .i64 ((rd_T35 l0 x6_1).f0), .int .i64 ((rd_T35 l0 x6_1).f1), .string ((rd_T35 l0 x6_1).f2), .int .i64 x263003_1, .string x263004_1, .bool x263005_1]) ?_ 3 _ rfl; (with_reducible repeat (first | refine k2_ ?_ _ | refine k3_ ?_ | refine k1_ ?_ _)); refine blk_put (cs := #[.int .i64 ((rd_T35 l0 x6_1).f0), .int .i64 ((rd_T35 l0 x6_1).f1), .string x263002_1, .int .i64 x263003_1, .string x263004_1, .bool x263005_1]) ?_ 2 _ rfl; (with_reducible repeat (first | refine k2_ ?_ _ | refine k3_ ?_ | refine k1_ ?_ _)); refine blk_put (cs := #[.int .i64 ((rd_T35 l0 x6_1).f0), .int .i64 x263001_1, .string x263002_1, .int .i64 x263003_1, .string x263004_1, .bool x263005_1]) ?_ 1 _ rfl; (with_reducible repeat (first | refine k2_ ?_ _ | refine k3_ ?_ | refine k1_ ?_ _)); refine blk_put (cs := #[.int .i64 x263000_1, .int .i64 x263001_1, .string x263002_1, .int .i64 x263003_1, .string x263004_1, .bool x263005_1]) ?_ 0 _ rfl; (with_reducible repeat (first | refine k2_ ?_ _ | refine k3_ ?_ | refine k1_ ?_ _)); exact BK262.out) Tryd.underlying35 rfl (by kernel_rfl)) rfl ?_
     exact ⟨by first | rfl | (simp [errW_none, errW_some] <;> rfl) | (simp [*, errW_none, errW_some] <;> rfl), by repeat (with_reducible first | exact HB.out | apply p3_ | apply p1_ | apply p2_ | refine bs_ ?_ GE262.out)⟩
    rw [if_neg c6] at H
    have c6b0 : (((rd_T35 l0 x6_1).f0) == a1) = false := e2_ c6
    have c6b1 : (((rd_T35 l0 x6_1).f0) != a1) = true := bne_iff_ne.mpr c6
    have H' := am_ H
    clear H
    have p263 : 0 ≤ (x6_1 : Int) := of_decide_eq_true (by first | (with_reducible assumption) | assumption)
    have q263 : x6_1 < (l0.length : Int) := of_decide_eq_true (by first | (with_reducible assumption) | assumption)
    obtain ⟨ad263, e263, hx263_0, hx263_1, hx263_2, hx263_3, hx263_4, hx263_5⟩ := at_T35 HR0.out x6_1 p263 q263
    cases e263
    replace hx263_0 := (HB.out.cell (wb_ w _ hx263_0)).trans hx263_0
    replace hx263_1 := (HB.out.cell (wb_ w _ hx263_1)).trans hx263_1
    replace hx263_2 := (HB.out.cell (wb_ w _ hx263_2)).trans hx263_2
    replace hx263_3 := (HB.out.cell (wb_ w _ hx263_3)).trans hx263_3
    replace hx263_4 := (HB.out.cell (wb_ w _ hx263_4)).trans hx263_4
    replace hx263_5 := (HB.out.cell (wb_ w _ hx263_5)).trans hx263_5
    replace p263 := eq_true p263
    replace q263 := eq_true q263
    go_wp2
    go_roundg k1
    case measure => have := HK1.out; omega
    case rel => exact ⟨(wrap64 (x6_1 + 1)), (x263000_1), (x263001_1), (x263002_1), (x263003_1), (x263004_1), (x263005_1), (by first | rfl | (simp; done) | (simp [*]; done)), H', ⟨by have := HK1.out; omega⟩, ⟨by (with_reducible repeat (first | refine k2_ ?_ _ | refine k3_ ?_ | refine k1_ ?_ _)); exact BK262.out⟩, ⟨by repeat (with_reducible first | exact HB.out | apply p3_ | apply p1_ | apply p2_ | refine bs_ ?_ GE262.out)⟩⟩
   rw [if_neg c4] at H
   have c4b0 : decide (x6_1 < (l0.length : Int)) = false := decide_eq_false c4
   clear c4
   simp only [Option.some.injEq, Prod.mk.injEq] at H
   obtain ⟨rfl, rfl, rfl, rfl, rfl, rfl, rfl⟩ := H
   have hcz8_0 : wr.cell? ⟨gb262, 0, none⟩ = some (.int .i64 x263000_1) := (bc_ BK262.out 0).trans rfl; have hcz8_1 : wr.cell? ⟨gb262, 1, none⟩ = some (.int .i64 x263001_1) := (bc_ BK262.out 1).trans rfl; have hcz8_2 : wr.cell? ⟨gb262, 2, none⟩ = some (.string x263002_1) := (bc_ BK262.out 2).trans rfl; have hcz8_3 : wr.cell? ⟨gb262, 3, none⟩ = some (.int .i64 x263003_1) := (bc_ BK262.out 3).trans rfl; have hcz8_4 : wr.cell? ⟨gb262, 4, none⟩ = some (.string x263004_1) := (bc_ BK262.out 4).trans rfl; have hcz8_5 : wr.cell? ⟨gb262, 5, none⟩ = some (.bool x263005_1) := (bc_ BK262.out 5).trans rfl; have hfz8_0 := bf_ BK262.out 0; have hfz8_1 := bf_ BK262.out 1; have hfz8_2 := bf_ BK262.out 2; have hfz8_3 := bf_ BK262.out 3; have hfz8_4 := bf_ BK262.out 4; have hfz8_5 := bf_ BK262.out 5
   go_wp2
   refine bodyPost_ret (results_ct rfl _ _ gb262 35 #[.int .i64 0, .int .i64 0, .string (⟨#[]⟩ : ByteArray), .int .i64 0, .string (⟨#[]⟩ : ByteArray), .bool false] (0, 0) _ rfl (by (with_reducible repeat (first | refine k2_ ?_ _ | refine k3_ ?_ | refine k1_ ?_ _)); refine blk_put (cs := #[.int .i64 0, .int .i64 0, .string (⟨#[]⟩ : ByteArray), .int .i64 0, .string (⟨#[]⟩ : ByteArray), .bool x263005_1]) ?_ 5 _ rfl; (with_reducible repeat (first | refine k2_ ?_ _ | refine k3_ ?_ | refine k1_ ?_ _)); refine blk_put (cs := #[.int .i64 0, .int .i64 0, .string (⟨#[]⟩ : ByteArray), .int .i64 0, .string x263004_1, .bool x263005_1]) ?_ 4 _ rfl; (with_reducible repeat (first | refine k2_ ?_ _ | refine k3_ ?_ | refine k1_ ?_ _)); refine blk_put (cs := #[.int .i64 0, .int .i64 0, .string (⟨#[]⟩ : ByteArray), .int .i64 x263003_1, .string x263004_1, .bool x263005_1]) ?_ 3 _ rfl; (with_reducible repeat (first | refine k2_ ?_ _ | refine k3_ ?_ | refine k1_ ?_ _)); refine blk_put (cs := #[.int .i64 0, .int .i64 0, .string x263002_1, .int .i64 x263003_1, .string x263004_1, .bool x263005_1]) ?_ 2 _ rfl; (with_reducible repeat (first | refine k2_ ?_ _ | refine k3_ ?_ | refine k1_ ?_ _)); refine blk_put (cs := #[.int .i64 0, .int .i64 x263001_1, .string x263002_1, .int .i64 x263003_1, .string x263004_1, .bool x263005_1]) ?_ 1 _ rfl; (with_reducible repeat (first | refine k2_ ?_ _ | refine k3_ ?_ | refine k1_ ?_ _)); refine blk_put (cs := #[.int .i64 x263000_1, .int .i64 x263001_1, .string x263002_1, .int .i64 x263003_1, .string x263004_1, .bool x263005_1]) ?_ 0 _ rfl; (with_reducible repeat (first | refine k2_ ?_ _ | refine k3_ ?_ | refine k1_ ?_ _)); exact BK262.out) Tryd.underlying35 rfl (by kernel_rfl)) rfl ?_
   exact ⟨by first | rfl | (simp [errW_none, errW_some] <;> rfl) | (simp [*, errW_none, errW_some] <;> rfl), by repeat (with_reducible first | exact HB.out | apply p3_ | apply p1_ | apply p2_ | refine bs_ ?_ GE262.out)⟩

/-! ### pinfoldref11_FindLease_c: function 10 -/
theorem reffind_l0 (l : List S35) (h : Int) (hl : l.length ≤ 140737488351232) : ∀ (d k i : Nat), i + d = l.length → d + 1 ≤ k → pinfoldref11_FindLease.l0 k l h (i : Int) = some ((gotL (findL (l.drop i) h)).f0, (gotL (findL (l.drop i) h)).f1, (gotL (findL (l.drop i) h)).f2, (gotL (findL (l.drop i) h)).f3, (gotL (findL (l.drop i) h)).f4, (gotL (findL (l.drop i) h)).f5, (findL (l.drop i) h).isSome)
 | 0, k, i, hi, hk => by
  obtain ⟨k, rfl⟩ : ∃ j, k = j + 1 := ⟨k - 1, by omega⟩
  rw [List.drop_eq_nil_of_le (by omega), pinfoldref11_FindLease.l0, if_neg (by omega)]
  rfl
 | d + 1, k, i, hi, hk => by
  obtain ⟨k, rfl⟩ : ∃ j, k = j + 1 := ⟨k - 1, by omega⟩
  have hlt : i < l.length := by omega
  have ih := reffind_l0 l h hl d k (i + 1) (by omega) (by omega)
  rw [pinfoldref11_FindLease.l0, if_pos (by omega), if_pos (by omega), wrap_succ i l.length hlt hl, ih, rdLease_get l i hlt, List.drop_eq_getElem_cons hlt]
  by_cases q : l[i].f0 = h
  ·have e : findL (l[i] :: l.drop (i + 1)) h = some l[i] := by
    unfold findL
    rw [List.find?_cons, show (l[i].f0 == h) = true by simpa using q]
   rw [if_pos q, e]
   rfl
  ·have e : findL (l[i] :: l.drop (i + 1)) h = findL (l.drop (i + 1)) h := by
    unfold findL
    rw [List.find?_cons, show (l[i].f0 == h) = false by simpa using q]
   rw [if_neg q, e]
def pinfoldref11_FindLease_c.f (l0 : List S35) (a1 : Int) : Option (Int × Int × ByteArray × Int × ByteArray × Bool × Bool) := if l0.length ≤ 140737488351232 then some ((gotL (findL l0 a1)).f0, (gotL (findL l0 a1)).f1, (gotL (findL l0 a1)).f2, (gotL (findL l0 a1)).f3, (gotL (findL l0 a1)).f4, (gotL (findL l0 a1)).f5, (findL l0 a1).isSome) else none
theorem pinfoldref11_FindLease_c.calls (A0 : Option Addr) (c0 : Nat) (l0 : List S35) (a1 : Int) (r1 : Int) (r2 : Int) (r3 : ByteArray) (r4 : Int) (r5 : ByteArray) (r6 : Bool) (r7 : Bool) (w : World) (hr0 : Kd.C k35 w A0 l0.length l0) (hc0 : l0.length ≤ c0) (h : pinfoldref11_FindLease_c.f l0 a1 = some (r1, r2, r3, r4, r5, r6, r7)) :
  Calls Tryd.prog 10 #[.slice A0 l0.length c0, .int .i64 a1] w fun e w' => e = .returned (.tuple #[.agg #[.int .i64 r1, .int .i64 r2, .string r3, .int .i64 r4, .string r5, .bool r6], .bool r7]) ∧ Below w.heap.size w w' := by
 unfold pinfoldref11_FindLease_c.f at h
 by_cases hs : l0.length ≤ 140737488351232
 ·rw [if_pos hs] at h
  exact pinfoldref11_FindLease.calls (l0.length + 1) A0 c0 l0 a1 r1 r2 r3 r4 r5 r6 r7 w hr0 hc0 ((reffind_l0 l0 a1 hs l0.length (l0.length + 1) 0 (by omega) (by omega)).trans h)
 ·rw [if_neg hs] at h
  cases h

/-! ### pinfoldref11_TableMay: function 11 -/
-- BY HAND
-- 21
def hostAheadR (l : List S35) (i : Nat) : Option Int := if i = 0 then none else some (rd_T35 l ((i - 1 : Nat) : Int)).f0
def pinfoldref11_TableMay.S (pb : Addr) (x0 x1 : Int) (x2 : ByteArray) (x3 : Int) (x4 : ByteArray) (x5 : Bool) (pa : Addr) (y0 : Int) (w' : World) : Prop := w'.cell? pb = some (.int .i64 x0) ∧ w'.cell? ⟨pb.block, pb.off + 1, none⟩ = some (.int .i64 x1) ∧ w'.cell? ⟨pb.block, pb.off + 2, none⟩ = some (.string x2) ∧ w'.cell? ⟨pb.block, pb.off + 3, none⟩ = some (.int .i64 x3) ∧ w'.cell? ⟨pb.block, pb.off + 4, none⟩ = some (.string x4) ∧ w'.cell? ⟨pb.block, pb.off + 5, none⟩ = some (.bool x5) ∧ w'.cell? pa = some (.int .i64 y0)
theorem pinfoldref11_TableMay.S_below {w w2 : World} {pb : Addr} {x0 x1 : Int} {x2 : ByteArray} {x3 : Int} {x4 : ByteArray} {x5 : Bool} {pa : Addr} {y0 : Int} (h : pinfoldref11_TableMay.S pb x0 x1 x2 x3 x4 x5 pa y0 w) (hb : Below w.heap.size w w2) : pinfoldref11_TableMay.S pb x0 x1 x2 x3 x4 x5 pa y0 w2 := by
 obtain ⟨s0, s1, s2, s3, s4, s5, s6⟩ := h
 exact ⟨(hb.cell (wb_ _ _ s0)).trans s0, (hb.cell (wb_ _ _ s1)).trans s1, (hb.cell (wb_ _ _ s2)).trans s2, (hb.cell (wb_ _ _ s3)).trans s3, (hb.cell (wb_ _ _ s4)).trans s4, (hb.cell (wb_ _ _ s5)).trans s5, (hb.cell (wb_ _ _ s6)).trans s6⟩
def pinfoldref11_TableMay_c.f (l0 : List S35) : Option Bool := if tabFitR l0 then some (tableB l0) else none
set_option maxHeartbeats 8000000 in
set_option maxRecDepth 100000 in
theorem pinfoldref11_TableMay_c.calls (A0 : Option Addr) (c0 : Nat) (l0 : List S35) (r : Bool) (w : World) (hr0 : Kd.C k35 w A0 l0.length l0) (hc0 : l0.length ≤ c0) (h : pinfoldref11_TableMay_c.f l0 = some r) :
  Calls Tryd.prog 11 #[.slice A0 l0.length c0] w fun e w' => e = .returned (.bool r) ∧ Below w.heap.size w w' := by
 unfold pinfoldref11_TableMay_c.f at h
 by_cases hs : tabFitR l0
 rotate_left
 ·rw [if_neg hs] at h
  cases h
 rw [if_pos hs] at h
 have HT := am_ (show (goTab (hostAheadR l0 (0 : Int).toNat) (l0.drop (0 : Int).toNat) && decide (l0.length ≤ 8)) = r from e5_ h)
 have hl := hs.1
 have HX := am_ hs.2
 have HR := am_ hr0
 have HB := am_ (Below.refl w.heap.size w)
 clear h hs hr0 hc0
 go_enter Tryd.func11, Tryd.ntmps11
 go_wp2
 go_loopg [3] l0.length (fun d v w' => ∃ i : Int, 0 ≤ i ∧ i.toNat + d = l0.length ∧ v = .int .i64 i ∧ Aside0 (Below w.heap.size w w') ∧ Aside0 ((goTab (hostAheadR l0 i.toNat) (l0.drop i.toNat) && decide (l0.length ≤ 8)) = r))
 case atStart => exact ⟨0, by omega, by simp, rfl, HB, HT⟩
 case round =>
  clear HB HT
  obtain ⟨i, hi0, hd, rfl, HB, HT⟩ := hrel
  by_cases hlt : i < (l0.length : Int)
  ·obtain ⟨ad, e1, hw0, hw1, hw2, hw3, hw4, hw5⟩ := at_T35 HR.out i hi0 hlt
   cases e1
   have hx0 := (HB.out.cell (wb_ w _ hw0)).trans hw0; have hx1 := (HB.out.cell (wb_ w _ hw1)).trans hw1; have hx2 := (HB.out.cell (wb_ w _ hw2)).trans hw2; have hx3 := (HB.out.cell (wb_ w _ hw3)).trans hw3; have hx4 := (HB.out.cell (wb_ w _ hw4)).trans hw4; have hx5 := (HB.out.cell (wb_ w _ hw5)).trans hw5
   have hd1 := dropLease l0 i hi0 hlt
   have hsz := HX.out _ hd1.2
   have hst := HT.out
   rw [hd1.1] at hst
   have hnx : hostAheadR l0 (i.toNat + 1) = some (rd_T35 l0 i).f0 := by
    unfold hostAheadR
    rw [if_neg (by omega), Nat.add_sub_cancel, Int.toNat_of_nonneg hi0]
   have hi2 : (i + 1).toNat = i.toNat + 1 := by omega
   have hpv : ¬ i = 0 → ∃ j y, wrap64 (i - 1) = j ∧ 0 ≤ j ∧ j < (l0.length : Int) ∧ hostAheadR l0 i.toNat = some y ∧ w.cell? (ad.add (j.toNat * 6)) = some (.int .i64 y) := by
    intro h0
    have h1 : wrap64 (i - 1) = i - 1 := by unfold wrap64; omega
    obtain ⟨ad2, e2, hy0, _⟩ := at_T35 HR.out (i - 1) (by omega) (by omega)
    cases e2
    refine ⟨i - 1, _, h1, by omega, by omega, ?_, hy0⟩
    unfold hostAheadR
    rw [if_neg (by omega), show ((i.toNat - 1 : Nat) : Int) = i - 1 by omega]
   generalize rd_T35 l0 i = x at hw0 hw1 hw2 hw3 hw4 hw5 hx0 hx1 hx2 hx3 hx4 hx5 hsz hst hnx
   clear hd1 HT
   obtain ⟨x0, x1, x2, x3, x4, x5⟩ := x
   simp only at hw0 hw1 hw2 hw3 hw4 hw5 hx0 hx1 hx2 hx3 hx4 hx5 hsz hst hnx
   obtain ⟨b1, h1⟩ : ∃ b, leaseB x0 x1 x2 x3 x4 x5 = b := ⟨_, rfl⟩
   have hst2 : ((b1 && (above (hostAheadR l0 i.toNat) x0 && goTab (some x0) (l0.drop (i.toNat + 1)))) && decide (l0.length ≤ 8)) = r := by rw [← h1]; exact hst
   rw [← hnx, ← hi2] at hst2
   clear hst hnx
   have CM := am_ (fun W => pinfoldref11_LeaseMay_c.calls x0 x1 x2 x3 x4 x5 b1 W (by unfold pinfoldref11_LeaseMay_c.f; rw [if_pos hsz, h1]))
   have H1 := am_ (show 0 ≤ i + 1 by omega)
   have H2 := am_ (show (i + 1).toNat + (l0.length - (i.toNat + 1)) = l0.length by omega)
   have H3 := am_ (show l0.length - (i.toNat + 1) < gk by omega)
   have H4 := am_ (show IntKind.i64.wrap (i + 1) = i + 1 from (i64_w _).trans (by unfold wrap64; omega))
   have H6 := am_ (fun (h : i = 0) => show i.toNat = 0 by rw [h]; rfl)
   have H5 := am_ (fun (h : ¬ i = 0) => show 0 < i by omega)
   replace hi0 := am_ hi0
   replace hd := am_ hd
   replace hl := am_ hl
   have clt := decide_eq_true hlt
   have cle := decide_eq_true hi0.out
   have plt := eq_true hlt
   have ple := eq_true hi0.out
   clear h1 hlt
   cases b1 with
   | false =>
    have HF := am_ (show false = r by rw [← hst2]; rfl)
    clear hst2 hpv hi2
    go_wp2_with fail
    have HB1 := am_ (below_drew HB.out)
    refine seqS (S := pinfoldref11_TableMay.S (ad.add (i.toNat * 6)) x0 x1 x2 x3 x4 x5 (ad.add (i.toNat * 6)) x0) 24 (by kernel_rfl) rfl rfl (by unfold pinfoldref11_TableMay.S; exact ⟨(HB1.out.cell (wb_ w _ hw0)).trans hw0, (HB1.out.cell (wb_ w _ hw1)).trans hw1, (HB1.out.cell (wb_ w _ hw2)).trans hw2, (HB1.out.cell (wb_ w _ hw3)).trans hw3, (HB1.out.cell (wb_ w _ hw4)).trans hw4, (HB1.out.cell (wb_ w _ hw5)).trans hw5, (HB1.out.cell (wb_ w _ hw0)).trans hw0⟩) ?_
    intro hHeld
    clear hx0 hx1 hx2 hx3 hx4 hx5 hw0 hw1 hw2 hw3 hw4 hw5 HB
    iterate 4 first | (refine seqP (v := ?_) (a' := ?_) rfl rfl (by kernel_rfl) (fun _ _ _ h => h) (Or.inl ⟨by kernel_rfl, ?_⟩) ?_ ?_; rotate_left; (intro w'; go_simp; with_reducible rfl); rotate_left; (simp only [Act.put, sa_, sb_, sc_, i64_w, i32_w]; rfl)) | (refine seqL (v := ?_) (a' := ?_) rfl rfl (by kernel_rfl) (fun _ _ _ h => h) (Or.inl ⟨by kernel_rfl, ?_⟩) hHeld ?_ ?_; rotate_left; (rintro w' ⟨s0, s1, s2, s3, s4, s5, s6⟩; go_simp; with_reducible rfl); rotate_left; (simp only [Act.put, sa_, sb_, sc_, i64_w, i32_w]; rfl))
    refine seqG (fn := Tryd.f21) rfl rfl (by kernel_rfl) rfl Tryd.func21 (by kernel_rfl) (by kernel_rfl) #[.agg #[.int .i64 x0, .int .i64 x1, .string x2, .int .i64 x3, .string x4, .bool x5]] (by kernel_rfl) (by (try simp only [List.map_toArray, List.map_cons, List.map_nil]); first | done | rfl) ?_
    with_reducible refine (CM.out _).mono ?_
    rintro e wg ⟨rfl, hb2⟩
    have HB2 := am_ (bt_ HB1.out hb2)
    refine ⟨_, rfl, pinfoldref11_TableMay.S_below hHeld hb2, fun hHeld => ⟨?_, ?_, ?_⟩⟩
    rotate_left
    ·simp only [Act.put, sa_, sb_, sc_, i64_w, i32_w]
     rfl
    clear hb2 HB1 CM
    iterate 2 first | (refine seqP (v := ?_) (a' := ?_) rfl rfl (by kernel_rfl) (fun _ _ _ h => h) (Or.inl ⟨by kernel_rfl, ?_⟩) ?_ ?_; rotate_left; (intro w'; go_simp; with_reducible rfl); rotate_left; (simp only [Act.put, sa_, sb_, sc_, i64_w, i32_w]; rfl)) | (refine seqL (v := ?_) (a' := ?_) rfl rfl (by kernel_rfl) (fun _ _ _ h => h) (Or.inl ⟨by kernel_rfl, ?_⟩) hHeld ?_ ?_; rotate_left; (rintro w' ⟨s0, s1, s2, s3, s4, s5, s6⟩; go_simp; with_reducible rfl); rotate_left; (simp only [Act.put, sa_, sb_, sc_, i64_w, i32_w]; rfl))
    iterate 16 (refine seqP (v := undef) (a' := ?_) rfl rfl (by kernel_rfl) (fun _ _ _ h => h) (Or.inr ⟨by kernel_rfl, rfl⟩) ?_ ?_; rotate_left; (simp only [Act.put, sa_, sb_, sc_, i64_w, i32_w]; rfl))
    iterate 1 first | (refine seqP (v := ?_) (a' := ?_) rfl rfl (by kernel_rfl) (fun _ _ _ h => h) (Or.inl ⟨by kernel_rfl, ?_⟩) ?_ ?_; rotate_left; (intro w'; go_simp; with_reducible rfl); rotate_left; (simp only [Act.put, sa_, sb_, sc_, i64_w, i32_w]; rfl)) | (refine seqL (v := ?_) (a' := ?_) rfl rfl (by kernel_rfl) (fun _ _ _ h => h) (Or.inl ⟨by kernel_rfl, ?_⟩) hHeld ?_ ?_; rotate_left; (rintro w' ⟨s0, s1, s2, s3, s4, s5, s6⟩; go_simp; with_reducible rfl); rotate_left; (simp only [Act.put, sa_, sb_, sc_, i64_w, i32_w]; rfl))
    refine seqE (by kernel_rfl) ?_
    go_wp2
    go_ret
    exact ⟨ret_bool (HF.out), HB2.out⟩
   | true =>
   rw [Bool.true_and] at hst2
   by_cases hp : i = 0
   ·have cp : decide (0 < i) = false := decide_eq_false (by omega)
    have HN := am_ (show (goTab (hostAheadR l0 (i + 1).toNat) (l0.drop (i + 1).toNat) && decide (l0.length ≤ 8)) = r by rw [← hst2, show hostAheadR l0 i.toNat = none by unfold hostAheadR; rw [if_pos (H6.out hp)], show above none x0 = true from rfl, Bool.true_and])
    replace hp := am_ hp
    clear hst2 hpv hi2
    go_wp2_with fail
    have HB1 := am_ (below_drew HB.out)
    refine seqS (S := pinfoldref11_TableMay.S (ad.add (i.toNat * 6)) x0 x1 x2 x3 x4 x5 (ad.add (i.toNat * 6)) x0) 24 (by kernel_rfl) rfl rfl (by unfold pinfoldref11_TableMay.S; exact ⟨(HB1.out.cell (wb_ w _ hw0)).trans hw0, (HB1.out.cell (wb_ w _ hw1)).trans hw1, (HB1.out.cell (wb_ w _ hw2)).trans hw2, (HB1.out.cell (wb_ w _ hw3)).trans hw3, (HB1.out.cell (wb_ w _ hw4)).trans hw4, (HB1.out.cell (wb_ w _ hw5)).trans hw5, (HB1.out.cell (wb_ w _ hw0)).trans hw0⟩) ?_
    intro hHeld
    clear hx0 hx1 hx2 hx3 hx4 hx5 hw0 hw1 hw2 hw3 hw4 hw5 HB
    iterate 4 first | (refine seqP (v := ?_) (a' := ?_) rfl rfl (by kernel_rfl) (fun _ _ _ h => h) (Or.inl ⟨by kernel_rfl, ?_⟩) ?_ ?_; rotate_left; (intro w'; go_simp; with_reducible rfl); rotate_left; (simp only [Act.put, sa_, sb_, sc_, i64_w, i32_w]; rfl)) | (refine seqL (v := ?_) (a' := ?_) rfl rfl (by kernel_rfl) (fun _ _ _ h => h) (Or.inl ⟨by kernel_rfl, ?_⟩) hHeld ?_ ?_; rotate_left; (rintro w' ⟨s0, s1, s2, s3, s4, s5, s6⟩; go_simp; with_reducible rfl); rotate_left; (simp only [Act.put, sa_, sb_, sc_, i64_w, i32_w]; rfl))
    refine seqG (fn := Tryd.f21) rfl rfl (by kernel_rfl) rfl Tryd.func21 (by kernel_rfl) (by kernel_rfl) #[.agg #[.int .i64 x0, .int .i64 x1, .string x2, .int .i64 x3, .string x4, .bool x5]] (by kernel_rfl) (by (try simp only [List.map_toArray, List.map_cons, List.map_nil]); first | done | rfl) ?_
    with_reducible refine (CM.out _).mono ?_
    rintro e wg ⟨rfl, hb2⟩
    have HB2 := am_ (bt_ HB1.out hb2)
    refine ⟨_, rfl, pinfoldref11_TableMay.S_below hHeld hb2, fun hHeld => ⟨?_, ?_, ?_⟩⟩
    rotate_left
    ·simp only [Act.put, sa_, sb_, sc_, i64_w, i32_w]
     rfl
    clear hb2 HB1 CM
    iterate 2 first | (refine seqP (v := ?_) (a' := ?_) rfl rfl (by kernel_rfl) (fun _ _ _ h => h) (Or.inl ⟨by kernel_rfl, ?_⟩) ?_ ?_; rotate_left; (intro w'; go_simp; with_reducible rfl); rotate_left; (simp only [Act.put, sa_, sb_, sc_, i64_w, i32_w]; rfl)) | (refine seqL (v := ?_) (a' := ?_) rfl rfl (by kernel_rfl) (fun _ _ _ h => h) (Or.inl ⟨by kernel_rfl, ?_⟩) hHeld ?_ ?_; rotate_left; (rintro w' ⟨s0, s1, s2, s3, s4, s5, s6⟩; go_simp; with_reducible rfl); rotate_left; (simp only [Act.put, sa_, sb_, sc_, i64_w, i32_w]; rfl))
    iterate 3 first | (refine seqP (v := ?_) (a' := ?_) rfl rfl (by kernel_rfl) (fun _ _ _ h => h) (Or.inl ⟨by kernel_rfl, ?_⟩) ?_ ?_; rotate_left; (intro w'; go_simp; with_reducible rfl); rotate_left; (simp only [Act.put, sa_, sb_, sc_, i64_w, i32_w]; rfl)) | (refine seqL (v := ?_) (a' := ?_) rfl rfl (by kernel_rfl) (fun _ _ _ h => h) (Or.inl ⟨by kernel_rfl, ?_⟩) hHeld ?_ ?_; rotate_left; (rintro w' ⟨s0, s1, s2, s3, s4, s5, s6⟩; go_simp; with_reducible rfl); rotate_left; (simp only [Act.put, sa_, sb_, sc_, i64_w, i32_w]; rfl))
    iterate 12 (refine seqP (v := undef) (a' := ?_) rfl rfl (by kernel_rfl) (fun _ _ _ h => h) (Or.inr ⟨by kernel_rfl, rfl⟩) ?_ ?_; rotate_left; (simp only [Act.put, sa_, sb_, sc_, i64_w, i32_w]; rfl))
    iterate 2 first | (refine seqP (v := ?_) (a' := ?_) rfl rfl (by kernel_rfl) (fun _ _ _ h => h) (Or.inl ⟨by kernel_rfl, ?_⟩) ?_ ?_; rotate_left; (intro w'; go_simp; with_reducible rfl); rotate_left; (simp only [Act.put, sa_, sb_, sc_, i64_w, i32_w]; rfl)) | (refine seqL (v := ?_) (a' := ?_) rfl rfl (by kernel_rfl) (fun _ _ _ h => h) (Or.inl ⟨by kernel_rfl, ?_⟩) hHeld ?_ ?_; rotate_left; (rintro w' ⟨s0, s1, s2, s3, s4, s5, s6⟩; go_simp; with_reducible rfl); rotate_left; (simp only [Act.put, sa_, sb_, sc_, i64_w, i32_w]; rfl))
    refine seqE (by kernel_rfl) ?_
    go_wp2
    go_roundg (l0.length - (i.toNat + 1))
    case measure => exact H3.out
    case rel => exact ⟨i + 1, H1.out, H2.out, by first | rfl | (rw [show wrap64 (i + 1) = i + 1 from (i64_w _).symm.trans H4.out]), HB2, HN⟩
   ·obtain ⟨j, y, hj, hj0, hj1, hay, hwy⟩ := hpv hp
    have cp : decide (0 < i) = true := decide_eq_true (H5.out hp)
    have hjw : IntKind.i64.wrap (i - 1) = j := (i64_w _).trans hj
    have pj0 := eq_true hj0
    have pj1 := eq_true hj1
    have cj0 := decide_eq_true hj0
    have cj1 := decide_eq_true hj1
    rw [hay] at hst2
    replace hp := am_ hp
    replace hj0 := am_ hj0
    replace hj1 := am_ hj1
    by_cases hc : x0 ≤ y
    ·have cc : decide (x0 ≤ y) = true := decide_eq_true hc
     have HF := am_ (show false = r by rw [← hst2, show above (some y) x0 = false from decide_eq_false (by omega)]; simp)
     clear hst2 hpv hi2 hc hay
     go_wp2_with fail
     have HB1 := am_ (below_drew HB.out)
     refine seqS (S := pinfoldref11_TableMay.S (ad.add (i.toNat * 6)) x0 x1 x2 x3 x4 x5 (ad.add (j.toNat * 6)) y) 24 (by kernel_rfl) rfl rfl (by unfold pinfoldref11_TableMay.S; exact ⟨(HB1.out.cell (wb_ w _ hw0)).trans hw0, (HB1.out.cell (wb_ w _ hw1)).trans hw1, (HB1.out.cell (wb_ w _ hw2)).trans hw2, (HB1.out.cell (wb_ w _ hw3)).trans hw3, (HB1.out.cell (wb_ w _ hw4)).trans hw4, (HB1.out.cell (wb_ w _ hw5)).trans hw5, (HB1.out.cell (wb_ w _ hwy)).trans hwy⟩) ?_
     intro hHeld
     clear hx0 hx1 hx2 hx3 hx4 hx5 hw0 hw1 hw2 hw3 hw4 hw5 HB
     iterate 4 first | (refine seqP (v := ?_) (a' := ?_) rfl rfl (by kernel_rfl) (fun _ _ _ h => h) (Or.inl ⟨by kernel_rfl, ?_⟩) ?_ ?_; rotate_left; (intro w'; go_simp; with_reducible rfl); rotate_left; (simp only [Act.put, sa_, sb_, sc_, i64_w, i32_w]; rfl)) | (refine seqL (v := ?_) (a' := ?_) rfl rfl (by kernel_rfl) (fun _ _ _ h => h) (Or.inl ⟨by kernel_rfl, ?_⟩) hHeld ?_ ?_; rotate_left; (rintro w' ⟨s0, s1, s2, s3, s4, s5, s6⟩; go_simp; with_reducible rfl); rotate_left; (simp only [Act.put, sa_, sb_, sc_, i64_w, i32_w]; rfl))
     refine seqG (fn := Tryd.f21) rfl rfl (by kernel_rfl) rfl Tryd.func21 (by kernel_rfl) (by kernel_rfl) #[.agg #[.int .i64 x0, .int .i64 x1, .string x2, .int .i64 x3, .string x4, .bool x5]] (by kernel_rfl) (by (try simp only [List.map_toArray, List.map_cons, List.map_nil]); first | done | rfl) ?_
     with_reducible refine (CM.out _).mono ?_
     rintro e wg ⟨rfl, hb2⟩
     have HB2 := am_ (bt_ HB1.out hb2)
     refine ⟨_, rfl, pinfoldref11_TableMay.S_below hHeld hb2, fun hHeld => ⟨?_, ?_, ?_⟩⟩
     rotate_left
     ·simp only [Act.put, sa_, sb_, sc_, i64_w, i32_w]
      rfl
     clear hb2 HB1 CM
     iterate 2 first | (refine seqP (v := ?_) (a' := ?_) rfl rfl (by kernel_rfl) (fun _ _ _ h => h) (Or.inl ⟨by kernel_rfl, ?_⟩) ?_ ?_; rotate_left; (intro w'; go_simp; with_reducible rfl); rotate_left; (simp only [Act.put, sa_, sb_, sc_, i64_w, i32_w]; rfl)) | (refine seqL (v := ?_) (a' := ?_) rfl rfl (by kernel_rfl) (fun _ _ _ h => h) (Or.inl ⟨by kernel_rfl, ?_⟩) hHeld ?_ ?_; rotate_left; (rintro w' ⟨s0, s1, s2, s3, s4, s5, s6⟩; go_simp; with_reducible rfl); rotate_left; (simp only [Act.put, sa_, sb_, sc_, i64_w, i32_w]; rfl))
     iterate 17 first | (refine seqP (v := ?_) (a' := ?_) rfl rfl (by kernel_rfl) (fun _ _ _ h => h) (Or.inl ⟨by kernel_rfl, ?_⟩) ?_ ?_; rotate_left; (intro w'; go_simp; with_reducible rfl); rotate_left; (simp only [Act.put, sa_, sb_, sc_, i64_w, i32_w]; rfl)) | (refine seqL (v := ?_) (a' := ?_) rfl rfl (by kernel_rfl) (fun _ _ _ h => h) (Or.inl ⟨by kernel_rfl, ?_⟩) hHeld ?_ ?_; rotate_left; (rintro w' ⟨s0, s1, s2, s3, s4, s5, s6⟩; go_simp; with_reducible rfl); rotate_left; (simp only [Act.put, sa_, sb_, sc_, i64_w, i32_w]; rfl))
     refine seqE (by kernel_rfl) ?_
     go_wp2
     go_ret
     exact ⟨ret_bool (HF.out), HB2.out⟩
    ·have cc : decide (x0 ≤ y) = false := decide_eq_false hc
     have HN := am_ (show (goTab (hostAheadR l0 (i + 1).toNat) (l0.drop (i + 1).toNat) && decide (l0.length ≤ 8)) = r by rw [← hst2, show above (some y) x0 = true from decide_eq_true (by omega), Bool.true_and])
     clear hst2 hpv hi2 hc hay
     go_wp2_with fail
     have HB1 := am_ (below_drew HB.out)
     refine seqS (S := pinfoldref11_TableMay.S (ad.add (i.toNat * 6)) x0 x1 x2 x3 x4 x5 (ad.add (j.toNat * 6)) y) 24 (by kernel_rfl) rfl rfl (by unfold pinfoldref11_TableMay.S; exact ⟨(HB1.out.cell (wb_ w _ hw0)).trans hw0, (HB1.out.cell (wb_ w _ hw1)).trans hw1, (HB1.out.cell (wb_ w _ hw2)).trans hw2, (HB1.out.cell (wb_ w _ hw3)).trans hw3, (HB1.out.cell (wb_ w _ hw4)).trans hw4, (HB1.out.cell (wb_ w _ hw5)).trans hw5, (HB1.out.cell (wb_ w _ hwy)).trans hwy⟩) ?_
     intro hHeld
     clear hx0 hx1 hx2 hx3 hx4 hx5 hw0 hw1 hw2 hw3 hw4 hw5 HB
     iterate 4 first | (refine seqP (v := ?_) (a' := ?_) rfl rfl (by kernel_rfl) (fun _ _ _ h => h) (Or.inl ⟨by kernel_rfl, ?_⟩) ?_ ?_; rotate_left; (intro w'; go_simp; with_reducible rfl); rotate_left; (simp only [Act.put, sa_, sb_, sc_, i64_w, i32_w]; rfl)) | (refine seqL (v := ?_) (a' := ?_) rfl rfl (by kernel_rfl) (fun _ _ _ h => h) (Or.inl ⟨by kernel_rfl, ?_⟩) hHeld ?_ ?_; rotate_left; (rintro w' ⟨s0, s1, s2, s3, s4, s5, s6⟩; go_simp; with_reducible rfl); rotate_left; (simp only [Act.put, sa_, sb_, sc_, i64_w, i32_w]; rfl))
     refine seqG (fn := Tryd.f21) rfl rfl (by kernel_rfl) rfl Tryd.func21 (by kernel_rfl) (by kernel_rfl) #[.agg #[.int .i64 x0, .int .i64 x1, .string x2, .int .i64 x3, .string x4, .bool x5]] (by kernel_rfl) (by (try simp only [List.map_toArray, List.map_cons, List.map_nil]); first | done | rfl) ?_
     with_reducible refine (CM.out _).mono ?_
     rintro e wg ⟨rfl, hb2⟩
     have HB2 := am_ (bt_ HB1.out hb2)
     refine ⟨_, rfl, pinfoldref11_TableMay.S_below hHeld hb2, fun hHeld => ⟨?_, ?_, ?_⟩⟩
     rotate_left
     ·simp only [Act.put, sa_, sb_, sc_, i64_w, i32_w]
      rfl
     clear hb2 HB1 CM
     iterate 2 first | (refine seqP (v := ?_) (a' := ?_) rfl rfl (by kernel_rfl) (fun _ _ _ h => h) (Or.inl ⟨by kernel_rfl, ?_⟩) ?_ ?_; rotate_left; (intro w'; go_simp; with_reducible rfl); rotate_left; (simp only [Act.put, sa_, sb_, sc_, i64_w, i32_w]; rfl)) | (refine seqL (v := ?_) (a' := ?_) rfl rfl (by kernel_rfl) (fun _ _ _ h => h) (Or.inl ⟨by kernel_rfl, ?_⟩) hHeld ?_ ?_; rotate_left; (rintro w' ⟨s0, s1, s2, s3, s4, s5, s6⟩; go_simp; with_reducible rfl); rotate_left; (simp only [Act.put, sa_, sb_, sc_, i64_w, i32_w]; rfl))
     iterate 17 first | (refine seqP (v := ?_) (a' := ?_) rfl rfl (by kernel_rfl) (fun _ _ _ h => h) (Or.inl ⟨by kernel_rfl, ?_⟩) ?_ ?_; rotate_left; (intro w'; go_simp; with_reducible rfl); rotate_left; (simp only [Act.put, sa_, sb_, sc_, i64_w, i32_w]; rfl)) | (refine seqL (v := ?_) (a' := ?_) rfl rfl (by kernel_rfl) (fun _ _ _ h => h) (Or.inl ⟨by kernel_rfl, ?_⟩) hHeld ?_ ?_; rotate_left; (rintro w' ⟨s0, s1, s2, s3, s4, s5, s6⟩; go_simp; with_reducible rfl); rotate_left; (simp only [Act.put, sa_, sb_, sc_, i64_w, i32_w]; rfl))
     refine seqE (by kernel_rfl) ?_
     go_wp2
     go_roundg (l0.length - (i.toNat + 1))
     case measure => exact H3.out
     case rel => exact ⟨i + 1, H1.out, H2.out, by first | rfl | (rw [show wrap64 (i + 1) = i + 1 from (i64_w _).symm.trans H4.out]), HB2, HN⟩
  ·have HF := am_ (show decide (l0.length ≤ 8) = r by have h1 := HT.out; rw [List.drop_eq_nil_of_le (by omega)] at h1; rw [← h1, show goTab (hostAheadR l0 i.toNat) [] = true from rfl, Bool.true_and])
   by_cases h8 : l0.length ≤ 8
   ·have c8 : decide ((l0.length : Int) ≤ 8) = true := decide_eq_true (by omega)
    have HG := am_ (show true = r by rw [← HF.out]; exact (decide_eq_true h8).symm)
    clear HT HF
    go_wp2
    go_ret
    exact ⟨ret_bool HG.out, HB.out⟩
   ·have c8 : decide ((l0.length : Int) ≤ 8) = false := decide_eq_false (by omega)
    have HG := am_ (show false = r by rw [← HF.out]; exact (decide_eq_false h8).symm)
    clear HT HF
    go_wp2
    go_ret
    exact ⟨ret_bool HG.out, HB.out⟩

end Go.Proofs.YtdhckibkljafgaaDoor.PH
