-- Made by wip/pr.py out of the translation (a turned copy of the kit's print; contracts by hand where said).
import Derived.Test.YtmoobaehoccihaaDoorPFx0
import Derived.Test.YtmoobaehoccihaaDoorPFx4
import Derived.Test.YtmoobaehoccihaaDoorPFx8
import Derived.Test.YtmoobaehoccihaaDoorPFx9
import Derived.Test.YtmoobaehoccihaaDoorPFx10
namespace Go.Proofs.YtmoobaehoccihaaDoor.PF
open Go.RowKit Go.Proofs.YtmoobaehoccihaaDoorW.PrintWords Go.Proofs.YtmoobaehoccihaaDoorW.PrintLast Go.Proofs.YtmoobaehoccihaaDoorW.PrintMore
-- shrunk
attribute [local go_sem] max2_int min2_int max_two min_two max_three min_three max_four min_four   -- for this text's walks alone
set_option linter.unusedVariables false
set_option linter.unusedSimpArgs false

/-! ### pinfoldref11_LeaseMay: function 44 -/
def pinfoldref11_LeaseMay.j0 : Nat → Bool → Int → Int → ByteArray → Int → ByteArray → Bool → Option (Bool)
 | 0, _, _, _, _, _, _, _ => none
 | k + 1, x42, x166000, x166001, x166002, x166003, x166004, x166005 => if x42 = true then (some false) else (if x166001 = 1 then (if x166002.toList = ([] : List UInt8) then (some false) else (if x166001 = 2 then (if x166005 = true then (some (x166004.toList != ([] : List UInt8))) else (some true)) else (if x166004.toList = ([] : List UInt8) then (if x166005 = true then (some (x166004.toList != ([] : List UInt8))) else (some true)) else (some false)))) else (if x166001 = 2 then (if x166002.toList = ([] : List UInt8) then (some false) else (if x166005 = true then (some (x166004.toList != ([] : List UInt8))) else (some true))) else (if x166004.toList = ([] : List UInt8) then (if x166005 = true then (some (x166004.toList != ([] : List UInt8))) else (some true)) else (some false))))
def pinfoldref11_LeaseMay.f (k : Nat) (a0_0 : Int) (a0_1 : Int) (a0_2 : ByteArray) (a0_3 : Int) (a0_4 : ByteArray) (a0_5 : Bool) : Option (Bool) := if a0_0 < 2 then (pinfoldref11_LeaseMay.j0 k true a0_0 a0_1 a0_2 a0_3 a0_4 a0_5) else (if a0_0 > 254 then (pinfoldref11_LeaseMay.j0 k true a0_0 a0_1 a0_2 a0_3 a0_4 a0_5) else (if a0_1 < 0 then (pinfoldref11_LeaseMay.j0 k true a0_0 a0_1 a0_2 a0_3 a0_4 a0_5) else (if a0_1 > 3 then (pinfoldref11_LeaseMay.j0 k true a0_0 a0_1 a0_2 a0_3 a0_4 a0_5) else (if (a0_2.size : Int) > 16 then (pinfoldref11_LeaseMay.j0 k true a0_0 a0_1 a0_2 a0_3 a0_4 a0_5) else (if a0_3 < 0 then (pinfoldref11_LeaseMay.j0 k true a0_0 a0_1 a0_2 a0_3 a0_4 a0_5) else (if a0_3 > 1099511627776 then (pinfoldref11_LeaseMay.j0 k true a0_0 a0_1 a0_2 a0_3 a0_4 a0_5) else ((pinfoldref1_NameMay_c.f a0_4).bind fun t166 => (pinfoldref11_LeaseMay.j0 k (!t166) a0_0 a0_1 a0_2 a0_3 a0_4 a0_5))))))))
theorem pinfoldref11_LeaseMay.mono_l : ∀ k, (∀ y0 y1 y2 y3 y4 y5 y6, LeO (pinfoldref11_LeaseMay.j0 k y0 y1 y2 y3 y4 y5 y6) (pinfoldref11_LeaseMay.j0 (k + 1) y0 y1 y2 y3 y4 y5 y6))
 | 0 => fun _ _ _ _ _ _ _ r h => by simp [pinfoldref11_LeaseMay.j0] at h
 | k + 1 => by
  have ih0 := pinfoldref11_LeaseMay.mono_l k
  ·intro y0 y1 y2 y3 y4 y5 y6
   unfold pinfoldref11_LeaseMay.j0
   repeat' first
   | (with_reducible exact ih0 _ _ _ _ _ _ _)
   | (with_reducible exact LeO.refl _)
   | (with_reducible exact LeO.none _)
   | (with_reducible refine LeO.ite ?_ ?_)
   | (with_reducible refine LeO.bind ?_ (fun _ => ?_))
   | exact ih0 _ _ _ _ _ _ _
   | exact LeO.none _
   | refine LeO.ite ?_ ?_
   | refine LeO.bind ?_ (fun _ => ?_)
theorem pinfoldref11_LeaseMay.mono : ∀ a0 a1 a2 a3 a4 a5 k, LeO (pinfoldref11_LeaseMay.f k a0 a1 a2 a3 a4 a5) (pinfoldref11_LeaseMay.f (k + 1) a0 a1 a2 a3 a4 a5) := by
 intro a0 a1 a2 a3 a4 a5 k
 have ih0 := pinfoldref11_LeaseMay.mono_l k
 unfold pinfoldref11_LeaseMay.f
 repeat' first
   | (with_reducible exact ih0 _ _ _ _ _ _ _)
   | (with_reducible exact LeO.refl _)
   | (with_reducible exact LeO.none _)
   | (with_reducible refine LeO.ite ?_ ?_)
   | (with_reducible refine LeO.bind ?_ (fun _ => ?_))
   | exact ih0 _ _ _ _ _ _ _
   | exact LeO.none _
   | refine LeO.ite ?_ ?_
   | refine LeO.bind ?_ (fun _ => ?_)
set_option maxHeartbeats 8000000 in
set_option maxRecDepth 100000 in
theorem pinfoldref11_LeaseMay.calls (k : Nat) (a0_0 : Int) (a0_1 : Int) (a0_2 : ByteArray) (a0_3 : Int) (a0_4 : ByteArray) (a0_5 : Bool) (r : Bool) (w : World) (h : pinfoldref11_LeaseMay.f k a0_0 a0_1 a0_2 a0_3 a0_4 a0_5 = some r) :
  Calls Tryd.prog 44 #[.agg #[.int .i64 a0_0, .int .i64 a0_1, .string a0_2, .int .i64 a0_3, .string a0_4, .bool a0_5]] w fun e w' => e = .returned (.bool r) ∧ Below w.heap.size w w' := by
 have hu42 := Tryd.underlying42
 have HB := am_ (Below.refl w.heap.size w)
 have H : (if a0_0 < 2 then (pinfoldref11_LeaseMay.j0 k true a0_0 a0_1 a0_2 a0_3 a0_4 a0_5) else (if a0_0 > 254 then (pinfoldref11_LeaseMay.j0 k true a0_0 a0_1 a0_2 a0_3 a0_4 a0_5) else (if a0_1 < 0 then (pinfoldref11_LeaseMay.j0 k true a0_0 a0_1 a0_2 a0_3 a0_4 a0_5) else (if a0_1 > 3 then (pinfoldref11_LeaseMay.j0 k true a0_0 a0_1 a0_2 a0_3 a0_4 a0_5) else (if (a0_2.size : Int) > 16 then (pinfoldref11_LeaseMay.j0 k true a0_0 a0_1 a0_2 a0_3 a0_4 a0_5) else (if a0_3 < 0 then (pinfoldref11_LeaseMay.j0 k true a0_0 a0_1 a0_2 a0_3 a0_4 a0_5) else (if a0_3 > 1099511627776 then (pinfoldref11_LeaseMay.j0 k true a0_0 a0_1 a0_2 a0_3 a0_4 a0_5) else ((pinfoldref1_NameMay_c.f a0_4).bind fun t166 => (pinfoldref11_LeaseMay.j0 k (!t166) a0_0 a0_1 a0_2 a0_3 a0_4 a0_5))))))))) = some r := h
 clear h
 have HC2 := am_ H
 clear H
 go_enter Tryd.func44, Tryd.ntmps44
 go_upto_region 1 with (first | ((with_reducible refine gate_dst (N := 1) rfl ?_); (try (refine gate_guard (by rfl) ?_; dsimp only)); refine box_event ?hg (N := 1) ?hd (cs := #[.int .i64 a0_0, .int .i64 a0_1, .string a0_2, .int .i64 a0_3, .string a0_4, .bool a0_5]) (t := 42) ?hr ?_; (case hd => rfl); (case hg => rfl); (case hr => first | (go_simp; done) | (go_simp; rfl)); intro gb165 hg w3 hbox hb; have n0_ := am_ (bt_ (by repeat (with_reducible first | exact HB.out | apply p3_ | apply p1_ | apply p2_)) hb); have n1_ := am_ (hbox); have n2_ := am_ ((by rw [hg]; exact (bz_ (by repeat (with_reducible first | exact HB.out | apply p3_ | apply p1_ | apply p2_))) : w.heap.size ≤ gb165)); have n3_ := am_ ((by rw [hg]; exact (bz_ (by repeat (with_reducible first | exact HB.out | apply p3_ | apply p1_ | apply p2_))) : w.heap.size ≤ gb165)); clear HB; have HB := n0_; have BK165 := n1_; have GW165 := n2_; have GE165 := n3_; clear n0_ n1_ n2_ n3_; clear hb hbox hg))
 (try simp only [Act.put, sa_, sb_, sc_])
 go_cut [42] (fun v42 wc => ∃ (kq : Nat) (x42_1 : Bool), v42 = .bool x42_1 ∧ Aside0 (pinfoldref11_LeaseMay.j0 kq x42_1 a0_0 a0_1 a0_2 a0_3 a0_4 a0_5 = some r) ∧ Aside0 (kq ≤ k) ∧ Aside0 (wc.heap[gb165]? = some (.cells #[.int .i64 a0_0, .int .i64 a0_1, .string a0_2, .int .i64 a0_3, .string a0_4, .bool a0_5] 42 (0, 0))) ∧ Aside0 (Below w.heap.size w wc))
 case first =>
  have H := HC2.out
  clear HC2
  by_cases c4 : a0_0 < 2
  ·rw [if_pos c4] at H
   have c4b0 : decide (a0_0 < 2) = true := decide_eq_true c4
   clear c4
   (first | rw [c4b0] | (simp only [i64_w, i32_w]; rw [c4b0]) | skip)
   have H' := am_ H
   clear H
   have hcz5_0 : w3.cell? ⟨gb165, 0, none⟩ = some (.int .i64 a0_0) := (bc_ BK165.out 0).trans rfl; have hcz5_1 : w3.cell? ⟨gb165, 1, none⟩ = some (.int .i64 a0_1) := (bc_ BK165.out 1).trans rfl; have hcz5_2 : w3.cell? ⟨gb165, 2, none⟩ = some (.string a0_2) := (bc_ BK165.out 2).trans rfl; have hcz5_3 : w3.cell? ⟨gb165, 3, none⟩ = some (.int .i64 a0_3) := (bc_ BK165.out 3).trans rfl; have hcz5_4 : w3.cell? ⟨gb165, 4, none⟩ = some (.string a0_4) := (bc_ BK165.out 4).trans rfl; have hcz5_5 : w3.cell? ⟨gb165, 5, none⟩ = some (.bool a0_5) := (bc_ BK165.out 5).trans rfl; have hfz5_0 := bf_ BK165.out 0; have hfz5_1 := bf_ BK165.out 1; have hfz5_2 := bf_ BK165.out 2; have hfz5_3 := bf_ BK165.out 3; have hfz5_4 := bf_ BK165.out 4; have hfz5_5 := bf_ BK165.out 5
   go_wp2
   go_meet
   case rel => exact ⟨_, (true), (by first | rfl | (simp; done) | (simp [*]; done) | (simp only [str_ne_]; rfl) | (simp only [str_eq_]; rfl)), H', ⟨by first | omega | exact Nat.le_refl _⟩, ⟨by (with_reducible repeat (first | refine k2_ ?_ _ | refine k3_ ?_ | refine k1_ ?_ _)); exact BK165.out⟩, ⟨by repeat (with_reducible first | exact HB.out | apply p3_ | apply p1_ | apply p2_ | refine bs_ ?_ GE165.out)⟩⟩
  rw [if_neg c4] at H
  have c4b0 : decide (a0_0 < 2) = false := decide_eq_false c4
  clear c4
  (first | rw [c4b0] | (simp only [i64_w, i32_w]; rw [c4b0]) | skip)
  by_cases c6 : a0_0 > 254
  ·rw [if_pos c6] at H
   have c6b0 : decide (254 < a0_0) = true := decide_eq_true c6
   clear c6
   have H' := am_ H
   clear H
   have hcz7_0 : w3.cell? ⟨gb165, 0, none⟩ = some (.int .i64 a0_0) := (bc_ BK165.out 0).trans rfl; have hcz7_1 : w3.cell? ⟨gb165, 1, none⟩ = some (.int .i64 a0_1) := (bc_ BK165.out 1).trans rfl; have hcz7_2 : w3.cell? ⟨gb165, 2, none⟩ = some (.string a0_2) := (bc_ BK165.out 2).trans rfl; have hcz7_3 : w3.cell? ⟨gb165, 3, none⟩ = some (.int .i64 a0_3) := (bc_ BK165.out 3).trans rfl; have hcz7_4 : w3.cell? ⟨gb165, 4, none⟩ = some (.string a0_4) := (bc_ BK165.out 4).trans rfl; have hcz7_5 : w3.cell? ⟨gb165, 5, none⟩ = some (.bool a0_5) := (bc_ BK165.out 5).trans rfl; have hfz7_0 := bf_ BK165.out 0; have hfz7_1 := bf_ BK165.out 1; have hfz7_2 := bf_ BK165.out 2; have hfz7_3 := bf_ BK165.out 3; have hfz7_4 := bf_ BK165.out 4; have hfz7_5 := bf_ BK165.out 5
   go_wp2
   go_meet
   case rel => exact ⟨_, (true), (by first | rfl | (simp; done) | (simp [*]; done) | (simp only [str_ne_]; rfl) | (simp only [str_eq_]; rfl)), H', ⟨by first | omega | exact Nat.le_refl _⟩, ⟨by (with_reducible repeat (first | refine k2_ ?_ _ | refine k3_ ?_ | refine k1_ ?_ _)); exact BK165.out⟩, ⟨by repeat (with_reducible first | exact HB.out | apply p3_ | apply p1_ | apply p2_ | refine bs_ ?_ GE165.out)⟩⟩
  rw [if_neg c6] at H
  have c6b0 : decide (254 < a0_0) = false := decide_eq_false c6
  clear c6
  by_cases c8 : a0_1 < 0
  ·rw [if_pos c8] at H
   have c8b0 : decide (a0_1 < 0) = true := decide_eq_true c8
   clear c8
   have H' := am_ H
   clear H
   have hcz9_0 : w3.cell? ⟨gb165, 0, none⟩ = some (.int .i64 a0_0) := (bc_ BK165.out 0).trans rfl; have hcz9_1 : w3.cell? ⟨gb165, 1, none⟩ = some (.int .i64 a0_1) := (bc_ BK165.out 1).trans rfl; have hcz9_2 : w3.cell? ⟨gb165, 2, none⟩ = some (.string a0_2) := (bc_ BK165.out 2).trans rfl; have hcz9_3 : w3.cell? ⟨gb165, 3, none⟩ = some (.int .i64 a0_3) := (bc_ BK165.out 3).trans rfl; have hcz9_4 : w3.cell? ⟨gb165, 4, none⟩ = some (.string a0_4) := (bc_ BK165.out 4).trans rfl; have hcz9_5 : w3.cell? ⟨gb165, 5, none⟩ = some (.bool a0_5) := (bc_ BK165.out 5).trans rfl; have hfz9_0 := bf_ BK165.out 0; have hfz9_1 := bf_ BK165.out 1; have hfz9_2 := bf_ BK165.out 2; have hfz9_3 := bf_ BK165.out 3; have hfz9_4 := bf_ BK165.out 4; have hfz9_5 := bf_ BK165.out 5
   go_wp2
   go_meet
   case rel => exact ⟨_, (true), (by first | rfl | (simp; done) | (simp [*]; done) | (simp only [str_ne_]; rfl) | (simp only [str_eq_]; rfl)), H', ⟨by first | omega | exact Nat.le_refl _⟩, ⟨by (with_reducible repeat (first | refine k2_ ?_ _ | refine k3_ ?_ | refine k1_ ?_ _)); exact BK165.out⟩, ⟨by repeat (with_reducible first | exact HB.out | apply p3_ | apply p1_ | apply p2_ | refine bs_ ?_ GE165.out)⟩⟩
  rw [if_neg c8] at H
  have c8b0 : decide (a0_1 < 0) = false := decide_eq_false c8
  clear c8
  by_cases c10 : a0_1 > 3
  ·rw [if_pos c10] at H
   have c10b0 : decide (3 < a0_1) = true := decide_eq_true c10
   clear c10
   have H' := am_ H
   clear H
   have hcz11_0 : w3.cell? ⟨gb165, 0, none⟩ = some (.int .i64 a0_0) := (bc_ BK165.out 0).trans rfl; have hcz11_1 : w3.cell? ⟨gb165, 1, none⟩ = some (.int .i64 a0_1) := (bc_ BK165.out 1).trans rfl; have hcz11_2 : w3.cell? ⟨gb165, 2, none⟩ = some (.string a0_2) := (bc_ BK165.out 2).trans rfl; have hcz11_3 : w3.cell? ⟨gb165, 3, none⟩ = some (.int .i64 a0_3) := (bc_ BK165.out 3).trans rfl; have hcz11_4 : w3.cell? ⟨gb165, 4, none⟩ = some (.string a0_4) := (bc_ BK165.out 4).trans rfl; have hcz11_5 : w3.cell? ⟨gb165, 5, none⟩ = some (.bool a0_5) := (bc_ BK165.out 5).trans rfl; have hfz11_0 := bf_ BK165.out 0; have hfz11_1 := bf_ BK165.out 1; have hfz11_2 := bf_ BK165.out 2; have hfz11_3 := bf_ BK165.out 3; have hfz11_4 := bf_ BK165.out 4; have hfz11_5 := bf_ BK165.out 5
   go_wp2
   go_meet
   case rel => exact ⟨_, (true), (by first | rfl | (simp; done) | (simp [*]; done) | (simp only [str_ne_]; rfl) | (simp only [str_eq_]; rfl)), H', ⟨by first | omega | exact Nat.le_refl _⟩, ⟨by (with_reducible repeat (first | refine k2_ ?_ _ | refine k3_ ?_ | refine k1_ ?_ _)); exact BK165.out⟩, ⟨by repeat (with_reducible first | exact HB.out | apply p3_ | apply p1_ | apply p2_ | refine bs_ ?_ GE165.out)⟩⟩
  rw [if_neg c10] at H
  have c10b0 : decide (3 < a0_1) = false := decide_eq_false c10
  clear c10
  by_cases c12 : (a0_2.size : Int) > 16
  ·rw [if_pos c12] at H
   have c12b0 : decide (16 < (a0_2.size : Int)) = true := decide_eq_true c12
   have c12b1 : decide (16 < a0_2.size) = true := decide_eq_true (by omega)
   clear c12
   have H' := am_ H
   clear H
   have hcz13_0 : w3.cell? ⟨gb165, 0, none⟩ = some (.int .i64 a0_0) := (bc_ BK165.out 0).trans rfl; have hcz13_1 : w3.cell? ⟨gb165, 1, none⟩ = some (.int .i64 a0_1) := (bc_ BK165.out 1).trans rfl; have hcz13_2 : w3.cell? ⟨gb165, 2, none⟩ = some (.string a0_2) := (bc_ BK165.out 2).trans rfl; have hcz13_3 : w3.cell? ⟨gb165, 3, none⟩ = some (.int .i64 a0_3) := (bc_ BK165.out 3).trans rfl; have hcz13_4 : w3.cell? ⟨gb165, 4, none⟩ = some (.string a0_4) := (bc_ BK165.out 4).trans rfl; have hcz13_5 : w3.cell? ⟨gb165, 5, none⟩ = some (.bool a0_5) := (bc_ BK165.out 5).trans rfl; have hfz13_0 := bf_ BK165.out 0; have hfz13_1 := bf_ BK165.out 1; have hfz13_2 := bf_ BK165.out 2; have hfz13_3 := bf_ BK165.out 3; have hfz13_4 := bf_ BK165.out 4; have hfz13_5 := bf_ BK165.out 5
   go_wp2
   go_meet
   case rel => exact ⟨_, (true), (by first | rfl | (simp; done) | (simp [*]; done) | (simp only [str_ne_]; rfl) | (simp only [str_eq_]; rfl)), H', ⟨by first | omega | exact Nat.le_refl _⟩, ⟨by (with_reducible repeat (first | refine k2_ ?_ _ | refine k3_ ?_ | refine k1_ ?_ _)); exact BK165.out⟩, ⟨by repeat (with_reducible first | exact HB.out | apply p3_ | apply p1_ | apply p2_ | refine bs_ ?_ GE165.out)⟩⟩
  rw [if_neg c12] at H
  have c12b0 : decide (16 < (a0_2.size : Int)) = false := decide_eq_false c12
  have c12b1 : decide (16 < a0_2.size) = false := decide_eq_false (by omega)
  clear c12
  by_cases c14 : a0_3 < 0
  ·rw [if_pos c14] at H
   have c14b0 : decide (a0_3 < 0) = true := decide_eq_true c14
   clear c14
   have H' := am_ H
   clear H
   have hcz15_0 : w3.cell? ⟨gb165, 0, none⟩ = some (.int .i64 a0_0) := (bc_ BK165.out 0).trans rfl; have hcz15_1 : w3.cell? ⟨gb165, 1, none⟩ = some (.int .i64 a0_1) := (bc_ BK165.out 1).trans rfl; have hcz15_2 : w3.cell? ⟨gb165, 2, none⟩ = some (.string a0_2) := (bc_ BK165.out 2).trans rfl; have hcz15_3 : w3.cell? ⟨gb165, 3, none⟩ = some (.int .i64 a0_3) := (bc_ BK165.out 3).trans rfl; have hcz15_4 : w3.cell? ⟨gb165, 4, none⟩ = some (.string a0_4) := (bc_ BK165.out 4).trans rfl; have hcz15_5 : w3.cell? ⟨gb165, 5, none⟩ = some (.bool a0_5) := (bc_ BK165.out 5).trans rfl; have hfz15_0 := bf_ BK165.out 0; have hfz15_1 := bf_ BK165.out 1; have hfz15_2 := bf_ BK165.out 2; have hfz15_3 := bf_ BK165.out 3; have hfz15_4 := bf_ BK165.out 4; have hfz15_5 := bf_ BK165.out 5
   go_wp2
   go_meet
   case rel => exact ⟨_, (true), (by first | rfl | (simp; done) | (simp [*]; done) | (simp only [str_ne_]; rfl) | (simp only [str_eq_]; rfl)), H', ⟨by first | omega | exact Nat.le_refl _⟩, ⟨by (with_reducible repeat (first | refine k2_ ?_ _ | refine k3_ ?_ | refine k1_ ?_ _)); exact BK165.out⟩, ⟨by repeat (with_reducible first | exact HB.out | apply p3_ | apply p1_ | apply p2_ | refine bs_ ?_ GE165.out)⟩⟩
  rw [if_neg c14] at H
  have c14b0 : decide (a0_3 < 0) = false := decide_eq_false c14
  clear c14
  by_cases c16 : a0_3 > 1099511627776
  ·rw [if_pos c16] at H
   have c16b0 : decide (1099511627776 < a0_3) = true := decide_eq_true c16
   clear c16
   have H' := am_ H
   clear H
   have hcz17_0 : w3.cell? ⟨gb165, 0, none⟩ = some (.int .i64 a0_0) := (bc_ BK165.out 0).trans rfl; have hcz17_1 : w3.cell? ⟨gb165, 1, none⟩ = some (.int .i64 a0_1) := (bc_ BK165.out 1).trans rfl; have hcz17_2 : w3.cell? ⟨gb165, 2, none⟩ = some (.string a0_2) := (bc_ BK165.out 2).trans rfl; have hcz17_3 : w3.cell? ⟨gb165, 3, none⟩ = some (.int .i64 a0_3) := (bc_ BK165.out 3).trans rfl; have hcz17_4 : w3.cell? ⟨gb165, 4, none⟩ = some (.string a0_4) := (bc_ BK165.out 4).trans rfl; have hcz17_5 : w3.cell? ⟨gb165, 5, none⟩ = some (.bool a0_5) := (bc_ BK165.out 5).trans rfl; have hfz17_0 := bf_ BK165.out 0; have hfz17_1 := bf_ BK165.out 1; have hfz17_2 := bf_ BK165.out 2; have hfz17_3 := bf_ BK165.out 3; have hfz17_4 := bf_ BK165.out 4; have hfz17_5 := bf_ BK165.out 5
   go_wp2
   go_meet
   case rel => exact ⟨_, (true), (by first | rfl | (simp; done) | (simp [*]; done) | (simp only [str_ne_]; rfl) | (simp only [str_eq_]; rfl)), H', ⟨by first | omega | exact Nat.le_refl _⟩, ⟨by (with_reducible repeat (first | refine k2_ ?_ _ | refine k3_ ?_ | refine k1_ ?_ _)); exact BK165.out⟩, ⟨by repeat (with_reducible first | exact HB.out | apply p3_ | apply p1_ | apply p2_ | refine bs_ ?_ GE165.out)⟩⟩
  rw [if_neg c16] at H
  have c16b0 : decide (1099511627776 < a0_3) = false := decide_eq_false c16
  clear c16
  replace H := e4_ H
  obtain ⟨t166, A180, H⟩ := H
  replace H : (pinfoldref11_LeaseMay.j0 k (!t166) a0_0 a0_1 a0_2 a0_3 a0_4 a0_5) = some r := H
  have A18 := am_ A180
  clear A180
  have H' := am_ H
  clear H
  have hcz19_0 : w3.cell? ⟨gb165, 0, none⟩ = some (.int .i64 a0_0) := (bc_ BK165.out 0).trans rfl; have hcz19_1 : w3.cell? ⟨gb165, 1, none⟩ = some (.int .i64 a0_1) := (bc_ BK165.out 1).trans rfl; have hcz19_2 : w3.cell? ⟨gb165, 2, none⟩ = some (.string a0_2) := (bc_ BK165.out 2).trans rfl; have hcz19_3 : w3.cell? ⟨gb165, 3, none⟩ = some (.int .i64 a0_3) := (bc_ BK165.out 3).trans rfl; have hcz19_4 : w3.cell? ⟨gb165, 4, none⟩ = some (.string a0_4) := (bc_ BK165.out 4).trans rfl; have hcz19_5 : w3.cell? ⟨gb165, 5, none⟩ = some (.bool a0_5) := (bc_ BK165.out 5).trans rfl; have hfz19_0 := bf_ BK165.out 0; have hfz19_1 := bf_ BK165.out 1; have hfz19_2 := bf_ BK165.out 2; have hfz19_3 := bf_ BK165.out 3; have hfz19_4 := bf_ BK165.out 4; have hfz19_5 := bf_ BK165.out 5
  go_wp2_with (first | (go_at_call 62; (with_reducible refine (pinfoldref1_NameMay_c.calls a0_4 t166 _ A18.out).mono ?_); rintro e w20 ⟨rfl, hb⟩; have n0_ := am_ (kb_ (g := gb165) (o := .cells #[.int .i64 a0_0, .int .i64 a0_1, .string a0_2, .int .i64 a0_3, .string a0_4, .bool a0_5] 42 (0, 0)) (by (with_reducible repeat (first | refine k2_ ?_ _ | refine k3_ ?_ | refine k1_ ?_ _)); exact BK165.out) hb); have n1_ := am_ (bt_ (by repeat (with_reducible first | exact HB.out | apply p3_ | apply p1_ | apply p2_ | refine bs_ ?_ GE165.out)) hb); clear BK165; clear HB; have BK165 := n0_; have HB := n1_; clear n0_ n1_; (try clear hb)))
  go_meet
  case rel => exact ⟨_, (!t166), (by first | rfl | (simp; done) | (simp [*]; done) | (simp only [str_ne_]; rfl) | (simp only [str_eq_]; rfl)), H', ⟨by first | omega | exact Nat.le_refl _⟩, ⟨by (with_reducible repeat (first | refine k2_ ?_ _ | refine k3_ ?_ | refine k1_ ?_ _)); exact BK165.out⟩, ⟨by repeat (with_reducible first | exact HB.out | apply p3_ | apply p1_ | apply p2_ | refine bs_ ?_ GE165.out)⟩⟩
 case rest =>
  clear HC2
  obtain ⟨kq, x42_1, rfl, HA, HJ1, BK165, HB⟩ := hcut
  cases kq with
  | zero => exact absurd HA.out (by simp [pinfoldref11_LeaseMay.j0])
  | succ kj1 =>
   have H := HA.out
   clear HA
   simp only [pinfoldref11_LeaseMay.j0] at H
   by_cases c21 : x42_1 = true
   ·subst c21
    have H1 : (some false) = some r := by rw [if_pos rfl] at H; exact H
    clear H
    have H := H1
    clear H1
    obtain rfl := e5_ H
    go_wp2
    go_ret
    exact ⟨by first | rfl | (simp [errW_none, errW_some] <;> rfl) | (simp [*, errW_none, errW_some] <;> rfl) | (simp only [str_ne_]; rfl) | (simp only [str_eq_]; rfl), by repeat (with_reducible first | exact HB.out | apply p3_ | apply p1_ | apply p2_ | refine bs_ ?_ GE165.out)⟩
   replace c21 := e3_ c21
   subst c21
   have H1 : (if a0_1 = 1 then (if a0_2.toList = ([] : List UInt8) then (some false) else (if a0_1 = 2 then (if a0_5 = true then (some (a0_4.toList != ([] : List UInt8))) else (some true)) else (if a0_4.toList = ([] : List UInt8) then (if a0_5 = true then (some (a0_4.toList != ([] : List UInt8))) else (some true)) else (some false)))) else (if a0_1 = 2 then (if a0_2.toList = ([] : List UInt8) then (some false) else (if a0_5 = true then (some (a0_4.toList != ([] : List UInt8))) else (some true))) else (if a0_4.toList = ([] : List UInt8) then (if a0_5 = true then (some (a0_4.toList != ([] : List UInt8))) else (some true)) else (some false)))) = some r := by rw [if_neg (show ¬ (false = true) by decide)] at H; exact H
   clear H
   have H := H1
   clear H1
   by_cases c22 : a0_1 = 1
   ·rw [if_pos c22] at H
    have c22b0 : (a0_1 == 1) = true := beq_iff_eq.mpr c22
    have c22b1 : (a0_1 != 1) = false := e1_ c22
    clear c22
    by_cases c23 : a0_2.toList = ([] : List UInt8)
    ·rw [if_pos c23] at H
     have c23b0 : (a0_2.toList == ([] : List UInt8)) = true := beq_iff_eq.mpr c23
     have c23b1 : (a0_2.toList != ([] : List UInt8)) = false := e1_ c23
     clear c23
     obtain rfl := e5_ H
     have hcz24_0 : wc.cell? ⟨gb165, 0, none⟩ = some (.int .i64 a0_0) := (bc_ BK165.out 0).trans rfl; have hcz24_1 : wc.cell? ⟨gb165, 1, none⟩ = some (.int .i64 a0_1) := (bc_ BK165.out 1).trans rfl; have hcz24_2 : wc.cell? ⟨gb165, 2, none⟩ = some (.string a0_2) := (bc_ BK165.out 2).trans rfl; have hcz24_3 : wc.cell? ⟨gb165, 3, none⟩ = some (.int .i64 a0_3) := (bc_ BK165.out 3).trans rfl; have hcz24_4 : wc.cell? ⟨gb165, 4, none⟩ = some (.string a0_4) := (bc_ BK165.out 4).trans rfl; have hcz24_5 : wc.cell? ⟨gb165, 5, none⟩ = some (.bool a0_5) := (bc_ BK165.out 5).trans rfl; have hfz24_0 := bf_ BK165.out 0; have hfz24_1 := bf_ BK165.out 1; have hfz24_2 := bf_ BK165.out 2; have hfz24_3 := bf_ BK165.out 3; have hfz24_4 := bf_ BK165.out 4; have hfz24_5 := bf_ BK165.out 5
     go_wp2
     go_ret
     exact ⟨by first | rfl | (simp [errW_none, errW_some] <;> rfl) | (simp [*, errW_none, errW_some] <;> rfl) | (simp only [str_ne_]; rfl) | (simp only [str_eq_]; rfl), by repeat (with_reducible first | exact HB.out | apply p3_ | apply p1_ | apply p2_ | refine bs_ ?_ GE165.out)⟩
    rw [if_neg c23] at H
    have c23b0 : (a0_2.toList == ([] : List UInt8)) = false := e2_ c23
    have c23b1 : (a0_2.toList != ([] : List UInt8)) = true := bne_iff_ne.mpr c23
    by_cases c25 : a0_1 = 2
    ·rw [if_pos c25] at H
     have c25b0 : (a0_1 == 2) = true := beq_iff_eq.mpr c25
     have c25b1 : (a0_1 != 2) = false := e1_ c25
     clear c25
     by_cases c26 : a0_5 = true
     ·subst c26
      have H1 : (some (a0_4.toList != ([] : List UInt8))) = some r := by rw [if_pos rfl] at H; exact H
      clear H
      have H := H1
      clear H1
      obtain rfl := e5_ H
      have hcz27_0 : wc.cell? ⟨gb165, 0, none⟩ = some (.int .i64 a0_0) := (bc_ BK165.out 0).trans rfl; have hcz27_1 : wc.cell? ⟨gb165, 1, none⟩ = some (.int .i64 a0_1) := (bc_ BK165.out 1).trans rfl; have hcz27_2 : wc.cell? ⟨gb165, 2, none⟩ = some (.string a0_2) := (bc_ BK165.out 2).trans rfl; have hcz27_3 : wc.cell? ⟨gb165, 3, none⟩ = some (.int .i64 a0_3) := (bc_ BK165.out 3).trans rfl; have hcz27_4 : wc.cell? ⟨gb165, 4, none⟩ = some (.string a0_4) := (bc_ BK165.out 4).trans rfl; have hcz27_5 : wc.cell? ⟨gb165, 5, none⟩ = some (.bool true) := (bc_ BK165.out 5).trans rfl; have hfz27_0 := bf_ BK165.out 0; have hfz27_1 := bf_ BK165.out 1; have hfz27_2 := bf_ BK165.out 2; have hfz27_3 := bf_ BK165.out 3; have hfz27_4 := bf_ BK165.out 4; have hfz27_5 := bf_ BK165.out 5
      go_wp2
      go_ret
      exact ⟨by first | rfl | (simp [errW_none, errW_some] <;> rfl) | (simp [*, errW_none, errW_some] <;> rfl) | (simp only [str_ne_]; rfl) | (simp only [str_eq_]; rfl), by repeat (with_reducible first | exact HB.out | apply p3_ | apply p1_ | apply p2_ | refine bs_ ?_ GE165.out)⟩
     replace c26 := e3_ c26
     subst c26
     have H1 : (some true) = some r := by rw [if_neg (show ¬ (false = true) by decide)] at H; exact H
     clear H
     have H := H1
     clear H1
     obtain rfl := e5_ H
     have hcz28_0 : wc.cell? ⟨gb165, 0, none⟩ = some (.int .i64 a0_0) := (bc_ BK165.out 0).trans rfl; have hcz28_1 : wc.cell? ⟨gb165, 1, none⟩ = some (.int .i64 a0_1) := (bc_ BK165.out 1).trans rfl; have hcz28_2 : wc.cell? ⟨gb165, 2, none⟩ = some (.string a0_2) := (bc_ BK165.out 2).trans rfl; have hcz28_3 : wc.cell? ⟨gb165, 3, none⟩ = some (.int .i64 a0_3) := (bc_ BK165.out 3).trans rfl; have hcz28_4 : wc.cell? ⟨gb165, 4, none⟩ = some (.string a0_4) := (bc_ BK165.out 4).trans rfl; have hcz28_5 : wc.cell? ⟨gb165, 5, none⟩ = some (.bool false) := (bc_ BK165.out 5).trans rfl; have hfz28_0 := bf_ BK165.out 0; have hfz28_1 := bf_ BK165.out 1; have hfz28_2 := bf_ BK165.out 2; have hfz28_3 := bf_ BK165.out 3; have hfz28_4 := bf_ BK165.out 4; have hfz28_5 := bf_ BK165.out 5
     go_wp2
     go_ret
     exact ⟨by first | rfl | (simp [errW_none, errW_some] <;> rfl) | (simp [*, errW_none, errW_some] <;> rfl) | (simp only [str_ne_]; rfl) | (simp only [str_eq_]; rfl), by repeat (with_reducible first | exact HB.out | apply p3_ | apply p1_ | apply p2_ | refine bs_ ?_ GE165.out)⟩
    rw [if_neg c25] at H
    have c25b0 : (a0_1 == 2) = false := e2_ c25
    have c25b1 : (a0_1 != 2) = true := bne_iff_ne.mpr c25
    by_cases c29 : a0_4.toList = ([] : List UInt8)
    ·rw [if_pos c29] at H
     have c29b0 : (a0_4.toList == ([] : List UInt8)) = true := beq_iff_eq.mpr c29
     have c29b1 : (a0_4.toList != ([] : List UInt8)) = false := e1_ c29
     clear c29
     by_cases c30 : a0_5 = true
     ·subst c30
      have H1 : (some (a0_4.toList != ([] : List UInt8))) = some r := by rw [if_pos rfl] at H; exact H
      clear H
      have H := H1
      clear H1
      obtain rfl := e5_ H
      have hcz31_0 : wc.cell? ⟨gb165, 0, none⟩ = some (.int .i64 a0_0) := (bc_ BK165.out 0).trans rfl; have hcz31_1 : wc.cell? ⟨gb165, 1, none⟩ = some (.int .i64 a0_1) := (bc_ BK165.out 1).trans rfl; have hcz31_2 : wc.cell? ⟨gb165, 2, none⟩ = some (.string a0_2) := (bc_ BK165.out 2).trans rfl; have hcz31_3 : wc.cell? ⟨gb165, 3, none⟩ = some (.int .i64 a0_3) := (bc_ BK165.out 3).trans rfl; have hcz31_4 : wc.cell? ⟨gb165, 4, none⟩ = some (.string a0_4) := (bc_ BK165.out 4).trans rfl; have hcz31_5 : wc.cell? ⟨gb165, 5, none⟩ = some (.bool true) := (bc_ BK165.out 5).trans rfl; have hfz31_0 := bf_ BK165.out 0; have hfz31_1 := bf_ BK165.out 1; have hfz31_2 := bf_ BK165.out 2; have hfz31_3 := bf_ BK165.out 3; have hfz31_4 := bf_ BK165.out 4; have hfz31_5 := bf_ BK165.out 5
      go_wp2
      go_ret
      exact ⟨by first | rfl | (simp [errW_none, errW_some] <;> rfl) | (simp [*, errW_none, errW_some] <;> rfl) | (simp only [str_ne_]; rfl) | (simp only [str_eq_]; rfl), by repeat (with_reducible first | exact HB.out | apply p3_ | apply p1_ | apply p2_ | refine bs_ ?_ GE165.out)⟩
     replace c30 := e3_ c30
     subst c30
     have H1 : (some true) = some r := by rw [if_neg (show ¬ (false = true) by decide)] at H; exact H
     clear H
     have H := H1
     clear H1
     obtain rfl := e5_ H
     have hcz32_0 : wc.cell? ⟨gb165, 0, none⟩ = some (.int .i64 a0_0) := (bc_ BK165.out 0).trans rfl; have hcz32_1 : wc.cell? ⟨gb165, 1, none⟩ = some (.int .i64 a0_1) := (bc_ BK165.out 1).trans rfl; have hcz32_2 : wc.cell? ⟨gb165, 2, none⟩ = some (.string a0_2) := (bc_ BK165.out 2).trans rfl; have hcz32_3 : wc.cell? ⟨gb165, 3, none⟩ = some (.int .i64 a0_3) := (bc_ BK165.out 3).trans rfl; have hcz32_4 : wc.cell? ⟨gb165, 4, none⟩ = some (.string a0_4) := (bc_ BK165.out 4).trans rfl; have hcz32_5 : wc.cell? ⟨gb165, 5, none⟩ = some (.bool false) := (bc_ BK165.out 5).trans rfl; have hfz32_0 := bf_ BK165.out 0; have hfz32_1 := bf_ BK165.out 1; have hfz32_2 := bf_ BK165.out 2; have hfz32_3 := bf_ BK165.out 3; have hfz32_4 := bf_ BK165.out 4; have hfz32_5 := bf_ BK165.out 5
     go_wp2
     go_ret
     exact ⟨by first | rfl | (simp [errW_none, errW_some] <;> rfl) | (simp [*, errW_none, errW_some] <;> rfl) | (simp only [str_ne_]; rfl) | (simp only [str_eq_]; rfl), by repeat (with_reducible first | exact HB.out | apply p3_ | apply p1_ | apply p2_ | refine bs_ ?_ GE165.out)⟩
    rw [if_neg c29] at H
    have c29b0 : (a0_4.toList == ([] : List UInt8)) = false := e2_ c29
    have c29b1 : (a0_4.toList != ([] : List UInt8)) = true := bne_iff_ne.mpr c29
    obtain rfl := e5_ H
    have hcz33_0 : wc.cell? ⟨gb165, 0, none⟩ = some (.int .i64 a0_0) := (bc_ BK165.out 0).trans rfl; have hcz33_1 : wc.cell? ⟨gb165, 1, none⟩ = some (.int .i64 a0_1) := (bc_ BK165.out 1).trans rfl; have hcz33_2 : wc.cell? ⟨gb165, 2, none⟩ = some (.string a0_2) := (bc_ BK165.out 2).trans rfl; have hcz33_3 : wc.cell? ⟨gb165, 3, none⟩ = some (.int .i64 a0_3) := (bc_ BK165.out 3).trans rfl; have hcz33_4 : wc.cell? ⟨gb165, 4, none⟩ = some (.string a0_4) := (bc_ BK165.out 4).trans rfl; have hcz33_5 : wc.cell? ⟨gb165, 5, none⟩ = some (.bool a0_5) := (bc_ BK165.out 5).trans rfl; have hfz33_0 := bf_ BK165.out 0; have hfz33_1 := bf_ BK165.out 1; have hfz33_2 := bf_ BK165.out 2; have hfz33_3 := bf_ BK165.out 3; have hfz33_4 := bf_ BK165.out 4; have hfz33_5 := bf_ BK165.out 5
    go_wp2
    go_ret
    exact ⟨by first | rfl | (simp [errW_none, errW_some] <;> rfl) | (simp [*, errW_none, errW_some] <;> rfl) | (simp only [str_ne_]; rfl) | (simp only [str_eq_]; rfl), by repeat (with_reducible first | exact HB.out | apply p3_ | apply p1_ | apply p2_ | refine bs_ ?_ GE165.out)⟩
   rw [if_neg c22] at H
   have c22b0 : (a0_1 == 1) = false := e2_ c22
   have c22b1 : (a0_1 != 1) = true := bne_iff_ne.mpr c22
   by_cases c34 : a0_1 = 2
   ·rw [if_pos c34] at H
    have c34b0 : (a0_1 == 2) = true := beq_iff_eq.mpr c34
    have c34b1 : (a0_1 != 2) = false := e1_ c34
    clear c34
    by_cases c35 : a0_2.toList = ([] : List UInt8)
    ·rw [if_pos c35] at H
     have c35b0 : (a0_2.toList == ([] : List UInt8)) = true := beq_iff_eq.mpr c35
     have c35b1 : (a0_2.toList != ([] : List UInt8)) = false := e1_ c35
     clear c35
     obtain rfl := e5_ H
     have hcz36_0 : wc.cell? ⟨gb165, 0, none⟩ = some (.int .i64 a0_0) := (bc_ BK165.out 0).trans rfl; have hcz36_1 : wc.cell? ⟨gb165, 1, none⟩ = some (.int .i64 a0_1) := (bc_ BK165.out 1).trans rfl; have hcz36_2 : wc.cell? ⟨gb165, 2, none⟩ = some (.string a0_2) := (bc_ BK165.out 2).trans rfl; have hcz36_3 : wc.cell? ⟨gb165, 3, none⟩ = some (.int .i64 a0_3) := (bc_ BK165.out 3).trans rfl; have hcz36_4 : wc.cell? ⟨gb165, 4, none⟩ = some (.string a0_4) := (bc_ BK165.out 4).trans rfl; have hcz36_5 : wc.cell? ⟨gb165, 5, none⟩ = some (.bool a0_5) := (bc_ BK165.out 5).trans rfl; have hfz36_0 := bf_ BK165.out 0; have hfz36_1 := bf_ BK165.out 1; have hfz36_2 := bf_ BK165.out 2; have hfz36_3 := bf_ BK165.out 3; have hfz36_4 := bf_ BK165.out 4; have hfz36_5 := bf_ BK165.out 5
     go_wp2
     go_ret
     exact ⟨by first | rfl | (simp [errW_none, errW_some] <;> rfl) | (simp [*, errW_none, errW_some] <;> rfl) | (simp only [str_ne_]; rfl) | (simp only [str_eq_]; rfl), by repeat (with_reducible first | exact HB.out | apply p3_ | apply p1_ | apply p2_ | refine bs_ ?_ GE165.out)⟩
    rw [if_neg c35] at H
    have c35b0 : (a0_2.toList == ([] : List UInt8)) = false := e2_ c35
    have c35b1 : (a0_2.toList != ([] : List UInt8)) = true := bne_iff_ne.mpr c35
    by_cases c37 : a0_5 = true
    ·subst c37
     have H1 : (some (a0_4.toList != ([] : List UInt8))) = some r := by rw [if_pos rfl] at H; exact H
     clear H
     have H := H1
     clear H1
     obtain rfl := e5_ H
     have hcz38_0 : wc.cell? ⟨gb165, 0, none⟩ = some (.int .i64 a0_0) := (bc_ BK165.out 0).trans rfl; have hcz38_1 : wc.cell? ⟨gb165, 1, none⟩ = some (.int .i64 a0_1) := (bc_ BK165.out 1).trans rfl; have hcz38_2 : wc.cell? ⟨gb165, 2, none⟩ = some (.string a0_2) := (bc_ BK165.out 2).trans rfl; have hcz38_3 : wc.cell? ⟨gb165, 3, none⟩ = some (.int .i64 a0_3) := (bc_ BK165.out 3).trans rfl; have hcz38_4 : wc.cell? ⟨gb165, 4, none⟩ = some (.string a0_4) := (bc_ BK165.out 4).trans rfl; have hcz38_5 : wc.cell? ⟨gb165, 5, none⟩ = some (.bool true) := (bc_ BK165.out 5).trans rfl; have hfz38_0 := bf_ BK165.out 0; have hfz38_1 := bf_ BK165.out 1; have hfz38_2 := bf_ BK165.out 2; have hfz38_3 := bf_ BK165.out 3; have hfz38_4 := bf_ BK165.out 4; have hfz38_5 := bf_ BK165.out 5
     go_wp2
     go_ret
     exact ⟨by first | rfl | (simp [errW_none, errW_some] <;> rfl) | (simp [*, errW_none, errW_some] <;> rfl) | (simp only [str_ne_]; rfl) | (simp only [str_eq_]; rfl), by repeat (with_reducible first | exact HB.out | apply p3_ | apply p1_ | apply p2_ | refine bs_ ?_ GE165.out)⟩
    replace c37 := e3_ c37
    subst c37
    have H1 : (some true) = some r := by rw [if_neg (show ¬ (false = true) by decide)] at H; exact H
    clear H
    have H := H1
    clear H1
    obtain rfl := e5_ H
    have hcz39_0 : wc.cell? ⟨gb165, 0, none⟩ = some (.int .i64 a0_0) := (bc_ BK165.out 0).trans rfl; have hcz39_1 : wc.cell? ⟨gb165, 1, none⟩ = some (.int .i64 a0_1) := (bc_ BK165.out 1).trans rfl; have hcz39_2 : wc.cell? ⟨gb165, 2, none⟩ = some (.string a0_2) := (bc_ BK165.out 2).trans rfl; have hcz39_3 : wc.cell? ⟨gb165, 3, none⟩ = some (.int .i64 a0_3) := (bc_ BK165.out 3).trans rfl; have hcz39_4 : wc.cell? ⟨gb165, 4, none⟩ = some (.string a0_4) := (bc_ BK165.out 4).trans rfl; have hcz39_5 : wc.cell? ⟨gb165, 5, none⟩ = some (.bool false) := (bc_ BK165.out 5).trans rfl; have hfz39_0 := bf_ BK165.out 0; have hfz39_1 := bf_ BK165.out 1; have hfz39_2 := bf_ BK165.out 2; have hfz39_3 := bf_ BK165.out 3; have hfz39_4 := bf_ BK165.out 4; have hfz39_5 := bf_ BK165.out 5
    go_wp2
    go_ret
    exact ⟨by first | rfl | (simp [errW_none, errW_some] <;> rfl) | (simp [*, errW_none, errW_some] <;> rfl) | (simp only [str_ne_]; rfl) | (simp only [str_eq_]; rfl), by repeat (with_reducible first | exact HB.out | apply p3_ | apply p1_ | apply p2_ | refine bs_ ?_ GE165.out)⟩
   rw [if_neg c34] at H
   have c34b0 : (a0_1 == 2) = false := e2_ c34
   have c34b1 : (a0_1 != 2) = true := bne_iff_ne.mpr c34
   by_cases c40 : a0_4.toList = ([] : List UInt8)
   ·rw [if_pos c40] at H
    have c40b0 : (a0_4.toList == ([] : List UInt8)) = true := beq_iff_eq.mpr c40
    have c40b1 : (a0_4.toList != ([] : List UInt8)) = false := e1_ c40
    clear c40
    by_cases c41 : a0_5 = true
    ·subst c41
     have H1 : (some (a0_4.toList != ([] : List UInt8))) = some r := by rw [if_pos rfl] at H; exact H
     clear H
     have H := H1
     clear H1
     obtain rfl := e5_ H
     have hcz42_0 : wc.cell? ⟨gb165, 0, none⟩ = some (.int .i64 a0_0) := (bc_ BK165.out 0).trans rfl; have hcz42_1 : wc.cell? ⟨gb165, 1, none⟩ = some (.int .i64 a0_1) := (bc_ BK165.out 1).trans rfl; have hcz42_2 : wc.cell? ⟨gb165, 2, none⟩ = some (.string a0_2) := (bc_ BK165.out 2).trans rfl; have hcz42_3 : wc.cell? ⟨gb165, 3, none⟩ = some (.int .i64 a0_3) := (bc_ BK165.out 3).trans rfl; have hcz42_4 : wc.cell? ⟨gb165, 4, none⟩ = some (.string a0_4) := (bc_ BK165.out 4).trans rfl; have hcz42_5 : wc.cell? ⟨gb165, 5, none⟩ = some (.bool true) := (bc_ BK165.out 5).trans rfl; have hfz42_0 := bf_ BK165.out 0; have hfz42_1 := bf_ BK165.out 1; have hfz42_2 := bf_ BK165.out 2; have hfz42_3 := bf_ BK165.out 3; have hfz42_4 := bf_ BK165.out 4; have hfz42_5 := bf_ BK165.out 5
     go_wp2
     go_ret
     exact ⟨by first | rfl | (simp [errW_none, errW_some] <;> rfl) | (simp [*, errW_none, errW_some] <;> rfl) | (simp only [str_ne_]; rfl) | (simp only [str_eq_]; rfl), by repeat (with_reducible first | exact HB.out | apply p3_ | apply p1_ | apply p2_ | refine bs_ ?_ GE165.out)⟩
    replace c41 := e3_ c41
    subst c41
    have H1 : (some true) = some r := by rw [if_neg (show ¬ (false = true) by decide)] at H; exact H
    clear H
    have H := H1
    clear H1
    obtain rfl := e5_ H
    have hcz43_0 : wc.cell? ⟨gb165, 0, none⟩ = some (.int .i64 a0_0) := (bc_ BK165.out 0).trans rfl; have hcz43_1 : wc.cell? ⟨gb165, 1, none⟩ = some (.int .i64 a0_1) := (bc_ BK165.out 1).trans rfl; have hcz43_2 : wc.cell? ⟨gb165, 2, none⟩ = some (.string a0_2) := (bc_ BK165.out 2).trans rfl; have hcz43_3 : wc.cell? ⟨gb165, 3, none⟩ = some (.int .i64 a0_3) := (bc_ BK165.out 3).trans rfl; have hcz43_4 : wc.cell? ⟨gb165, 4, none⟩ = some (.string a0_4) := (bc_ BK165.out 4).trans rfl; have hcz43_5 : wc.cell? ⟨gb165, 5, none⟩ = some (.bool false) := (bc_ BK165.out 5).trans rfl; have hfz43_0 := bf_ BK165.out 0; have hfz43_1 := bf_ BK165.out 1; have hfz43_2 := bf_ BK165.out 2; have hfz43_3 := bf_ BK165.out 3; have hfz43_4 := bf_ BK165.out 4; have hfz43_5 := bf_ BK165.out 5
    go_wp2
    go_ret
    exact ⟨by first | rfl | (simp [errW_none, errW_some] <;> rfl) | (simp [*, errW_none, errW_some] <;> rfl) | (simp only [str_ne_]; rfl) | (simp only [str_eq_]; rfl), by repeat (with_reducible first | exact HB.out | apply p3_ | apply p1_ | apply p2_ | refine bs_ ?_ GE165.out)⟩
   rw [if_neg c40] at H
   have c40b0 : (a0_4.toList == ([] : List UInt8)) = false := e2_ c40
   have c40b1 : (a0_4.toList != ([] : List UInt8)) = true := bne_iff_ne.mpr c40
   obtain rfl := e5_ H
   have hcz44_0 : wc.cell? ⟨gb165, 0, none⟩ = some (.int .i64 a0_0) := (bc_ BK165.out 0).trans rfl; have hcz44_1 : wc.cell? ⟨gb165, 1, none⟩ = some (.int .i64 a0_1) := (bc_ BK165.out 1).trans rfl; have hcz44_2 : wc.cell? ⟨gb165, 2, none⟩ = some (.string a0_2) := (bc_ BK165.out 2).trans rfl; have hcz44_3 : wc.cell? ⟨gb165, 3, none⟩ = some (.int .i64 a0_3) := (bc_ BK165.out 3).trans rfl; have hcz44_4 : wc.cell? ⟨gb165, 4, none⟩ = some (.string a0_4) := (bc_ BK165.out 4).trans rfl; have hcz44_5 : wc.cell? ⟨gb165, 5, none⟩ = some (.bool a0_5) := (bc_ BK165.out 5).trans rfl; have hfz44_0 := bf_ BK165.out 0; have hfz44_1 := bf_ BK165.out 1; have hfz44_2 := bf_ BK165.out 2; have hfz44_3 := bf_ BK165.out 3; have hfz44_4 := bf_ BK165.out 4; have hfz44_5 := bf_ BK165.out 5
   go_wp2
   go_ret
   exact ⟨by first | rfl | (simp [errW_none, errW_some] <;> rfl) | (simp [*, errW_none, errW_some] <;> rfl) | (simp only [str_ne_]; rfl) | (simp only [str_eq_]; rfl), by repeat (with_reducible first | exact HB.out | apply p3_ | apply p1_ | apply p2_ | refine bs_ ?_ GE165.out)⟩

/-! ### pinfoldref11_LeaseMay_c: function 44 -/
theorem reflease_c (k : Nat) (h st : Int) (cl : ByteArray) (un : Int) (nm : ByteArray) (won : Bool) (hs : nm.size ≤ 8796093022000) (hk : 1 ≤ k) : pinfoldref11_LeaseMay.f k h st cl un nm won = some (leaseB h st cl un nm won) := by
 obtain ⟨k, rfl⟩ : ∃ j, k = j + 1 := ⟨k - 1, by omega⟩
 have hj : ∀ b : Bool, pinfoldref11_LeaseMay.j0 (k + 1) b h st cl un nm won = if b = true then some false else some (if st = 1 then decide (cl.toList ≠ []) && decide (nm.toList = []) && !won else if st = 2 then decide (cl.toList ≠ []) && (decide (nm.toList ≠ []) || !won) else decide (nm.toList = []) && !won) := by
  intro b
  rw [pinfoldref11_LeaseMay.j0]
  cases b with
  | true => rfl
  | false =>
   by_cases h1 : st = 1
   ·have h2 : st ≠ 2 := by omega
    by_cases hc : cl.toList = [] <;> by_cases hn : nm.toList = [] <;> cases won <;> simp [h1, hc, hn]
   ·by_cases h2 : st = 2
    ·by_cases hc : cl.toList = [] <;> by_cases hn : nm.toList = [] <;> cases won <;> simp [h2, hc, hn]
    ·by_cases hn : nm.toList = [] <;> cases won <;> simp [h1, h2, hn]
 unfold pinfoldref11_LeaseMay.f
 simp only [hj]
 unfold pinfoldref1_NameMay_c.f
 rw [if_pos hs]
 unfold leaseB stateB
 by_cases q1 : 2 ≤ h ∧ h ≤ 254
 ·rw [decide_eq_true q1, if_neg (by omega), if_neg (by omega)]
  by_cases q2 : 0 ≤ st ∧ st ≤ 3
  ·rw [if_neg (by omega), if_neg (by omega)]
   by_cases q3 : cl.size ≤ 16
   ·rw [if_neg (by omega), decide_eq_true q3]
    by_cases q4 : 0 ≤ un ∧ un ≤ 1099511627776
    ·rw [if_neg (by omega), if_neg (by omega), decide_eq_true q4, Option.bind_some]
     cases nameB (bytesOf nm) with
     | true =>
      simp only [Bool.not_true, Bool.false_eq_true, if_false, Bool.and_true, Bool.true_and]
      by_cases h1 : st = 1
      ·rw [if_pos h1, if_neg (by omega), if_pos h1]
      ·rw [if_neg h1]
       by_cases h2 : st = 2
       ·rw [if_pos h2, if_neg (by omega), if_neg h1, if_pos h2]
       ·rw [if_neg h2, if_pos (by omega)]
     | false => simp
    ·rw [decide_eq_false q4]
     by_cases q5 : un < 0
     ·rw [if_pos q5]
      simp
     ·rw [if_neg q5, if_pos (by omega)]
      simp
   ·rw [if_pos (by omega), decide_eq_false q3]
    simp
  ·have n0 : ¬ st = 0 := by omega
   have n1 : ¬ st = 1 := by omega
   have n2 : ¬ st = 2 := by omega
   have n3 : ¬ st = 3 := by omega
   by_cases q5 : st < 0
   ·rw [if_pos q5]
    simp [n0, n1, n2, n3]
   ·rw [if_neg q5, if_pos (by omega)]
    simp [n0, n1, n2, n3]
 ·rw [decide_eq_false q1]
  by_cases q5 : h < 2
  ·rw [if_pos q5]
   simp
  ·rw [if_neg q5, if_pos (by omega)]
   simp
def pinfoldref11_LeaseMay_c.f (a0_0 : Int) (a0_1 : Int) (a0_2 : ByteArray) (a0_3 : Int) (a0_4 : ByteArray) (a0_5 : Bool) : Option Bool := if a0_4.size ≤ 8796093022000 then some (leaseB a0_0 a0_1 a0_2 a0_3 a0_4 a0_5) else none
theorem pinfoldref11_LeaseMay_c.calls (a0_0 : Int) (a0_1 : Int) (a0_2 : ByteArray) (a0_3 : Int) (a0_4 : ByteArray) (a0_5 : Bool) (r : Bool) (w : World) (h : pinfoldref11_LeaseMay_c.f a0_0 a0_1 a0_2 a0_3 a0_4 a0_5 = some r) :
  Calls Tryd.prog 44 #[.agg #[.int .i64 a0_0, .int .i64 a0_1, .string a0_2, .int .i64 a0_3, .string a0_4, .bool a0_5]] w fun e w' => e = .returned (.bool r) ∧ Below w.heap.size w w' := by
 unfold pinfoldref11_LeaseMay_c.f at h
 by_cases hs : a0_4.size ≤ 8796093022000
 ·rw [if_pos hs] at h
  exact pinfoldref11_LeaseMay.calls 1 a0_0 a0_1 a0_2 a0_3 a0_4 a0_5 r w (by rw [reflease_c 1 _ _ _ _ _ _ hs (Nat.le_refl _)]; exact h)
 ·rw [if_neg hs] at h
  cases h

/-! ### pinfoldref11_TableMay: function 60 -/
-- BY HAND
-- 44
def hostAheadR (l : List S42) (i : Nat) : Option Int := if i = 0 then none else some (rd_T42 l ((i - 1 : Nat) : Int)).f0
def pinfoldref11_TableMay.S (pb : Addr) (x0 x1 : Int) (x2 : ByteArray) (x3 : Int) (x4 : ByteArray) (x5 : Bool) (pa : Addr) (y0 : Int) (w' : World) : Prop := w'.cell? pb = some (.int .i64 x0) ∧ w'.cell? ⟨pb.block, pb.off + 1, none⟩ = some (.int .i64 x1) ∧ w'.cell? ⟨pb.block, pb.off + 2, none⟩ = some (.string x2) ∧ w'.cell? ⟨pb.block, pb.off + 3, none⟩ = some (.int .i64 x3) ∧ w'.cell? ⟨pb.block, pb.off + 4, none⟩ = some (.string x4) ∧ w'.cell? ⟨pb.block, pb.off + 5, none⟩ = some (.bool x5) ∧ w'.cell? pa = some (.int .i64 y0)
theorem pinfoldref11_TableMay.S_below {w w2 : World} {pb : Addr} {x0 x1 : Int} {x2 : ByteArray} {x3 : Int} {x4 : ByteArray} {x5 : Bool} {pa : Addr} {y0 : Int} (h : pinfoldref11_TableMay.S pb x0 x1 x2 x3 x4 x5 pa y0 w) (hb : Below w.heap.size w w2) : pinfoldref11_TableMay.S pb x0 x1 x2 x3 x4 x5 pa y0 w2 := by
 obtain ⟨s0, s1, s2, s3, s4, s5, s6⟩ := h
 exact ⟨(hb.cell (wb_ _ _ s0)).trans s0, (hb.cell (wb_ _ _ s1)).trans s1, (hb.cell (wb_ _ _ s2)).trans s2, (hb.cell (wb_ _ _ s3)).trans s3, (hb.cell (wb_ _ _ s4)).trans s4, (hb.cell (wb_ _ _ s5)).trans s5, (hb.cell (wb_ _ _ s6)).trans s6⟩
def pinfoldref11_TableMay_c.f (l0 : List S42) : Option Bool := if tabFitR l0 then some (tableB l0) else none
set_option maxHeartbeats 8000000 in
set_option maxRecDepth 100000 in
theorem pinfoldref11_TableMay_c.calls (A0 : Option Addr) (c0 : Nat) (l0 : List S42) (r : Bool) (w : World) (hr0 : Kd.C k42 w A0 l0.length l0) (hc0 : l0.length ≤ c0) (h : pinfoldref11_TableMay_c.f l0 = some r) :
  Calls Tryd.prog 60 #[.slice A0 l0.length c0] w fun e w' => e = .returned (.bool r) ∧ Below w.heap.size w w' := by
 unfold pinfoldref11_TableMay_c.f at h
 by_cases hs : tabFitR l0
 rotate_left
 ·rw [if_neg hs] at h
  cases h
 rw [if_pos hs] at h
 have HT := am_ (show (goTab (hostAheadR l0 (0 : Int).toNat) (l0.drop (0 : Int).toNat) && decide (l0.length ≤ 8)) = r from e5_ h)
 have hl := hs.1
 have HX := am_ hs.2
 have HR := am_ hr0
 have HB := am_ (Below.refl w.heap.size w)
 clear h hs hr0 hc0
 go_enter Tryd.func60, Tryd.ntmps60
 go_wp2
 go_loopg [3] l0.length (fun d v w' => ∃ i : Int, 0 ≤ i ∧ i.toNat + d = l0.length ∧ v = .int .i64 i ∧ Aside0 (Below w.heap.size w w') ∧ Aside0 ((goTab (hostAheadR l0 i.toNat) (l0.drop i.toNat) && decide (l0.length ≤ 8)) = r))
 case atStart => exact ⟨0, by omega, by simp, rfl, HB, HT⟩
 case round =>
  clear HB HT
  obtain ⟨i, hi0, hd, rfl, HB, HT⟩ := hrel
  by_cases hlt : i < (l0.length : Int)
  ·obtain ⟨ad, e1, hw0, hw1, hw2, hw3, hw4, hw5⟩ := at_T42 HR.out i hi0 hlt
   cases e1
   have hx0 := (HB.out.cell (wb_ w _ hw0)).trans hw0; have hx1 := (HB.out.cell (wb_ w _ hw1)).trans hw1; have hx2 := (HB.out.cell (wb_ w _ hw2)).trans hw2; have hx3 := (HB.out.cell (wb_ w _ hw3)).trans hw3; have hx4 := (HB.out.cell (wb_ w _ hw4)).trans hw4; have hx5 := (HB.out.cell (wb_ w _ hw5)).trans hw5
   have hd1 := dropLease l0 i hi0 hlt
   have hsz := HX.out _ hd1.2
   have hst := HT.out
   rw [hd1.1] at hst
   have hnx : hostAheadR l0 (i.toNat + 1) = some (rd_T42 l0 i).f0 := by
    unfold hostAheadR
    rw [if_neg (by omega), Nat.add_sub_cancel, Int.toNat_of_nonneg hi0]
   have hi2 : (i + 1).toNat = i.toNat + 1 := by omega
   have hpv : ¬ i = 0 → ∃ j y, wrap64 (i - 1) = j ∧ 0 ≤ j ∧ j < (l0.length : Int) ∧ hostAheadR l0 i.toNat = some y ∧ w.cell? (ad.add (j.toNat * 6)) = some (.int .i64 y) := by
    intro h0
    have h1 : wrap64 (i - 1) = i - 1 := by unfold wrap64; omega
    obtain ⟨ad2, e2, hy0, _⟩ := at_T42 HR.out (i - 1) (by omega) (by omega)
    cases e2
    refine ⟨i - 1, _, h1, by omega, by omega, ?_, hy0⟩
    unfold hostAheadR
    rw [if_neg (by omega), show ((i.toNat - 1 : Nat) : Int) = i - 1 by omega]
   generalize rd_T42 l0 i = x at hw0 hw1 hw2 hw3 hw4 hw5 hx0 hx1 hx2 hx3 hx4 hx5 hsz hst hnx
   clear hd1 HT
   obtain ⟨x0, x1, x2, x3, x4, x5⟩ := x
   simp only at hw0 hw1 hw2 hw3 hw4 hw5 hx0 hx1 hx2 hx3 hx4 hx5 hsz hst hnx
   obtain ⟨b1, h1⟩ : ∃ b, leaseB x0 x1 x2 x3 x4 x5 = b := ⟨_, rfl⟩
   have hst2 : ((b1 && (above (hostAheadR l0 i.toNat) x0 && goTab (some x0) (l0.drop (i.toNat + 1)))) && decide (l0.length ≤ 8)) = r := by rw [← h1]; exact hst
   rw [← hnx, ← hi2] at hst2
   clear hst hnx
   have CM := am_ (fun W => pinfoldref11_LeaseMay_c.calls x0 x1 x2 x3 x4 x5 b1 W (by unfold pinfoldref11_LeaseMay_c.f; rw [if_pos hsz, h1]))
   have H1 := am_ (show 0 ≤ i + 1 by omega)
   have H2 := am_ (show (i + 1).toNat + (l0.length - (i.toNat + 1)) = l0.length by omega)
   have H3 := am_ (show l0.length - (i.toNat + 1) < gk by omega)
   have H4 := am_ (show IntKind.i64.wrap (i + 1) = i + 1 from (i64_w _).trans (by unfold wrap64; omega))
   have H6 := am_ (fun (h : i = 0) => show i.toNat = 0 by rw [h]; rfl)
   have H5 := am_ (fun (h : ¬ i = 0) => show 0 < i by omega)
   replace hi0 := am_ hi0
   replace hd := am_ hd
   replace hl := am_ hl
   have clt := decide_eq_true hlt
   have cle := decide_eq_true hi0.out
   have plt := eq_true hlt
   have ple := eq_true hi0.out
   clear h1 hlt
   cases b1 with
   | false =>
    have HF := am_ (show false = r by rw [← hst2]; rfl)
    clear hst2 hpv hi2
    go_wp2_with fail
    have HB1 := am_ (below_drew HB.out)
    refine seqS (S := pinfoldref11_TableMay.S (ad.add (i.toNat * 6)) x0 x1 x2 x3 x4 x5 (ad.add (i.toNat * 6)) x0) 24 (by kernel_rfl) rfl rfl (by unfold pinfoldref11_TableMay.S; exact ⟨(HB1.out.cell (wb_ w _ hw0)).trans hw0, (HB1.out.cell (wb_ w _ hw1)).trans hw1, (HB1.out.cell (wb_ w _ hw2)).trans hw2, (HB1.out.cell (wb_ w _ hw3)).trans hw3, (HB1.out.cell (wb_ w _ hw4)).trans hw4, (HB1.out.cell (wb_ w _ hw5)).trans hw5, (HB1.out.cell (wb_ w _ hw0)).trans hw0⟩) ?_
    intro hHeld
    clear hx0 hx1 hx2 hx3 hx4 hx5 hw0 hw1 hw2 hw3 hw4 hw5 HB
    iterate 4 first | (refine seqP (v := ?_) (a' := ?_) rfl rfl (by kernel_rfl) (fun _ _ _ h => h) (Or.inl ⟨by kernel_rfl, ?_⟩) ?_ ?_; rotate_left; (intro w'; go_simp; with_reducible rfl); rotate_left; (simp only [Act.put, sa_, sb_, sc_, i64_w, i32_w]; rfl)) | (refine seqL (v := ?_) (a' := ?_) rfl rfl (by kernel_rfl) (fun _ _ _ h => h) (Or.inl ⟨by kernel_rfl, ?_⟩) hHeld ?_ ?_; rotate_left; (rintro w' ⟨s0, s1, s2, s3, s4, s5, s6⟩; go_simp; with_reducible rfl); rotate_left; (simp only [Act.put, sa_, sb_, sc_, i64_w, i32_w]; rfl))
    refine seqG (fn := Tryd.f44) rfl rfl (by kernel_rfl) rfl Tryd.func44 (by kernel_rfl) (by kernel_rfl) #[.agg #[.int .i64 x0, .int .i64 x1, .string x2, .int .i64 x3, .string x4, .bool x5]] (by kernel_rfl) (by (try simp only [List.map_toArray, List.map_cons, List.map_nil]); first | done | rfl) ?_
    with_reducible refine (CM.out _).mono ?_
    rintro e wg ⟨rfl, hb2⟩
    have HB2 := am_ (bt_ HB1.out hb2)
    refine ⟨_, rfl, pinfoldref11_TableMay.S_below hHeld hb2, fun hHeld => ⟨?_, ?_, ?_⟩⟩
    rotate_left
    ·simp only [Act.put, sa_, sb_, sc_, i64_w, i32_w]
     rfl
    clear hb2 HB1 CM
    iterate 2 first | (refine seqP (v := ?_) (a' := ?_) rfl rfl (by kernel_rfl) (fun _ _ _ h => h) (Or.inl ⟨by kernel_rfl, ?_⟩) ?_ ?_; rotate_left; (intro w'; go_simp; with_reducible rfl); rotate_left; (simp only [Act.put, sa_, sb_, sc_, i64_w, i32_w]; rfl)) | (refine seqL (v := ?_) (a' := ?_) rfl rfl (by kernel_rfl) (fun _ _ _ h => h) (Or.inl ⟨by kernel_rfl, ?_⟩) hHeld ?_ ?_; rotate_left; (rintro w' ⟨s0, s1, s2, s3, s4, s5, s6⟩; go_simp; with_reducible rfl); rotate_left; (simp only [Act.put, sa_, sb_, sc_, i64_w, i32_w]; rfl))
    iterate 16 (refine seqP (v := undef) (a' := ?_) rfl rfl (by kernel_rfl) (fun _ _ _ h => h) (Or.inr ⟨by kernel_rfl, rfl⟩) ?_ ?_; rotate_left; (simp only [Act.put, sa_, sb_, sc_, i64_w, i32_w]; rfl))
    iterate 1 first | (refine seqP (v := ?_) (a' := ?_) rfl rfl (by kernel_rfl) (fun _ _ _ h => h) (Or.inl ⟨by kernel_rfl, ?_⟩) ?_ ?_; rotate_left; (intro w'; go_simp; with_reducible rfl); rotate_left; (simp only [Act.put, sa_, sb_, sc_, i64_w, i32_w]; rfl)) | (refine seqL (v := ?_) (a' := ?_) rfl rfl (by kernel_rfl) (fun _ _ _ h => h) (Or.inl ⟨by kernel_rfl, ?_⟩) hHeld ?_ ?_; rotate_left; (rintro w' ⟨s0, s1, s2, s3, s4, s5, s6⟩; go_simp; with_reducible rfl); rotate_left; (simp only [Act.put, sa_, sb_, sc_, i64_w, i32_w]; rfl))
    refine seqE (by kernel_rfl) ?_
    go_wp2
    go_ret
    exact ⟨ret_bool (HF.out), HB2.out⟩
   | true =>
   rw [Bool.true_and] at hst2
   by_cases hp : i = 0
   ·have cp : decide (0 < i) = false := decide_eq_false (by omega)
    have HN := am_ (show (goTab (hostAheadR l0 (i + 1).toNat) (l0.drop (i + 1).toNat) && decide (l0.length ≤ 8)) = r by rw [← hst2, show hostAheadR l0 i.toNat = none by unfold hostAheadR; rw [if_pos (H6.out hp)], show above none x0 = true from rfl, Bool.true_and])
    replace hp := am_ hp
    clear hst2 hpv hi2
    go_wp2_with fail
    have HB1 := am_ (below_drew HB.out)
    refine seqS (S := pinfoldref11_TableMay.S (ad.add (i.toNat * 6)) x0 x1 x2 x3 x4 x5 (ad.add (i.toNat * 6)) x0) 24 (by kernel_rfl) rfl rfl (by unfold pinfoldref11_TableMay.S; exact ⟨(HB1.out.cell (wb_ w _ hw0)).trans hw0, (HB1.out.cell (wb_ w _ hw1)).trans hw1, (HB1.out.cell (wb_ w _ hw2)).trans hw2, (HB1.out.cell (wb_ w _ hw3)).trans hw3, (HB1.out.cell (wb_ w _ hw4)).trans hw4, (HB1.out.cell (wb_ w _ hw5)).trans hw5, (HB1.out.cell (wb_ w _ hw0)).trans hw0⟩) ?_
    intro hHeld
    clear hx0 hx1 hx2 hx3 hx4 hx5 hw0 hw1 hw2 hw3 hw4 hw5 HB
    iterate 4 first | (refine seqP (v := ?_) (a' := ?_) rfl rfl (by kernel_rfl) (fun _ _ _ h => h) (Or.inl ⟨by kernel_rfl, ?_⟩) ?_ ?_; rotate_left; (intro w'; go_simp; with_reducible rfl); rotate_left; (simp only [Act.put, sa_, sb_, sc_, i64_w, i32_w]; rfl)) | (refine seqL (v := ?_) (a' := ?_) rfl rfl (by kernel_rfl) (fun _ _ _ h => h) (Or.inl ⟨by kernel_rfl, ?_⟩) hHeld ?_ ?_; rotate_left; (rintro w' ⟨s0, s1, s2, s3, s4, s5, s6⟩; go_simp; with_reducible rfl); rotate_left; (simp only [Act.put, sa_, sb_, sc_, i64_w, i32_w]; rfl))
    refine seqG (fn := Tryd.f44) rfl rfl (by kernel_rfl) rfl Tryd.func44 (by kernel_rfl) (by kernel_rfl) #[.agg #[.int .i64 x0, .int .i64 x1, .string x2, .int .i64 x3, .string x4, .bool x5]] (by kernel_rfl) (by (try simp only [List.map_toArray, List.map_cons, List.map_nil]); first | done | rfl) ?_
    with_reducible refine (CM.out _).mono ?_
    rintro e wg ⟨rfl, hb2⟩
    have HB2 := am_ (bt_ HB1.out hb2)
    refine ⟨_, rfl, pinfoldref11_TableMay.S_below hHeld hb2, fun hHeld => ⟨?_, ?_, ?_⟩⟩
    rotate_left
    ·simp only [Act.put, sa_, sb_, sc_, i64_w, i32_w]
     rfl
    clear hb2 HB1 CM
    iterate 2 first | (refine seqP (v := ?_) (a' := ?_) rfl rfl (by kernel_rfl) (fun _ _ _ h => h) (Or.inl ⟨by kernel_rfl, ?_⟩) ?_ ?_; rotate_left; (intro w'; go_simp; with_reducible rfl); rotate_left; (simp only [Act.put, sa_, sb_, sc_, i64_w, i32_w]; rfl)) | (refine seqL (v := ?_) (a' := ?_) rfl rfl (by kernel_rfl) (fun _ _ _ h => h) (Or.inl ⟨by kernel_rfl, ?_⟩) hHeld ?_ ?_; rotate_left; (rintro w' ⟨s0, s1, s2, s3, s4, s5, s6⟩; go_simp; with_reducible rfl); rotate_left; (simp only [Act.put, sa_, sb_, sc_, i64_w, i32_w]; rfl))
    iterate 3 first | (refine seqP (v := ?_) (a' := ?_) rfl rfl (by kernel_rfl) (fun _ _ _ h => h) (Or.inl ⟨by kernel_rfl, ?_⟩) ?_ ?_; rotate_left; (intro w'; go_simp; with_reducible rfl); rotate_left; (simp only [Act.put, sa_, sb_, sc_, i64_w, i32_w]; rfl)) | (refine seqL (v := ?_) (a' := ?_) rfl rfl (by kernel_rfl) (fun _ _ _ h => h) (Or.inl ⟨by kernel_rfl, ?_⟩) hHeld ?_ ?_; rotate_left; (rintro w' ⟨s0, s1, s2, s3, s4, s5, s6⟩; go_simp; with_reducible rfl); rotate_left; (simp only [Act.put, sa_, sb_, sc_, i64_w, i32_w]; rfl))
    iterate 12 (refine seqP (v := undef) (a' := ?_) rfl rfl (by kernel_rfl) (fun _ _ _ h => h) (Or.inr ⟨by kernel_rfl, rfl⟩) ?_ ?_; rotate_left; (simp only [Act.put, sa_, sb_, sc_, i64_w, i32_w]; rfl))
    iterate 2 first | (refine seqP (v := ?_) (a' := ?_) rfl rfl (by kernel_rfl) (fun _ _ _ h => h) (Or.inl ⟨by kernel_rfl, ?_⟩) ?_ ?_; rotate_left; (intro w'; go_simp; with_reducible rfl); rotate_left; (simp only [Act.put, sa_, sb_, sc_, i64_w, i32_w]; rfl)) | (refine seqL (v := ?_) (a' := ?_) rfl rfl (by kernel_rfl) (fun _ _ _ h => h) (Or.inl ⟨by kernel_rfl, ?_⟩) hHeld ?_ ?_; rotate_left; (rintro w' ⟨s0, s1, s2, s3, s4, s5, s6⟩; go_simp; with_reducible rfl); rotate_left; (simp only [Act.put, sa_, sb_, sc_, i64_w, i32_w]; rfl))
    refine seqE (by kernel_rfl) ?_
    go_wp2
    go_roundg (l0.length - (i.toNat + 1))
    case measure => exact H3.out
    case rel => exact ⟨i + 1, H1.out, H2.out, by first | rfl | (rw [show wrap64 (i + 1) = i + 1 from (i64_w _).symm.trans H4.out]), HB2, HN⟩
   ·obtain ⟨j, y, hj, hj0, hj1, hay, hwy⟩ := hpv hp
    have cp : decide (0 < i) = true := decide_eq_true (H5.out hp)
    have hjw : IntKind.i64.wrap (i - 1) = j := (i64_w _).trans hj
    have pj0 := eq_true hj0
    have pj1 := eq_true hj1
    have cj0 := decide_eq_true hj0
    have cj1 := decide_eq_true hj1
    rw [hay] at hst2
    replace hp := am_ hp
    replace hj0 := am_ hj0
    replace hj1 := am_ hj1
    by_cases hc : x0 ≤ y
    ·have cc : decide (x0 ≤ y) = true := decide_eq_true hc
     have HF := am_ (show false = r by rw [← hst2, show above (some y) x0 = false from decide_eq_false (by omega)]; simp)
     clear hst2 hpv hi2 hc hay
     go_wp2_with fail
     have HB1 := am_ (below_drew HB.out)
     refine seqS (S := pinfoldref11_TableMay.S (ad.add (i.toNat * 6)) x0 x1 x2 x3 x4 x5 (ad.add (j.toNat * 6)) y) 24 (by kernel_rfl) rfl rfl (by unfold pinfoldref11_TableMay.S; exact ⟨(HB1.out.cell (wb_ w _ hw0)).trans hw0, (HB1.out.cell (wb_ w _ hw1)).trans hw1, (HB1.out.cell (wb_ w _ hw2)).trans hw2, (HB1.out.cell (wb_ w _ hw3)).trans hw3, (HB1.out.cell (wb_ w _ hw4)).trans hw4, (HB1.out.cell (wb_ w _ hw5)).trans hw5, (HB1.out.cell (wb_ w _ hwy)).trans hwy⟩) ?_
     intro hHeld
     clear hx0 hx1 hx2 hx3 hx4 hx5 hw0 hw1 hw2 hw3 hw4 hw5 HB
     iterate 4 first | (refine seqP (v := ?_) (a' := ?_) rfl rfl (by kernel_rfl) (fun _ _ _ h => h) (Or.inl ⟨by kernel_rfl, ?_⟩) ?_ ?_; rotate_left; (intro w'; go_simp; with_reducible rfl); rotate_left; (simp only [Act.put, sa_, sb_, sc_, i64_w, i32_w]; rfl)) | (refine seqL (v := ?_) (a' := ?_) rfl rfl (by kernel_rfl) (fun _ _ _ h => h) (Or.inl ⟨by kernel_rfl, ?_⟩) hHeld ?_ ?_; rotate_left; (rintro w' ⟨s0, s1, s2, s3, s4, s5, s6⟩; go_simp; with_reducible rfl); rotate_left; (simp only [Act.put, sa_, sb_, sc_, i64_w, i32_w]; rfl))
     refine seqG (fn := Tryd.f44) rfl rfl (by kernel_rfl) rfl Tryd.func44 (by kernel_rfl) (by kernel_rfl) #[.agg #[.int .i64 x0, .int .i64 x1, .string x2, .int .i64 x3, .string x4, .bool x5]] (by kernel_rfl) (by (try simp only [List.map_toArray, List.map_cons, List.map_nil]); first | done | rfl) ?_
     with_reducible refine (CM.out _).mono ?_
     rintro e wg ⟨rfl, hb2⟩
     have HB2 := am_ (bt_ HB1.out hb2)
     refine ⟨_, rfl, pinfoldref11_TableMay.S_below hHeld hb2, fun hHeld => ⟨?_, ?_, ?_⟩⟩
     rotate_left
     ·simp only [Act.put, sa_, sb_, sc_, i64_w, i32_w]
      rfl
     clear hb2 HB1 CM
     iterate 2 first | (refine seqP (v := ?_) (a' := ?_) rfl rfl (by kernel_rfl) (fun _ _ _ h => h) (Or.inl ⟨by kernel_rfl, ?_⟩) ?_ ?_; rotate_left; (intro w'; go_simp; with_reducible rfl); rotate_left; (simp only [Act.put, sa_, sb_, sc_, i64_w, i32_w]; rfl)) | (refine seqL (v := ?_) (a' := ?_) rfl rfl (by kernel_rfl) (fun _ _ _ h => h) (Or.inl ⟨by kernel_rfl, ?_⟩) hHeld ?_ ?_; rotate_left; (rintro w' ⟨s0, s1, s2, s3, s4, s5, s6⟩; go_simp; with_reducible rfl); rotate_left; (simp only [Act.put, sa_, sb_, sc_, i64_w, i32_w]; rfl))
     iterate 17 first | (refine seqP (v := ?_) (a' := ?_) rfl rfl (by kernel_rfl) (fun _ _ _ h => h) (Or.inl ⟨by kernel_rfl, ?_⟩) ?_ ?_; rotate_left; (intro w'; go_simp; with_reducible rfl); rotate_left; (simp only [Act.put, sa_, sb_, sc_, i64_w, i32_w]; rfl)) | (refine seqL (v := ?_) (a' := ?_) rfl rfl (by kernel_rfl) (fun _ _ _ h => h) (Or.inl ⟨by kernel_rfl, ?_⟩) hHeld ?_ ?_; rotate_left; (rintro w' ⟨s0, s1, s2, s3, s4, s5, s6⟩; go_simp; with_reducible rfl); rotate_left; (simp only [Act.put, sa_, sb_, sc_, i64_w, i32_w]; rfl))
     refine seqE (by kernel_rfl) ?_
     go_wp2
     go_ret
     exact ⟨ret_bool (HF.out), HB2.out⟩
    ·have cc : decide (x0 ≤ y) = false := decide_eq_false hc
     have HN := am_ (show (goTab (hostAheadR l0 (i + 1).toNat) (l0.drop (i + 1).toNat) && decide (l0.length ≤ 8)) = r by rw [← hst2, show above (some y) x0 = true from decide_eq_true (by omega), Bool.true_and])
     clear hst2 hpv hi2 hc hay
     go_wp2_with fail
     have HB1 := am_ (below_drew HB.out)
     refine seqS (S := pinfoldref11_TableMay.S (ad.add (i.toNat * 6)) x0 x1 x2 x3 x4 x5 (ad.add (j.toNat * 6)) y) 24 (by kernel_rfl) rfl rfl (by unfold pinfoldref11_TableMay.S; exact ⟨(HB1.out.cell (wb_ w _ hw0)).trans hw0, (HB1.out.cell (wb_ w _ hw1)).trans hw1, (HB1.out.cell (wb_ w _ hw2)).trans hw2, (HB1.out.cell (wb_ w _ hw3)).trans hw3, (HB1.out.cell (wb_ w _ hw4)).trans hw4, (HB1.out.cell (wb_ w _ hw5)).trans hw5, (HB1.out.cell (wb_ w _ hwy)).trans hwy⟩) ?_
     intro hHeld
     clear hx0 hx1 hx2 hx3 hx4 hx5 hw0 hw1 hw2 hw3 hw4 hw5 HB
     iterate 4 first | (refine seqP (v := ?_) (a' := ?_) rfl rfl (by kernel_rfl) (fun _ _ _ h => h) (Or.inl ⟨by kernel_rfl, ?_⟩) ?_ ?_; rotate_left; (intro w'; go_simp; with_reducible rfl); rotate_left; (simp only [Act.put, sa_, sb_, sc_, i64_w, i32_w]; rfl)) | (refine seqL (v := ?_) (a' := ?_) rfl rfl (by kernel_rfl) (fun _ _ _ h => h) (Or.inl ⟨by kernel_rfl, ?_⟩) hHeld ?_ ?_; rotate_left; (rintro w' ⟨s0, s1, s2, s3, s4, s5, s6⟩; go_simp; with_reducible rfl); rotate_left; (simp only [Act.put, sa_, sb_, sc_, i64_w, i32_w]; rfl))
     refine seqG (fn := Tryd.f44) rfl rfl (by kernel_rfl) rfl Tryd.func44 (by kernel_rfl) (by kernel_rfl) #[.agg #[.int .i64 x0, .int .i64 x1, .string x2, .int .i64 x3, .string x4, .bool x5]] (by kernel_rfl) (by (try simp only [List.map_toArray, List.map_cons, List.map_nil]); first | done | rfl) ?_
     with_reducible refine (CM.out _).mono ?_
     rintro e wg ⟨rfl, hb2⟩
     have HB2 := am_ (bt_ HB1.out hb2)
     refine ⟨_, rfl, pinfoldref11_TableMay.S_below hHeld hb2, fun hHeld => ⟨?_, ?_, ?_⟩⟩
     rotate_left
     ·simp only [Act.put, sa_, sb_, sc_, i64_w, i32_w]
      rfl
     clear hb2 HB1 CM
     iterate 2 first | (refine seqP (v := ?_) (a' := ?_) rfl rfl (by kernel_rfl) (fun _ _ _ h => h) (Or.inl ⟨by kernel_rfl, ?_⟩) ?_ ?_; rotate_left; (intro w'; go_simp; with_reducible rfl); rotate_left; (simp only [Act.put, sa_, sb_, sc_, i64_w, i32_w]; rfl)) | (refine seqL (v := ?_) (a' := ?_) rfl rfl (by kernel_rfl) (fun _ _ _ h => h) (Or.inl ⟨by kernel_rfl, ?_⟩) hHeld ?_ ?_; rotate_left; (rintro w' ⟨s0, s1, s2, s3, s4, s5, s6⟩; go_simp; with_reducible rfl); rotate_left; (simp only [Act.put, sa_, sb_, sc_, i64_w, i32_w]; rfl))
     iterate 17 first | (refine seqP (v := ?_) (a' := ?_) rfl rfl (by kernel_rfl) (fun _ _ _ h => h) (Or.inl ⟨by kernel_rfl, ?_⟩) ?_ ?_; rotate_left; (intro w'; go_simp; with_reducible rfl); rotate_left; (simp only [Act.put, sa_, sb_, sc_, i64_w, i32_w]; rfl)) | (refine seqL (v := ?_) (a' := ?_) rfl rfl (by kernel_rfl) (fun _ _ _ h => h) (Or.inl ⟨by kernel_rfl, ?_⟩) hHeld ?_ ?_; rotate_left; (rintro w' ⟨s0, s1, s2, s3, s4, s5, s6⟩; go_simp; with_reducible rfl); rotate_left; (simp only [Act.put, sa_, sb_, sc_, i64_w, i32_w]; rfl))
     refine seqE (by kernel_rfl) ?_
     go_wp2
     go_roundg (l0.length - (i.toNat + 1))
     case measure => exact H3.out
     case rel => exact ⟨i + 1, H1.out, H2.out, by first | rfl | (rw [show wrap64 (i + 1) = i + 1 from (i64_w _).symm.trans H4.out]), HB2, HN⟩
  ·have HF := am_ (show decide (l0.length ≤ 8) = r by have h1 := HT.out; rw [List.drop_eq_nil_of_le (by omega)] at h1; rw [← h1, show goTab (hostAheadR l0 i.toNat) [] = true from rfl, Bool.true_and])
   by_cases h8 : l0.length ≤ 8
   ·have c8 : decide ((l0.length : Int) ≤ 8) = true := decide_eq_true (by omega)
    have HG := am_ (show true = r by rw [← HF.out]; exact (decide_eq_true h8).symm)
    clear HT HF
    go_wp2
    go_ret
    exact ⟨ret_bool HG.out, HB.out⟩
   ·have c8 : decide ((l0.length : Int) ≤ 8) = false := decide_eq_false (by omega)
    have HG := am_ (show false = r by rw [← HF.out]; exact (decide_eq_false h8).symm)
    clear HT HF
    go_wp2
    go_ret
    exact ⟨ret_bool HG.out, HB.out⟩

/-! ### pinfoldref11_asked: function 37 -/
def pinfoldref11_asked.f (a0_0 : Int) (a0_1 : Int) (l0_2 : List Int) (l0_3 : List (S72)) (a0_4 : Int) (a0_5 : ByteArray) (l0_6 : List (S74)) (l1 : List (S42)) (a2 : Int) (a3 : ByteArray) (a4 : Int) : Option (Bool) := (pinfoldref11_ConfMay.f a0_0 a0_1 l0_2 l0_3 a0_4 a0_5 l0_6).bind fun t168 => (if t168 = true then ((pinfoldref11_TableMay_c.f l1).bind fun t169 => (if t169 = true then (if a2 ≥ 0 then (if a2 ≤ a4 then ((pinfoldref11_clientMay_c.f a3).bind fun t170 => (some t170)) else (some false)) else (some false)) else (some false))) else (some false))
set_option maxHeartbeats 8000000 in
set_option maxRecDepth 100000 in
theorem pinfoldref11_asked.calls (a0_0 : Int) (a0_1 : Int) (A0_2 : Option Addr) (c0_2 : Nat) (l0_2 : List Int) (A0_3 : Option Addr) (c0_3 : Nat) (l0_3 : List (S72)) (a0_4 : Int) (a0_5 : ByteArray) (A0_6 : Option Addr) (c0_6 : Nat) (l0_6 : List (S74)) (A1 : Option Addr) (c1 : Nat) (l1 : List (S42)) (a2 : Int) (a3 : ByteArray) (a4 : Int) (r : Bool) (w : World) (hr0_2 : Kd.C (Kd.int .i64) w A0_2 l0_2.length l0_2) (hc0_2 : l0_2.length ≤ c0_2) (hr0_3 : Kd.C k72 w A0_3 l0_3.length l0_3) (hc0_3 : l0_3.length ≤ c0_3) (hr0_6 : Kd.C k74 w A0_6 l0_6.length l0_6) (hc0_6 : l0_6.length ≤ c0_6) (hr1 : Kd.C k42 w A1 l1.length l1) (hc1 : l1.length ≤ c1) (h : pinfoldref11_asked.f a0_0 a0_1 l0_2 l0_3 a0_4 a0_5 l0_6 l1 a2 a3 a4 = some r) :
  Calls Tryd.prog 37 #[.agg #[.int .i64 a0_0, .int .i64 a0_1, .slice A0_2 l0_2.length c0_2, .slice A0_3 l0_3.length c0_3, .int .i64 a0_4, .string a0_5, .slice A0_6 l0_6.length c0_6], .slice A1 l1.length c1, .int .i64 a2, .string a3, .int .i64 a4] w fun e w' => e = .returned (.bool r) ∧ Below w.heap.size w w' := by
 have hu26 := Tryd.underlying26
 have HR0_2 := am_ hr0_2
 have HC0_2 := am_ hc0_2
 clear hr0_2 hc0_2
 have HR0_3 := am_ hr0_3
 have HC0_3 := am_ hc0_3
 clear hr0_3 hc0_3
 have HR0_6 := am_ hr0_6
 have HC0_6 := am_ hc0_6
 clear hr0_6 hc0_6
 have HR1 := am_ hr1
 have HC1 := am_ hc1
 clear hr1 hc1
 have HB := am_ (Below.refl w.heap.size w)
 have H : ((pinfoldref11_ConfMay.f a0_0 a0_1 l0_2 l0_3 a0_4 a0_5 l0_6).bind fun t168 => (if t168 = true then ((pinfoldref11_TableMay_c.f l1).bind fun t169 => (if t169 = true then (if a2 ≥ 0 then (if a2 ≤ a4 then ((pinfoldref11_clientMay_c.f a3).bind fun t170 => (some t170)) else (some false)) else (some false)) else (some false))) else (some false))) = some r := h
 clear h
 replace H := e4_ H
 obtain ⟨t168, A60, H⟩ := H
 replace H : (if t168 = true then ((pinfoldref11_TableMay_c.f l1).bind fun t169 => (if t169 = true then (if a2 ≥ 0 then (if a2 ≤ a4 then ((pinfoldref11_clientMay_c.f a3).bind fun t170 => (some t170)) else (some false)) else (some false)) else (some false))) else (some false)) = some r := H
 have A6 := am_ A60
 clear A60
 by_cases c7 : t168 = true
 ·subst c7
  have H1 : ((pinfoldref11_TableMay_c.f l1).bind fun t169 => (if t169 = true then (if a2 ≥ 0 then (if a2 ≤ a4 then ((pinfoldref11_clientMay_c.f a3).bind fun t170 => (some t170)) else (some false)) else (some false)) else (some false))) = some r := by rw [if_pos rfl] at H; exact H
  clear H
  have H := H1
  clear H1
  replace H := e4_ H
  obtain ⟨t169, A80, H⟩ := H
  replace H : (if t169 = true then (if a2 ≥ 0 then (if a2 ≤ a4 then ((pinfoldref11_clientMay_c.f a3).bind fun t170 => (some t170)) else (some false)) else (some false)) else (some false)) = some r := H
  have A8 := am_ A80
  clear A80
  by_cases c9 : t169 = true
  ·subst c9
   have H1 : (if a2 ≥ 0 then (if a2 ≤ a4 then ((pinfoldref11_clientMay_c.f a3).bind fun t170 => (some t170)) else (some false)) else (some false)) = some r := by rw [if_pos rfl] at H; exact H
   clear H
   have H := H1
   clear H1
   by_cases c10 : a2 ≥ 0
   ·rw [if_pos c10] at H
    have c10b0 : decide (0 ≤ a2) = true := decide_eq_true c10
    clear c10
    by_cases c11 : a2 ≤ a4
    ·rw [if_pos c11] at H
     have c11b0 : decide (a2 ≤ a4) = true := decide_eq_true c11
     clear c11
     replace H := e4_ H
     obtain ⟨t170, A120, H⟩ := H
     replace H : (some t170) = some r := H
     have A12 := am_ A120
     clear A120
     obtain rfl := e5_ H
     go_enter Tryd.func37, Tryd.ntmps37
     go_wp2_with (first | ((with_reducible refine gate_dst (N := 5) rfl ?_); refine box_event ?hg (N := 5) ?hd (cs := #[.int .i64 a0_0, .int .i64 a0_1, .slice A0_2 l0_2.length c0_2, .slice A0_3 l0_3.length c0_3, .int .i64 a0_4, .string a0_5, .slice A0_6 l0_6.length c0_6]) (t := 26) ?hr ?_; (case hd => rfl); (case hg => rfl); (case hr => first | (go_simp; done) | (go_simp; rfl)); intro gb167 hg w13 hbox hb; have n0_ := am_ (bt_ (by repeat (with_reducible first | exact HB.out | apply p3_ | apply p1_ | apply p2_)) hb); have n1_ := am_ (hbox); have n2_ := am_ ((by rw [hg]; exact (bz_ (by repeat (with_reducible first | exact HB.out | apply p3_ | apply p1_ | apply p2_))) : w.heap.size ≤ gb167)); have n3_ := am_ ((by rw [hg]; exact (bz_ (by repeat (with_reducible first | exact HB.out | apply p3_ | apply p1_ | apply p2_))) : w.heap.size ≤ gb167)); clear HB; have HB := n0_; have BK167 := n1_; have GW167 := n2_; have GE167 := n3_; clear n0_ n1_ n2_ n3_; clear hb hbox hg; have hcz14_0 : w13.cell? ⟨gb167, 0, none⟩ = some (.int .i64 a0_0) := (bc_ BK167.out 0).trans rfl; have hcz14_1 : w13.cell? ⟨gb167, 1, none⟩ = some (.int .i64 a0_1) := (bc_ BK167.out 1).trans rfl; have hcz14_2 : w13.cell? ⟨gb167, 2, none⟩ = some (.slice A0_2 l0_2.length c0_2) := (bc_ BK167.out 2).trans rfl; have hcz14_3 : w13.cell? ⟨gb167, 3, none⟩ = some (.slice A0_3 l0_3.length c0_3) := (bc_ BK167.out 3).trans rfl; have hcz14_4 : w13.cell? ⟨gb167, 4, none⟩ = some (.int .i64 a0_4) := (bc_ BK167.out 4).trans rfl; have hcz14_5 : w13.cell? ⟨gb167, 5, none⟩ = some (.string a0_5) := (bc_ BK167.out 5).trans rfl; have hcz14_6 : w13.cell? ⟨gb167, 6, none⟩ = some (.slice A0_6 l0_6.length c0_6) := (bc_ BK167.out 6).trans rfl; have hfz14_0 := bf_ BK167.out 0; have hfz14_1 := bf_ BK167.out 1; have hfz14_2 := bf_ BK167.out 2; have hfz14_3 := bf_ BK167.out 3; have hfz14_4 := bf_ BK167.out 4; have hfz14_5 := bf_ BK167.out 5; have hfz14_6 := bf_ BK167.out 6) | ((with_reducible refine gate_callee (f := 57) rfl ?_); refine goesL_ (some 12) rfl rfl Tryd.func57 (by kernel_rfl) rfl #[.agg #[.int .i64 a0_0, .int .i64 a0_1, .slice A0_2 l0_2.length c0_2, .slice A0_3 l0_3.length c0_3, .int .i64 a0_4, .string a0_5, .slice A0_6 l0_6.length c0_6]] rfl (by (try simp only [List.map_toArray, List.map_cons, List.map_nil]); first | done | rfl | (simp only [List.length_drop, List.length_take]; rfl)) ?_; (with_reducible refine (pinfoldref11_ConfMay.calls a0_0 a0_1 _ _ l0_2 _ _ l0_3 a0_4 a0_5 _ _ l0_6 true _ ?side1 ?side2 ?side3 ?side4 ?side5 ?side6 A6.out).mono ?_); (case side1 => repeat (first | exact (c4_ HR0_2.out HB.out) | (with_reducible refine c1_ ?_ _) | (with_reducible refine c2_ ?_ _) | (with_reducible refine c3_ ?_))); (case side2 => exact HC0_2.out); (case side3 => repeat (first | exact (c4_ HR0_3.out HB.out) | (with_reducible refine c1_ ?_ _) | (with_reducible refine c2_ ?_ _) | (with_reducible refine c3_ ?_))); (case side4 => exact HC0_3.out); (case side5 => repeat (first | exact (c4_ HR0_6.out HB.out) | (with_reducible refine c1_ ?_ _) | (with_reducible refine c2_ ?_ _) | (with_reducible refine c3_ ?_))); (case side6 => exact HC0_6.out); rintro e w15 ⟨rfl, hb⟩; refine ⟨_, rfl, ?_⟩; have n0_ := am_ (kb_ (g := gb167) (o := .cells #[.int .i64 a0_0, .int .i64 a0_1, .slice A0_2 l0_2.length c0_2, .slice A0_3 l0_3.length c0_3, .int .i64 a0_4, .string a0_5, .slice A0_6 l0_6.length c0_6] 26 (0, 0)) (by (with_reducible repeat (first | refine k2_ ?_ _ | refine k3_ ?_ | refine k1_ ?_ _)); exact BK167.out) hb); have n1_ := am_ (bt_ (by repeat (with_reducible first | exact HB.out | apply p3_ | apply p1_ | apply p2_ | refine bs_ ?_ GE167.out)) hb); clear BK167; clear HB; have BK167 := n0_; have HB := n1_; clear n0_ n1_; (try clear hb)) | (go_at_call 60; (with_reducible refine (pinfoldref11_TableMay_c.calls _ _ l1 true _ ?side1 ?side2 A8.out).mono ?_); (case side1 => repeat (first | exact (c4_ HR1.out HB.out) | (with_reducible refine c1_ ?_ _) | (with_reducible refine c2_ ?_ _) | (with_reducible refine c3_ ?_))); (case side2 => exact HC1.out); rintro e w16 ⟨rfl, hb⟩; have n0_ := am_ (kb_ (g := gb167) (o := .cells #[.int .i64 a0_0, .int .i64 a0_1, .slice A0_2 l0_2.length c0_2, .slice A0_3 l0_3.length c0_3, .int .i64 a0_4, .string a0_5, .slice A0_6 l0_6.length c0_6] 26 (0, 0)) (by (with_reducible repeat (first | refine k2_ ?_ _ | refine k3_ ?_ | refine k1_ ?_ _)); exact BK167.out) hb); have n1_ := am_ (bt_ (by repeat (with_reducible first | exact HB.out | apply p3_ | apply p1_ | apply p2_ | refine bs_ ?_ GE167.out)) hb); clear BK167; clear HB; have BK167 := n0_; have HB := n1_; clear n0_ n1_; (try clear hb)) | (go_at_call 61; (with_reducible refine (pinfoldref11_clientMay_c.calls a3 t170 _ A12.out).mono ?_); rintro e w' ⟨rfl, ⟨nd, rfl⟩⟩))
     go_ret
     exact ⟨by first | rfl | (simp [errW_none, errW_some] <;> rfl) | (simp [*, errW_none, errW_some] <;> rfl), by repeat (with_reducible first | exact HB.out | apply p3_ | apply p1_ | apply p2_ | refine bs_ ?_ GE167.out)⟩
    rw [if_neg c11] at H
    have c11b0 : decide (a2 ≤ a4) = false := decide_eq_false c11
    clear c11
    obtain rfl := e5_ H
    go_enter Tryd.func37, Tryd.ntmps37
    go_wp2_with (first | ((with_reducible refine gate_dst (N := 5) rfl ?_); refine box_event ?hg (N := 5) ?hd (cs := #[.int .i64 a0_0, .int .i64 a0_1, .slice A0_2 l0_2.length c0_2, .slice A0_3 l0_3.length c0_3, .int .i64 a0_4, .string a0_5, .slice A0_6 l0_6.length c0_6]) (t := 26) ?hr ?_; (case hd => rfl); (case hg => rfl); (case hr => first | (go_simp; done) | (go_simp; rfl)); intro gb167 hg w17 hbox hb; have n0_ := am_ (bt_ (by repeat (with_reducible first | exact HB.out | apply p3_ | apply p1_ | apply p2_)) hb); have n1_ := am_ (hbox); have n2_ := am_ ((by rw [hg]; exact (bz_ (by repeat (with_reducible first | exact HB.out | apply p3_ | apply p1_ | apply p2_))) : w.heap.size ≤ gb167)); have n3_ := am_ ((by rw [hg]; exact (bz_ (by repeat (with_reducible first | exact HB.out | apply p3_ | apply p1_ | apply p2_))) : w.heap.size ≤ gb167)); clear HB; have HB := n0_; have BK167 := n1_; have GW167 := n2_; have GE167 := n3_; clear n0_ n1_ n2_ n3_; clear hb hbox hg; have hcz18_0 : w17.cell? ⟨gb167, 0, none⟩ = some (.int .i64 a0_0) := (bc_ BK167.out 0).trans rfl; have hcz18_1 : w17.cell? ⟨gb167, 1, none⟩ = some (.int .i64 a0_1) := (bc_ BK167.out 1).trans rfl; have hcz18_2 : w17.cell? ⟨gb167, 2, none⟩ = some (.slice A0_2 l0_2.length c0_2) := (bc_ BK167.out 2).trans rfl; have hcz18_3 : w17.cell? ⟨gb167, 3, none⟩ = some (.slice A0_3 l0_3.length c0_3) := (bc_ BK167.out 3).trans rfl; have hcz18_4 : w17.cell? ⟨gb167, 4, none⟩ = some (.int .i64 a0_4) := (bc_ BK167.out 4).trans rfl; have hcz18_5 : w17.cell? ⟨gb167, 5, none⟩ = some (.string a0_5) := (bc_ BK167.out 5).trans rfl; have hcz18_6 : w17.cell? ⟨gb167, 6, none⟩ = some (.slice A0_6 l0_6.length c0_6) := (bc_ BK167.out 6).trans rfl; have hfz18_0 := bf_ BK167.out 0; have hfz18_1 := bf_ BK167.out 1; have hfz18_2 := bf_ BK167.out 2; have hfz18_3 := bf_ BK167.out 3; have hfz18_4 := bf_ BK167.out 4; have hfz18_5 := bf_ BK167.out 5; have hfz18_6 := bf_ BK167.out 6) | ((with_reducible refine gate_callee (f := 57) rfl ?_); refine goesL_ (some 12) rfl rfl Tryd.func57 (by kernel_rfl) rfl #[.agg #[.int .i64 a0_0, .int .i64 a0_1, .slice A0_2 l0_2.length c0_2, .slice A0_3 l0_3.length c0_3, .int .i64 a0_4, .string a0_5, .slice A0_6 l0_6.length c0_6]] rfl (by (try simp only [List.map_toArray, List.map_cons, List.map_nil]); first | done | rfl | (simp only [List.length_drop, List.length_take]; rfl)) ?_; (with_reducible refine (pinfoldref11_ConfMay.calls a0_0 a0_1 _ _ l0_2 _ _ l0_3 a0_4 a0_5 _ _ l0_6 true _ ?side1 ?side2 ?side3 ?side4 ?side5 ?side6 A6.out).mono ?_); (case side1 => repeat (first | exact (c4_ HR0_2.out HB.out) | (with_reducible refine c1_ ?_ _) | (with_reducible refine c2_ ?_ _) | (with_reducible refine c3_ ?_))); (case side2 => exact HC0_2.out); (case side3 => repeat (first | exact (c4_ HR0_3.out HB.out) | (with_reducible refine c1_ ?_ _) | (with_reducible refine c2_ ?_ _) | (with_reducible refine c3_ ?_))); (case side4 => exact HC0_3.out); (case side5 => repeat (first | exact (c4_ HR0_6.out HB.out) | (with_reducible refine c1_ ?_ _) | (with_reducible refine c2_ ?_ _) | (with_reducible refine c3_ ?_))); (case side6 => exact HC0_6.out); rintro e w19 ⟨rfl, hb⟩; refine ⟨_, rfl, ?_⟩; have n0_ := am_ (kb_ (g := gb167) (o := .cells #[.int .i64 a0_0, .int .i64 a0_1, .slice A0_2 l0_2.length c0_2, .slice A0_3 l0_3.length c0_3, .int .i64 a0_4, .string a0_5, .slice A0_6 l0_6.length c0_6] 26 (0, 0)) (by (with_reducible repeat (first | refine k2_ ?_ _ | refine k3_ ?_ | refine k1_ ?_ _)); exact BK167.out) hb); have n1_ := am_ (bt_ (by repeat (with_reducible first | exact HB.out | apply p3_ | apply p1_ | apply p2_ | refine bs_ ?_ GE167.out)) hb); clear BK167; clear HB; have BK167 := n0_; have HB := n1_; clear n0_ n1_; (try clear hb)) | (go_at_call 60; (with_reducible refine (pinfoldref11_TableMay_c.calls _ _ l1 true _ ?side1 ?side2 A8.out).mono ?_); (case side1 => repeat (first | exact (c4_ HR1.out HB.out) | (with_reducible refine c1_ ?_ _) | (with_reducible refine c2_ ?_ _) | (with_reducible refine c3_ ?_))); (case side2 => exact HC1.out); rintro e w20 ⟨rfl, hb⟩; have n0_ := am_ (kb_ (g := gb167) (o := .cells #[.int .i64 a0_0, .int .i64 a0_1, .slice A0_2 l0_2.length c0_2, .slice A0_3 l0_3.length c0_3, .int .i64 a0_4, .string a0_5, .slice A0_6 l0_6.length c0_6] 26 (0, 0)) (by (with_reducible repeat (first | refine k2_ ?_ _ | refine k3_ ?_ | refine k1_ ?_ _)); exact BK167.out) hb); have n1_ := am_ (bt_ (by repeat (with_reducible first | exact HB.out | apply p3_ | apply p1_ | apply p2_ | refine bs_ ?_ GE167.out)) hb); clear BK167; clear HB; have BK167 := n0_; have HB := n1_; clear n0_ n1_; (try clear hb)))
    go_ret
    exact ⟨by first | rfl | (simp [errW_none, errW_some] <;> rfl) | (simp [*, errW_none, errW_some] <;> rfl), by repeat (with_reducible first | exact HB.out | apply p3_ | apply p1_ | apply p2_ | refine bs_ ?_ GE167.out)⟩
   rw [if_neg c10] at H
   have c10b0 : decide (0 ≤ a2) = false := decide_eq_false c10
   clear c10
   obtain rfl := e5_ H
   go_enter Tryd.func37, Tryd.ntmps37
   go_wp2_with (first | ((with_reducible refine gate_dst (N := 5) rfl ?_); refine box_event ?hg (N := 5) ?hd (cs := #[.int .i64 a0_0, .int .i64 a0_1, .slice A0_2 l0_2.length c0_2, .slice A0_3 l0_3.length c0_3, .int .i64 a0_4, .string a0_5, .slice A0_6 l0_6.length c0_6]) (t := 26) ?hr ?_; (case hd => rfl); (case hg => rfl); (case hr => first | (go_simp; done) | (go_simp; rfl)); intro gb167 hg w21 hbox hb; have n0_ := am_ (bt_ (by repeat (with_reducible first | exact HB.out | apply p3_ | apply p1_ | apply p2_)) hb); have n1_ := am_ (hbox); have n2_ := am_ ((by rw [hg]; exact (bz_ (by repeat (with_reducible first | exact HB.out | apply p3_ | apply p1_ | apply p2_))) : w.heap.size ≤ gb167)); have n3_ := am_ ((by rw [hg]; exact (bz_ (by repeat (with_reducible first | exact HB.out | apply p3_ | apply p1_ | apply p2_))) : w.heap.size ≤ gb167)); clear HB; have HB := n0_; have BK167 := n1_; have GW167 := n2_; have GE167 := n3_; clear n0_ n1_ n2_ n3_; clear hb hbox hg; have hcz22_0 : w21.cell? ⟨gb167, 0, none⟩ = some (.int .i64 a0_0) := (bc_ BK167.out 0).trans rfl; have hcz22_1 : w21.cell? ⟨gb167, 1, none⟩ = some (.int .i64 a0_1) := (bc_ BK167.out 1).trans rfl; have hcz22_2 : w21.cell? ⟨gb167, 2, none⟩ = some (.slice A0_2 l0_2.length c0_2) := (bc_ BK167.out 2).trans rfl; have hcz22_3 : w21.cell? ⟨gb167, 3, none⟩ = some (.slice A0_3 l0_3.length c0_3) := (bc_ BK167.out 3).trans rfl; have hcz22_4 : w21.cell? ⟨gb167, 4, none⟩ = some (.int .i64 a0_4) := (bc_ BK167.out 4).trans rfl; have hcz22_5 : w21.cell? ⟨gb167, 5, none⟩ = some (.string a0_5) := (bc_ BK167.out 5).trans rfl; have hcz22_6 : w21.cell? ⟨gb167, 6, none⟩ = some (.slice A0_6 l0_6.length c0_6) := (bc_ BK167.out 6).trans rfl; have hfz22_0 := bf_ BK167.out 0; have hfz22_1 := bf_ BK167.out 1; have hfz22_2 := bf_ BK167.out 2; have hfz22_3 := bf_ BK167.out 3; have hfz22_4 := bf_ BK167.out 4; have hfz22_5 := bf_ BK167.out 5; have hfz22_6 := bf_ BK167.out 6) | ((with_reducible refine gate_callee (f := 57) rfl ?_); refine goesL_ (some 12) rfl rfl Tryd.func57 (by kernel_rfl) rfl #[.agg #[.int .i64 a0_0, .int .i64 a0_1, .slice A0_2 l0_2.length c0_2, .slice A0_3 l0_3.length c0_3, .int .i64 a0_4, .string a0_5, .slice A0_6 l0_6.length c0_6]] rfl (by (try simp only [List.map_toArray, List.map_cons, List.map_nil]); first | done | rfl | (simp only [List.length_drop, List.length_take]; rfl)) ?_; (with_reducible refine (pinfoldref11_ConfMay.calls a0_0 a0_1 _ _ l0_2 _ _ l0_3 a0_4 a0_5 _ _ l0_6 true _ ?side1 ?side2 ?side3 ?side4 ?side5 ?side6 A6.out).mono ?_); (case side1 => repeat (first | exact (c4_ HR0_2.out HB.out) | (with_reducible refine c1_ ?_ _) | (with_reducible refine c2_ ?_ _) | (with_reducible refine c3_ ?_))); (case side2 => exact HC0_2.out); (case side3 => repeat (first | exact (c4_ HR0_3.out HB.out) | (with_reducible refine c1_ ?_ _) | (with_reducible refine c2_ ?_ _) | (with_reducible refine c3_ ?_))); (case side4 => exact HC0_3.out); (case side5 => repeat (first | exact (c4_ HR0_6.out HB.out) | (with_reducible refine c1_ ?_ _) | (with_reducible refine c2_ ?_ _) | (with_reducible refine c3_ ?_))); (case side6 => exact HC0_6.out); rintro e w23 ⟨rfl, hb⟩; refine ⟨_, rfl, ?_⟩; have n0_ := am_ (kb_ (g := gb167) (o := .cells #[.int .i64 a0_0, .int .i64 a0_1, .slice A0_2 l0_2.length c0_2, .slice A0_3 l0_3.length c0_3, .int .i64 a0_4, .string a0_5, .slice A0_6 l0_6.length c0_6] 26 (0, 0)) (by (with_reducible repeat (first | refine k2_ ?_ _ | refine k3_ ?_ | refine k1_ ?_ _)); exact BK167.out) hb); have n1_ := am_ (bt_ (by repeat (with_reducible first | exact HB.out | apply p3_ | apply p1_ | apply p2_ | refine bs_ ?_ GE167.out)) hb); clear BK167; clear HB; have BK167 := n0_; have HB := n1_; clear n0_ n1_; (try clear hb)) | (go_at_call 60; (with_reducible refine (pinfoldref11_TableMay_c.calls _ _ l1 true _ ?side1 ?side2 A8.out).mono ?_); (case side1 => repeat (first | exact (c4_ HR1.out HB.out) | (with_reducible refine c1_ ?_ _) | (with_reducible refine c2_ ?_ _) | (with_reducible refine c3_ ?_))); (case side2 => exact HC1.out); rintro e w24 ⟨rfl, hb⟩; have n0_ := am_ (kb_ (g := gb167) (o := .cells #[.int .i64 a0_0, .int .i64 a0_1, .slice A0_2 l0_2.length c0_2, .slice A0_3 l0_3.length c0_3, .int .i64 a0_4, .string a0_5, .slice A0_6 l0_6.length c0_6] 26 (0, 0)) (by (with_reducible repeat (first | refine k2_ ?_ _ | refine k3_ ?_ | refine k1_ ?_ _)); exact BK167.out) hb); have n1_ := am_ (bt_ (by repeat (with_reducible first | exact HB.out | apply p3_ | apply p1_ | apply p2_ | refine bs_ ?_ GE167.out)) hb); clear BK167; clear HB; have BK167 := n0_; have HB := n1_; clear n0_ n1_; (try clear hb)))
   go_ret
   exact ⟨by first | rfl | (simp [errW_none, errW_some] <;> rfl) | (simp [*, errW_none, errW_some] <;> rfl), by repeat (with_reducible first | exact HB.out | apply p3_ | apply p1_ | apply p2_ | refine bs_ ?_ GE167.out)⟩
  replace c9 := e3_ c9
  subst c9
  have H1 : (some false) = some r := by rw [if_neg (show ¬ (false = true) by decide)] at H; exact H
  clear H
  have H := H1
  clear H1
  obtain rfl := e5_ H
  go_enter Tryd.func37, Tryd.ntmps37
  go_wp2_with (first | ((with_reducible refine gate_dst (N := 5) rfl ?_); refine box_event ?hg (N := 5) ?hd (cs := #[.int .i64 a0_0, .int .i64 a0_1, .slice A0_2 l0_2.length c0_2, .slice A0_3 l0_3.length c0_3, .int .i64 a0_4, .string a0_5, .slice A0_6 l0_6.length c0_6]) (t := 26) ?hr ?_; (case hd => rfl); (case hg => rfl); (case hr => first | (go_simp; done) | (go_simp; rfl)); intro gb167 hg w25 hbox hb; have n0_ := am_ (bt_ (by repeat (with_reducible first | exact HB.out | apply p3_ | apply p1_ | apply p2_)) hb); have n1_ := am_ (hbox); have n2_ := am_ ((by rw [hg]; exact (bz_ (by repeat (with_reducible first | exact HB.out | apply p3_ | apply p1_ | apply p2_))) : w.heap.size ≤ gb167)); have n3_ := am_ ((by rw [hg]; exact (bz_ (by repeat (with_reducible first | exact HB.out | apply p3_ | apply p1_ | apply p2_))) : w.heap.size ≤ gb167)); clear HB; have HB := n0_; have BK167 := n1_; have GW167 := n2_; have GE167 := n3_; clear n0_ n1_ n2_ n3_; clear hb hbox hg; have hcz26_0 : w25.cell? ⟨gb167, 0, none⟩ = some (.int .i64 a0_0) := (bc_ BK167.out 0).trans rfl; have hcz26_1 : w25.cell? ⟨gb167, 1, none⟩ = some (.int .i64 a0_1) := (bc_ BK167.out 1).trans rfl; have hcz26_2 : w25.cell? ⟨gb167, 2, none⟩ = some (.slice A0_2 l0_2.length c0_2) := (bc_ BK167.out 2).trans rfl; have hcz26_3 : w25.cell? ⟨gb167, 3, none⟩ = some (.slice A0_3 l0_3.length c0_3) := (bc_ BK167.out 3).trans rfl; have hcz26_4 : w25.cell? ⟨gb167, 4, none⟩ = some (.int .i64 a0_4) := (bc_ BK167.out 4).trans rfl; have hcz26_5 : w25.cell? ⟨gb167, 5, none⟩ = some (.string a0_5) := (bc_ BK167.out 5).trans rfl; have hcz26_6 : w25.cell? ⟨gb167, 6, none⟩ = some (.slice A0_6 l0_6.length c0_6) := (bc_ BK167.out 6).trans rfl; have hfz26_0 := bf_ BK167.out 0; have hfz26_1 := bf_ BK167.out 1; have hfz26_2 := bf_ BK167.out 2; have hfz26_3 := bf_ BK167.out 3; have hfz26_4 := bf_ BK167.out 4; have hfz26_5 := bf_ BK167.out 5; have hfz26_6 := bf_ BK167.out 6) | ((with_reducible refine gate_callee (f := 57) rfl ?_); refine goesL_ (some 12) rfl rfl Tryd.func57 (by kernel_rfl) rfl #[.agg #[.int .i64 a0_0, .int .i64 a0_1, .slice A0_2 l0_2.length c0_2, .slice A0_3 l0_3.length c0_3, .int .i64 a0_4, .string a0_5, .slice A0_6 l0_6.length c0_6]] rfl (by (try simp only [List.map_toArray, List.map_cons, List.map_nil]); first | done | rfl | (simp only [List.length_drop, List.length_take]; rfl)) ?_; (with_reducible refine (pinfoldref11_ConfMay.calls a0_0 a0_1 _ _ l0_2 _ _ l0_3 a0_4 a0_5 _ _ l0_6 true _ ?side1 ?side2 ?side3 ?side4 ?side5 ?side6 A6.out).mono ?_); (case side1 => repeat (first | exact (c4_ HR0_2.out HB.out) | (with_reducible refine c1_ ?_ _) | (with_reducible refine c2_ ?_ _) | (with_reducible refine c3_ ?_))); (case side2 => exact HC0_2.out); (case side3 => repeat (first | exact (c4_ HR0_3.out HB.out) | (with_reducible refine c1_ ?_ _) | (with_reducible refine c2_ ?_ _) | (with_reducible refine c3_ ?_))); (case side4 => exact HC0_3.out); (case side5 => repeat (first | exact (c4_ HR0_6.out HB.out) | (with_reducible refine c1_ ?_ _) | (with_reducible refine c2_ ?_ _) | (with_reducible refine c3_ ?_))); (case side6 => exact HC0_6.out); rintro e w27 ⟨rfl, hb⟩; refine ⟨_, rfl, ?_⟩; have n0_ := am_ (kb_ (g := gb167) (o := .cells #[.int .i64 a0_0, .int .i64 a0_1, .slice A0_2 l0_2.length c0_2, .slice A0_3 l0_3.length c0_3, .int .i64 a0_4, .string a0_5, .slice A0_6 l0_6.length c0_6] 26 (0, 0)) (by (with_reducible repeat (first | refine k2_ ?_ _ | refine k3_ ?_ | refine k1_ ?_ _)); exact BK167.out) hb); have n1_ := am_ (bt_ (by repeat (with_reducible first | exact HB.out | apply p3_ | apply p1_ | apply p2_ | refine bs_ ?_ GE167.out)) hb); clear BK167; clear HB; have BK167 := n0_; have HB := n1_; clear n0_ n1_; (try clear hb)) | (go_at_call 60; (with_reducible refine (pinfoldref11_TableMay_c.calls _ _ l1 false _ ?side1 ?side2 A8.out).mono ?_); (case side1 => repeat (first | exact (c4_ HR1.out HB.out) | (with_reducible refine c1_ ?_ _) | (with_reducible refine c2_ ?_ _) | (with_reducible refine c3_ ?_))); (case side2 => exact HC1.out); rintro e w28 ⟨rfl, hb⟩; have n0_ := am_ (kb_ (g := gb167) (o := .cells #[.int .i64 a0_0, .int .i64 a0_1, .slice A0_2 l0_2.length c0_2, .slice A0_3 l0_3.length c0_3, .int .i64 a0_4, .string a0_5, .slice A0_6 l0_6.length c0_6] 26 (0, 0)) (by (with_reducible repeat (first | refine k2_ ?_ _ | refine k3_ ?_ | refine k1_ ?_ _)); exact BK167.out) hb); have n1_ := am_ (bt_ (by repeat (with_reducible first | exact HB.out | apply p3_ | apply p1_ | apply p2_ | refine bs_ ?_ GE167.out)) hb); clear BK167; clear HB; have BK167 := n0_; have HB := n1_; clear n0_ n1_; (try clear hb)))
  go_ret
  exact ⟨by first | rfl | (simp [errW_none, errW_some] <;> rfl) | (simp [*, errW_none, errW_some] <;> rfl), by repeat (with_reducible first | exact HB.out | apply p3_ | apply p1_ | apply p2_ | refine bs_ ?_ GE167.out)⟩
 replace c7 := e3_ c7
 subst c7
 have H1 : (some false) = some r := by rw [if_neg (show ¬ (false = true) by decide)] at H; exact H
 clear H
 have H := H1
 clear H1
 obtain rfl := e5_ H
 go_enter Tryd.func37, Tryd.ntmps37
 go_wp2_with (first | ((with_reducible refine gate_dst (N := 5) rfl ?_); refine box_event ?hg (N := 5) ?hd (cs := #[.int .i64 a0_0, .int .i64 a0_1, .slice A0_2 l0_2.length c0_2, .slice A0_3 l0_3.length c0_3, .int .i64 a0_4, .string a0_5, .slice A0_6 l0_6.length c0_6]) (t := 26) ?hr ?_; (case hd => rfl); (case hg => rfl); (case hr => first | (go_simp; done) | (go_simp; rfl)); intro gb167 hg w29 hbox hb; have n0_ := am_ (bt_ (by repeat (with_reducible first | exact HB.out | apply p3_ | apply p1_ | apply p2_)) hb); have n1_ := am_ (hbox); have n2_ := am_ ((by rw [hg]; exact (bz_ (by repeat (with_reducible first | exact HB.out | apply p3_ | apply p1_ | apply p2_))) : w.heap.size ≤ gb167)); have n3_ := am_ ((by rw [hg]; exact (bz_ (by repeat (with_reducible first | exact HB.out | apply p3_ | apply p1_ | apply p2_))) : w.heap.size ≤ gb167)); clear HB; have HB := n0_; have BK167 := n1_; have GW167 := n2_; have GE167 := n3_; clear n0_ n1_ n2_ n3_; clear hb hbox hg; have hcz30_0 : w29.cell? ⟨gb167, 0, none⟩ = some (.int .i64 a0_0) := (bc_ BK167.out 0).trans rfl; have hcz30_1 : w29.cell? ⟨gb167, 1, none⟩ = some (.int .i64 a0_1) := (bc_ BK167.out 1).trans rfl; have hcz30_2 : w29.cell? ⟨gb167, 2, none⟩ = some (.slice A0_2 l0_2.length c0_2) := (bc_ BK167.out 2).trans rfl; have hcz30_3 : w29.cell? ⟨gb167, 3, none⟩ = some (.slice A0_3 l0_3.length c0_3) := (bc_ BK167.out 3).trans rfl; have hcz30_4 : w29.cell? ⟨gb167, 4, none⟩ = some (.int .i64 a0_4) := (bc_ BK167.out 4).trans rfl; have hcz30_5 : w29.cell? ⟨gb167, 5, none⟩ = some (.string a0_5) := (bc_ BK167.out 5).trans rfl; have hcz30_6 : w29.cell? ⟨gb167, 6, none⟩ = some (.slice A0_6 l0_6.length c0_6) := (bc_ BK167.out 6).trans rfl; have hfz30_0 := bf_ BK167.out 0; have hfz30_1 := bf_ BK167.out 1; have hfz30_2 := bf_ BK167.out 2; have hfz30_3 := bf_ BK167.out 3; have hfz30_4 := bf_ BK167.out 4; have hfz30_5 := bf_ BK167.out 5; have hfz30_6 := bf_ BK167.out 6) | ((with_reducible refine gate_callee (f := 57) rfl ?_); refine goesL_ (some 12) rfl rfl Tryd.func57 (by kernel_rfl) rfl #[.agg #[.int .i64 a0_0, .int .i64 a0_1, .slice A0_2 l0_2.length c0_2, .slice A0_3 l0_3.length c0_3, .int .i64 a0_4, .string a0_5, .slice A0_6 l0_6.length c0_6]] rfl (by (try simp only [List.map_toArray, List.map_cons, List.map_nil]); first | done | rfl | (simp only [List.length_drop, List.length_take]; rfl)) ?_; (with_reducible refine (pinfoldref11_ConfMay.calls a0_0 a0_1 _ _ l0_2 _ _ l0_3 a0_4 a0_5 _ _ l0_6 false _ ?side1 ?side2 ?side3 ?side4 ?side5 ?side6 A6.out).mono ?_); (case side1 => repeat (first | exact (c4_ HR0_2.out HB.out) | (with_reducible refine c1_ ?_ _) | (with_reducible refine c2_ ?_ _) | (with_reducible refine c3_ ?_))); (case side2 => exact HC0_2.out); (case side3 => repeat (first | exact (c4_ HR0_3.out HB.out) | (with_reducible refine c1_ ?_ _) | (with_reducible refine c2_ ?_ _) | (with_reducible refine c3_ ?_))); (case side4 => exact HC0_3.out); (case side5 => repeat (first | exact (c4_ HR0_6.out HB.out) | (with_reducible refine c1_ ?_ _) | (with_reducible refine c2_ ?_ _) | (with_reducible refine c3_ ?_))); (case side6 => exact HC0_6.out); rintro e w31 ⟨rfl, hb⟩; refine ⟨_, rfl, ?_⟩; have n0_ := am_ (kb_ (g := gb167) (o := .cells #[.int .i64 a0_0, .int .i64 a0_1, .slice A0_2 l0_2.length c0_2, .slice A0_3 l0_3.length c0_3, .int .i64 a0_4, .string a0_5, .slice A0_6 l0_6.length c0_6] 26 (0, 0)) (by (with_reducible repeat (first | refine k2_ ?_ _ | refine k3_ ?_ | refine k1_ ?_ _)); exact BK167.out) hb); have n1_ := am_ (bt_ (by repeat (with_reducible first | exact HB.out | apply p3_ | apply p1_ | apply p2_ | refine bs_ ?_ GE167.out)) hb); clear BK167; clear HB; have BK167 := n0_; have HB := n1_; clear n0_ n1_; (try clear hb)))
 go_ret
 exact ⟨by first | rfl | (simp [errW_none, errW_some] <;> rfl) | (simp [*, errW_none, errW_some] <;> rfl), by repeat (with_reducible first | exact HB.out | apply p3_ | apply p1_ | apply p2_ | refine bs_ ?_ GE167.out)⟩

/-! ### pinfoldref11_asked_c: function 37 -/
def pinfoldref11_asked_c.f (a0_0 : Int) (a0_1 : Int) (l0_2 : List Int) (l0_3 : List S72) (a0_4 : Int) (a0_5 : ByteArray) (l0_6 : List S74) (l1 : List S42) (a2 : Int) (a3 : ByteArray) (a4 : Int) : Option Bool := if confFitR l0_2 l0_3 a0_5 l0_6 ∧ tabFitR l1 then some (askedB a0_0 a0_1 l0_2 l0_3 a0_4 a0_5 l0_6 l1 a2 a3 a4) else none
theorem refasked_c (a0_0 : Int) (a0_1 : Int) (l0_2 : List Int) (l0_3 : List S72) (a0_4 : Int) (a0_5 : ByteArray) (l0_6 : List S74) (l1 : List S42) (a2 : Int) (a3 : ByteArray) (a4 : Int) (hs : confFitR l0_2 l0_3 a0_5 l0_6 ∧ tabFitR l1) : pinfoldref11_asked.f a0_0 a0_1 l0_2 l0_3 a0_4 a0_5 l0_6 l1 a2 a3 a4 = some (askedB a0_0 a0_1 l0_2 l0_3 a0_4 a0_5 l0_6 l1 a2 a3 a4) := by
 unfold pinfoldref11_asked.f pinfoldref11_ConfMay.f pinfoldref11_TableMay_c.f pinfoldref11_clientMay_c.f askedB
 rw [if_pos hs.1, if_pos hs.2, Option.bind_some]
 cases confB a0_0 a0_1 l0_2 l0_3 a0_4 a0_5 l0_6 with
 | false => rfl
 | true =>
  rw [if_pos rfl, Option.bind_some, Bool.true_and]
  cases tableB l1 with
  | false => rfl
  | true =>
   rw [if_pos rfl, Bool.true_and]
   by_cases q1 : a2 ≥ 0
   ·rw [if_pos q1]
    by_cases q2 : a2 ≤ a4
    ·rw [if_pos q2, decide_eq_true ⟨q1, q2⟩]
     rfl
    ·rw [if_neg q2, decide_eq_false (fun e => q2 e.2)]
     rfl
   ·rw [if_neg q1, decide_eq_false (fun e => q1 e.1)]
    rfl
theorem pinfoldref11_asked_c.calls (a0_0 : Int) (a0_1 : Int) (A0_2 : Option Addr) (c0_2 : Nat) (l0_2 : List Int) (A0_3 : Option Addr) (c0_3 : Nat) (l0_3 : List S72) (a0_4 : Int) (a0_5 : ByteArray) (A0_6 : Option Addr) (c0_6 : Nat) (l0_6 : List S74) (A1 : Option Addr) (c1 : Nat) (l1 : List S42) (a2 : Int) (a3 : ByteArray) (a4 : Int) (r : Bool) (w : World) (hr0_2 : Kd.C (Kd.int .i64) w A0_2 l0_2.length l0_2) (hc0_2 : l0_2.length ≤ c0_2) (hr0_3 : Kd.C k72 w A0_3 l0_3.length l0_3) (hc0_3 : l0_3.length ≤ c0_3) (hr0_6 : Kd.C k74 w A0_6 l0_6.length l0_6) (hc0_6 : l0_6.length ≤ c0_6) (hr1 : Kd.C k42 w A1 l1.length l1) (hc1 : l1.length ≤ c1) (h : pinfoldref11_asked_c.f a0_0 a0_1 l0_2 l0_3 a0_4 a0_5 l0_6 l1 a2 a3 a4 = some r) :
  Calls Tryd.prog 37 #[.agg #[.int .i64 a0_0, .int .i64 a0_1, .slice A0_2 l0_2.length c0_2, .slice A0_3 l0_3.length c0_3, .int .i64 a0_4, .string a0_5, .slice A0_6 l0_6.length c0_6], .slice A1 l1.length c1, .int .i64 a2, .string a3, .int .i64 a4] w fun e w' => e = .returned (.bool r) ∧ Below w.heap.size w w' := by
 unfold pinfoldref11_asked_c.f at h
 by_cases hs : confFitR l0_2 l0_3 a0_5 l0_6 ∧ tabFitR l1
 ·rw [if_pos hs] at h
  exact pinfoldref11_asked.calls a0_0 a0_1 A0_2 c0_2 l0_2 A0_3 c0_3 l0_3 a0_4 a0_5 A0_6 c0_6 l0_6 A1 c1 l1 a2 a3 a4 r w hr0_2 hc0_2 hr0_3 hc0_3 hr0_6 hc0_6 hr1 hc1 ((refasked_c a0_0 a0_1 l0_2 l0_3 a0_4 a0_5 l0_6 l1 a2 a3 a4 hs).trans h)
 ·rw [if_neg hs] at h
  cases h

/-! ### pinfoldref11_Live: function 25 -/
def pinfoldref11_Live.f (a0_0 : Int) (a0_1 : Int) (a0_2 : ByteArray) (a0_3 : Int) (a0_4 : ByteArray) (a0_5 : Bool) (a1 : Int) : Option (Bool) := (pinfoldref11_LeaseMay_c.f a0_0 a0_1 a0_2 a0_3 a0_4 a0_5).bind fun t172 => (if t172 = true then (if a0_1 = 0 then (some false) else (some (decide (a0_3 > a1)))) else (some false))
set_option maxHeartbeats 8000000 in
set_option maxRecDepth 100000 in
theorem pinfoldref11_Live.calls (a0_0 : Int) (a0_1 : Int) (a0_2 : ByteArray) (a0_3 : Int) (a0_4 : ByteArray) (a0_5 : Bool) (a1 : Int) (r : Bool) (w : World) (h : pinfoldref11_Live.f a0_0 a0_1 a0_2 a0_3 a0_4 a0_5 a1 = some r) :
  Calls Tryd.prog 25 #[.agg #[.int .i64 a0_0, .int .i64 a0_1, .string a0_2, .int .i64 a0_3, .string a0_4, .bool a0_5], .int .i64 a1] w fun e w' => e = .returned (.bool r) ∧ Below w.heap.size w w' := by
 have hu42 := Tryd.underlying42
 have HB := am_ (Below.refl w.heap.size w)
 have H : ((pinfoldref11_LeaseMay_c.f a0_0 a0_1 a0_2 a0_3 a0_4 a0_5).bind fun t172 => (if t172 = true then (if a0_1 = 0 then (some false) else (some (decide (a0_3 > a1)))) else (some false))) = some r := h
 clear h
 replace H := e4_ H
 obtain ⟨t172, A30, H⟩ := H
 replace H : (if t172 = true then (if a0_1 = 0 then (some false) else (some (decide (a0_3 > a1)))) else (some false)) = some r := H
 have A3 := am_ A30
 clear A30
 by_cases c4 : t172 = true
 ·subst c4
  have H1 : (if a0_1 = 0 then (some false) else (some (decide (a0_3 > a1)))) = some r := by rw [if_pos rfl] at H; exact H
  clear H
  have H := H1
  clear H1
  by_cases c5 : a0_1 = 0
  ·rw [if_pos c5] at H
   have c5b0 : (a0_1 == 0) = true := beq_iff_eq.mpr c5
   have c5b1 : (a0_1 != 0) = false := e1_ c5
   clear c5
   obtain rfl := e5_ H
   go_enter Tryd.func25, Tryd.ntmps25
   go_wp2_with (first | ((with_reducible refine gate_dst (N := 2) rfl ?_); refine box_event ?hg (N := 2) ?hd (cs := #[.int .i64 a0_0, .int .i64 a0_1, .string a0_2, .int .i64 a0_3, .string a0_4, .bool a0_5]) (t := 42) ?hr ?_; (case hd => rfl); (case hg => rfl); (case hr => first | (go_simp; done) | (go_simp; rfl)); intro gb171 hg w6 hbox hb; have n0_ := am_ (bt_ (by repeat (with_reducible first | exact HB.out | apply p3_ | apply p1_ | apply p2_)) hb); have n1_ := am_ (hbox); have n2_ := am_ ((by rw [hg]; exact (bz_ (by repeat (with_reducible first | exact HB.out | apply p3_ | apply p1_ | apply p2_))) : w.heap.size ≤ gb171)); have n3_ := am_ ((by rw [hg]; exact (bz_ (by repeat (with_reducible first | exact HB.out | apply p3_ | apply p1_ | apply p2_))) : w.heap.size ≤ gb171)); clear HB; have HB := n0_; have BK171 := n1_; have GW171 := n2_; have GE171 := n3_; clear n0_ n1_ n2_ n3_; clear hb hbox hg; have hcz7_0 : w6.cell? ⟨gb171, 0, none⟩ = some (.int .i64 a0_0) := (bc_ BK171.out 0).trans rfl; have hcz7_1 : w6.cell? ⟨gb171, 1, none⟩ = some (.int .i64 a0_1) := (bc_ BK171.out 1).trans rfl; have hcz7_2 : w6.cell? ⟨gb171, 2, none⟩ = some (.string a0_2) := (bc_ BK171.out 2).trans rfl; have hcz7_3 : w6.cell? ⟨gb171, 3, none⟩ = some (.int .i64 a0_3) := (bc_ BK171.out 3).trans rfl; have hcz7_4 : w6.cell? ⟨gb171, 4, none⟩ = some (.string a0_4) := (bc_ BK171.out 4).trans rfl; have hcz7_5 : w6.cell? ⟨gb171, 5, none⟩ = some (.bool a0_5) := (bc_ BK171.out 5).trans rfl; have hfz7_0 := bf_ BK171.out 0; have hfz7_1 := bf_ BK171.out 1; have hfz7_2 := bf_ BK171.out 2; have hfz7_3 := bf_ BK171.out 3; have hfz7_4 := bf_ BK171.out 4; have hfz7_5 := bf_ BK171.out 5) | ((with_reducible refine gate_callee (f := 44) rfl ?_); refine goesL_ (some 6) rfl rfl Tryd.func44 (by kernel_rfl) rfl #[.agg #[.int .i64 a0_0, .int .i64 a0_1, .string a0_2, .int .i64 a0_3, .string a0_4, .bool a0_5]] rfl (by (try simp only [List.map_toArray, List.map_cons, List.map_nil]); first | done | rfl | (simp only [List.length_drop, List.length_take]; rfl)) ?_; (with_reducible refine (pinfoldref11_LeaseMay_c.calls a0_0 a0_1 a0_2 a0_3 a0_4 a0_5 true _ A3.out).mono ?_); rintro e w8 ⟨rfl, hb⟩; refine ⟨_, rfl, ?_⟩; have n0_ := am_ (kb_ (g := gb171) (o := .cells #[.int .i64 a0_0, .int .i64 a0_1, .string a0_2, .int .i64 a0_3, .string a0_4, .bool a0_5] 42 (0, 0)) (by (with_reducible repeat (first | refine k2_ ?_ _ | refine k3_ ?_ | refine k1_ ?_ _)); exact BK171.out) hb); have n1_ := am_ (bt_ (by repeat (with_reducible first | exact HB.out | apply p3_ | apply p1_ | apply p2_ | refine bs_ ?_ GE171.out)) hb); clear BK171; clear HB; have BK171 := n0_; have HB := n1_; clear n0_ n1_; (try clear hb); have hcz9_0 : w8.cell? ⟨gb171, 0, none⟩ = some (.int .i64 a0_0) := (bc_ BK171.out 0).trans rfl; have hcz9_1 : w8.cell? ⟨gb171, 1, none⟩ = some (.int .i64 a0_1) := (bc_ BK171.out 1).trans rfl; have hcz9_2 : w8.cell? ⟨gb171, 2, none⟩ = some (.string a0_2) := (bc_ BK171.out 2).trans rfl; have hcz9_3 : w8.cell? ⟨gb171, 3, none⟩ = some (.int .i64 a0_3) := (bc_ BK171.out 3).trans rfl; have hcz9_4 : w8.cell? ⟨gb171, 4, none⟩ = some (.string a0_4) := (bc_ BK171.out 4).trans rfl; have hcz9_5 : w8.cell? ⟨gb171, 5, none⟩ = some (.bool a0_5) := (bc_ BK171.out 5).trans rfl; have hfz9_0 := bf_ BK171.out 0; have hfz9_1 := bf_ BK171.out 1; have hfz9_2 := bf_ BK171.out 2; have hfz9_3 := bf_ BK171.out 3; have hfz9_4 := bf_ BK171.out 4; have hfz9_5 := bf_ BK171.out 5))
   go_ret
   exact ⟨by first | rfl | (simp [errW_none, errW_some] <;> rfl) | (simp [*, errW_none, errW_some] <;> rfl), by repeat (with_reducible first | exact HB.out | apply p3_ | apply p1_ | apply p2_ | refine bs_ ?_ GE171.out)⟩
  rw [if_neg c5] at H
  have c5b0 : (a0_1 == 0) = false := e2_ c5
  have c5b1 : (a0_1 != 0) = true := bne_iff_ne.mpr c5
  obtain rfl := e5_ H
  go_enter Tryd.func25, Tryd.ntmps25
  go_wp2_with (first | ((with_reducible refine gate_dst (N := 2) rfl ?_); refine box_event ?hg (N := 2) ?hd (cs := #[.int .i64 a0_0, .int .i64 a0_1, .string a0_2, .int .i64 a0_3, .string a0_4, .bool a0_5]) (t := 42) ?hr ?_; (case hd => rfl); (case hg => rfl); (case hr => first | (go_simp; done) | (go_simp; rfl)); intro gb171 hg w10 hbox hb; have n0_ := am_ (bt_ (by repeat (with_reducible first | exact HB.out | apply p3_ | apply p1_ | apply p2_)) hb); have n1_ := am_ (hbox); have n2_ := am_ ((by rw [hg]; exact (bz_ (by repeat (with_reducible first | exact HB.out | apply p3_ | apply p1_ | apply p2_))) : w.heap.size ≤ gb171)); have n3_ := am_ ((by rw [hg]; exact (bz_ (by repeat (with_reducible first | exact HB.out | apply p3_ | apply p1_ | apply p2_))) : w.heap.size ≤ gb171)); clear HB; have HB := n0_; have BK171 := n1_; have GW171 := n2_; have GE171 := n3_; clear n0_ n1_ n2_ n3_; clear hb hbox hg; have hcz11_0 : w10.cell? ⟨gb171, 0, none⟩ = some (.int .i64 a0_0) := (bc_ BK171.out 0).trans rfl; have hcz11_1 : w10.cell? ⟨gb171, 1, none⟩ = some (.int .i64 a0_1) := (bc_ BK171.out 1).trans rfl; have hcz11_2 : w10.cell? ⟨gb171, 2, none⟩ = some (.string a0_2) := (bc_ BK171.out 2).trans rfl; have hcz11_3 : w10.cell? ⟨gb171, 3, none⟩ = some (.int .i64 a0_3) := (bc_ BK171.out 3).trans rfl; have hcz11_4 : w10.cell? ⟨gb171, 4, none⟩ = some (.string a0_4) := (bc_ BK171.out 4).trans rfl; have hcz11_5 : w10.cell? ⟨gb171, 5, none⟩ = some (.bool a0_5) := (bc_ BK171.out 5).trans rfl; have hfz11_0 := bf_ BK171.out 0; have hfz11_1 := bf_ BK171.out 1; have hfz11_2 := bf_ BK171.out 2; have hfz11_3 := bf_ BK171.out 3; have hfz11_4 := bf_ BK171.out 4; have hfz11_5 := bf_ BK171.out 5) | ((with_reducible refine gate_callee (f := 44) rfl ?_); refine goesL_ (some 6) rfl rfl Tryd.func44 (by kernel_rfl) rfl #[.agg #[.int .i64 a0_0, .int .i64 a0_1, .string a0_2, .int .i64 a0_3, .string a0_4, .bool a0_5]] rfl (by (try simp only [List.map_toArray, List.map_cons, List.map_nil]); first | done | rfl | (simp only [List.length_drop, List.length_take]; rfl)) ?_; (with_reducible refine (pinfoldref11_LeaseMay_c.calls a0_0 a0_1 a0_2 a0_3 a0_4 a0_5 true _ A3.out).mono ?_); rintro e w12 ⟨rfl, hb⟩; refine ⟨_, rfl, ?_⟩; have n0_ := am_ (kb_ (g := gb171) (o := .cells #[.int .i64 a0_0, .int .i64 a0_1, .string a0_2, .int .i64 a0_3, .string a0_4, .bool a0_5] 42 (0, 0)) (by (with_reducible repeat (first | refine k2_ ?_ _ | refine k3_ ?_ | refine k1_ ?_ _)); exact BK171.out) hb); have n1_ := am_ (bt_ (by repeat (with_reducible first | exact HB.out | apply p3_ | apply p1_ | apply p2_ | refine bs_ ?_ GE171.out)) hb); clear BK171; clear HB; have BK171 := n0_; have HB := n1_; clear n0_ n1_; (try clear hb); have hcz13_0 : w12.cell? ⟨gb171, 0, none⟩ = some (.int .i64 a0_0) := (bc_ BK171.out 0).trans rfl; have hcz13_1 : w12.cell? ⟨gb171, 1, none⟩ = some (.int .i64 a0_1) := (bc_ BK171.out 1).trans rfl; have hcz13_2 : w12.cell? ⟨gb171, 2, none⟩ = some (.string a0_2) := (bc_ BK171.out 2).trans rfl; have hcz13_3 : w12.cell? ⟨gb171, 3, none⟩ = some (.int .i64 a0_3) := (bc_ BK171.out 3).trans rfl; have hcz13_4 : w12.cell? ⟨gb171, 4, none⟩ = some (.string a0_4) := (bc_ BK171.out 4).trans rfl; have hcz13_5 : w12.cell? ⟨gb171, 5, none⟩ = some (.bool a0_5) := (bc_ BK171.out 5).trans rfl; have hfz13_0 := bf_ BK171.out 0; have hfz13_1 := bf_ BK171.out 1; have hfz13_2 := bf_ BK171.out 2; have hfz13_3 := bf_ BK171.out 3; have hfz13_4 := bf_ BK171.out 4; have hfz13_5 := bf_ BK171.out 5))
  go_ret
  exact ⟨by first | rfl | (simp [errW_none, errW_some] <;> rfl) | (simp [*, errW_none, errW_some] <;> rfl), by repeat (with_reducible first | exact HB.out | apply p3_ | apply p1_ | apply p2_ | refine bs_ ?_ GE171.out)⟩
 replace c4 := e3_ c4
 subst c4
 have H1 : (some false) = some r := by rw [if_neg (show ¬ (false = true) by decide)] at H; exact H
 clear H
 have H := H1
 clear H1
 obtain rfl := e5_ H
 go_enter Tryd.func25, Tryd.ntmps25
 go_wp2_with (first | ((with_reducible refine gate_dst (N := 2) rfl ?_); refine box_event ?hg (N := 2) ?hd (cs := #[.int .i64 a0_0, .int .i64 a0_1, .string a0_2, .int .i64 a0_3, .string a0_4, .bool a0_5]) (t := 42) ?hr ?_; (case hd => rfl); (case hg => rfl); (case hr => first | (go_simp; done) | (go_simp; rfl)); intro gb171 hg w14 hbox hb; have n0_ := am_ (bt_ (by repeat (with_reducible first | exact HB.out | apply p3_ | apply p1_ | apply p2_)) hb); have n1_ := am_ (hbox); have n2_ := am_ ((by rw [hg]; exact (bz_ (by repeat (with_reducible first | exact HB.out | apply p3_ | apply p1_ | apply p2_))) : w.heap.size ≤ gb171)); have n3_ := am_ ((by rw [hg]; exact (bz_ (by repeat (with_reducible first | exact HB.out | apply p3_ | apply p1_ | apply p2_))) : w.heap.size ≤ gb171)); clear HB; have HB := n0_; have BK171 := n1_; have GW171 := n2_; have GE171 := n3_; clear n0_ n1_ n2_ n3_; clear hb hbox hg; have hcz15_0 : w14.cell? ⟨gb171, 0, none⟩ = some (.int .i64 a0_0) := (bc_ BK171.out 0).trans rfl; have hcz15_1 : w14.cell? ⟨gb171, 1, none⟩ = some (.int .i64 a0_1) := (bc_ BK171.out 1).trans rfl; have hcz15_2 : w14.cell? ⟨gb171, 2, none⟩ = some (.string a0_2) := (bc_ BK171.out 2).trans rfl; have hcz15_3 : w14.cell? ⟨gb171, 3, none⟩ = some (.int .i64 a0_3) := (bc_ BK171.out 3).trans rfl; have hcz15_4 : w14.cell? ⟨gb171, 4, none⟩ = some (.string a0_4) := (bc_ BK171.out 4).trans rfl; have hcz15_5 : w14.cell? ⟨gb171, 5, none⟩ = some (.bool a0_5) := (bc_ BK171.out 5).trans rfl; have hfz15_0 := bf_ BK171.out 0; have hfz15_1 := bf_ BK171.out 1; have hfz15_2 := bf_ BK171.out 2; have hfz15_3 := bf_ BK171.out 3; have hfz15_4 := bf_ BK171.out 4; have hfz15_5 := bf_ BK171.out 5) | ((with_reducible refine gate_callee (f := 44) rfl ?_); refine goesL_ (some 6) rfl rfl Tryd.func44 (by kernel_rfl) rfl #[.agg #[.int .i64 a0_0, .int .i64 a0_1, .string a0_2, .int .i64 a0_3, .string a0_4, .bool a0_5]] rfl (by (try simp only [List.map_toArray, List.map_cons, List.map_nil]); first | done | rfl | (simp only [List.length_drop, List.length_take]; rfl)) ?_; (with_reducible refine (pinfoldref11_LeaseMay_c.calls a0_0 a0_1 a0_2 a0_3 a0_4 a0_5 false _ A3.out).mono ?_); rintro e w16 ⟨rfl, hb⟩; refine ⟨_, rfl, ?_⟩; have n0_ := am_ (kb_ (g := gb171) (o := .cells #[.int .i64 a0_0, .int .i64 a0_1, .string a0_2, .int .i64 a0_3, .string a0_4, .bool a0_5] 42 (0, 0)) (by (with_reducible repeat (first | refine k2_ ?_ _ | refine k3_ ?_ | refine k1_ ?_ _)); exact BK171.out) hb); have n1_ := am_ (bt_ (by repeat (with_reducible first | exact HB.out | apply p3_ | apply p1_ | apply p2_ | refine bs_ ?_ GE171.out)) hb); clear BK171; clear HB; have BK171 := n0_; have HB := n1_; clear n0_ n1_; (try clear hb)))
 go_ret
 exact ⟨by first | rfl | (simp [errW_none, errW_some] <;> rfl) | (simp [*, errW_none, errW_some] <;> rfl), by repeat (with_reducible first | exact HB.out | apply p3_ | apply p1_ | apply p2_ | refine bs_ ?_ GE171.out)⟩

/-! ### pinfoldref11_Live_c: function 25 -/
theorem reflive_c (h st : Int) (cl : ByteArray) (un : Int) (nm : ByteArray) (won : Bool) (now : Int) (hs : nm.size ≤ 8796093022000) : pinfoldref11_Live.f h st cl un nm won now = some (liveB h st cl un nm won now) := by
 unfold pinfoldref11_Live.f liveB
 unfold pinfoldref11_LeaseMay_c.f
 rw [if_pos hs, Option.bind_some]
 cases leaseB h st cl un nm won with
 | true =>
  rw [if_pos rfl]
  by_cases h0 : st = 0
  ·rw [if_pos h0, decide_eq_false (fun e => e h0)]
   rfl
  ·rw [if_neg h0, decide_eq_true h0]
   rfl
 | false => rfl
def pinfoldref11_Live_c.f (a0_0 : Int) (a0_1 : Int) (a0_2 : ByteArray) (a0_3 : Int) (a0_4 : ByteArray) (a0_5 : Bool) (a1 : Int) : Option Bool := if a0_4.size ≤ 8796093022000 then some (liveB a0_0 a0_1 a0_2 a0_3 a0_4 a0_5 a1) else none
theorem pinfoldref11_Live_c.calls (a0_0 : Int) (a0_1 : Int) (a0_2 : ByteArray) (a0_3 : Int) (a0_4 : ByteArray) (a0_5 : Bool) (a1 : Int) (r : Bool) (w : World) (h : pinfoldref11_Live_c.f a0_0 a0_1 a0_2 a0_3 a0_4 a0_5 a1 = some r) :
  Calls Tryd.prog 25 #[.agg #[.int .i64 a0_0, .int .i64 a0_1, .string a0_2, .int .i64 a0_3, .string a0_4, .bool a0_5], .int .i64 a1] w fun e w' => e = .returned (.bool r) ∧ Below w.heap.size w w' := by
 unfold pinfoldref11_Live_c.f at h
 by_cases hs : a0_4.size ≤ 8796093022000
 ·rw [if_pos hs] at h
  exact pinfoldref11_Live.calls a0_0 a0_1 a0_2 a0_3 a0_4 a0_5 a1 r w (by rw [reflive_c _ _ _ _ _ _ _ hs]; exact h)
 ·rw [if_neg hs] at h
  cases h

/-! ### pinfoldref11_his: function 38 -/
def pinfoldref11_his.f (a0_0 : Int) (a0_1 : Int) (a0_2 : ByteArray) (a0_3 : Int) (a0_4 : ByteArray) (a0_5 : Bool) (a1 : ByteArray) (a2 : Int) : Option (Bool) := (pinfoldref11_Live_c.f a0_0 a0_1 a0_2 a0_3 a0_4 a0_5 a2).bind fun t174 => (if t174 = true then (if a0_1 = 1 then (some (a0_2.toList == a1.toList)) else (if a0_1 = 2 then (some (a0_2.toList == a1.toList)) else (some false))) else (some false))
set_option maxHeartbeats 8000000 in
set_option maxRecDepth 100000 in
theorem pinfoldref11_his.calls (a0_0 : Int) (a0_1 : Int) (a0_2 : ByteArray) (a0_3 : Int) (a0_4 : ByteArray) (a0_5 : Bool) (a1 : ByteArray) (a2 : Int) (r : Bool) (w : World) (h : pinfoldref11_his.f a0_0 a0_1 a0_2 a0_3 a0_4 a0_5 a1 a2 = some r) :
  Calls Tryd.prog 38 #[.agg #[.int .i64 a0_0, .int .i64 a0_1, .string a0_2, .int .i64 a0_3, .string a0_4, .bool a0_5], .string a1, .int .i64 a2] w fun e w' => e = .returned (.bool r) ∧ Below w.heap.size w w' := by
 have hu42 := Tryd.underlying42
 have HB := am_ (Below.refl w.heap.size w)
 have H : ((pinfoldref11_Live_c.f a0_0 a0_1 a0_2 a0_3 a0_4 a0_5 a2).bind fun t174 => (if t174 = true then (if a0_1 = 1 then (some (a0_2.toList == a1.toList)) else (if a0_1 = 2 then (some (a0_2.toList == a1.toList)) else (some false))) else (some false))) = some r := h
 clear h
 replace H := e4_ H
 obtain ⟨t174, A40, H⟩ := H
 replace H : (if t174 = true then (if a0_1 = 1 then (some (a0_2.toList == a1.toList)) else (if a0_1 = 2 then (some (a0_2.toList == a1.toList)) else (some false))) else (some false)) = some r := H
 have A4 := am_ A40
 clear A40
 by_cases c5 : t174 = true
 ·subst c5
  have H1 : (if a0_1 = 1 then (some (a0_2.toList == a1.toList)) else (if a0_1 = 2 then (some (a0_2.toList == a1.toList)) else (some false))) = some r := by rw [if_pos rfl] at H; exact H
  clear H
  have H := H1
  clear H1
  by_cases c6 : a0_1 = 1
  ·rw [if_pos c6] at H
   have c6b0 : (a0_1 == 1) = true := beq_iff_eq.mpr c6
   have c6b1 : (a0_1 != 1) = false := e1_ c6
   clear c6
   obtain rfl := e5_ H
   go_enter Tryd.func38, Tryd.ntmps38
   go_wp2_with (first | ((with_reducible refine gate_dst (N := 3) rfl ?_); refine box_event ?hg (N := 3) ?hd (cs := #[.int .i64 a0_0, .int .i64 a0_1, .string a0_2, .int .i64 a0_3, .string a0_4, .bool a0_5]) (t := 42) ?hr ?_; (case hd => rfl); (case hg => rfl); (case hr => first | (go_simp; done) | (go_simp; rfl)); intro gb173 hg w7 hbox hb; have n0_ := am_ (bt_ (by repeat (with_reducible first | exact HB.out | apply p3_ | apply p1_ | apply p2_)) hb); have n1_ := am_ (hbox); have n2_ := am_ ((by rw [hg]; exact (bz_ (by repeat (with_reducible first | exact HB.out | apply p3_ | apply p1_ | apply p2_))) : w.heap.size ≤ gb173)); have n3_ := am_ ((by rw [hg]; exact (bz_ (by repeat (with_reducible first | exact HB.out | apply p3_ | apply p1_ | apply p2_))) : w.heap.size ≤ gb173)); clear HB; have HB := n0_; have BK173 := n1_; have GW173 := n2_; have GE173 := n3_; clear n0_ n1_ n2_ n3_; clear hb hbox hg; have hcz8_0 : w7.cell? ⟨gb173, 0, none⟩ = some (.int .i64 a0_0) := (bc_ BK173.out 0).trans rfl; have hcz8_1 : w7.cell? ⟨gb173, 1, none⟩ = some (.int .i64 a0_1) := (bc_ BK173.out 1).trans rfl; have hcz8_2 : w7.cell? ⟨gb173, 2, none⟩ = some (.string a0_2) := (bc_ BK173.out 2).trans rfl; have hcz8_3 : w7.cell? ⟨gb173, 3, none⟩ = some (.int .i64 a0_3) := (bc_ BK173.out 3).trans rfl; have hcz8_4 : w7.cell? ⟨gb173, 4, none⟩ = some (.string a0_4) := (bc_ BK173.out 4).trans rfl; have hcz8_5 : w7.cell? ⟨gb173, 5, none⟩ = some (.bool a0_5) := (bc_ BK173.out 5).trans rfl; have hfz8_0 := bf_ BK173.out 0; have hfz8_1 := bf_ BK173.out 1; have hfz8_2 := bf_ BK173.out 2; have hfz8_3 := bf_ BK173.out 3; have hfz8_4 := bf_ BK173.out 4; have hfz8_5 := bf_ BK173.out 5) | ((with_reducible refine gate_callee (f := 25) rfl ?_); refine goesL_ (some 9) rfl rfl Tryd.func25 (by kernel_rfl) rfl #[.agg #[.int .i64 a0_0, .int .i64 a0_1, .string a0_2, .int .i64 a0_3, .string a0_4, .bool a0_5], .int .i64 a2] rfl (by (try simp only [List.map_toArray, List.map_cons, List.map_nil]); first | done | rfl | (simp only [List.length_drop, List.length_take]; rfl)) ?_; (with_reducible refine (pinfoldref11_Live_c.calls a0_0 a0_1 a0_2 a0_3 a0_4 a0_5 a2 true _ A4.out).mono ?_); rintro e w9 ⟨rfl, hb⟩; refine ⟨_, rfl, ?_⟩; have n0_ := am_ (kb_ (g := gb173) (o := .cells #[.int .i64 a0_0, .int .i64 a0_1, .string a0_2, .int .i64 a0_3, .string a0_4, .bool a0_5] 42 (0, 0)) (by (with_reducible repeat (first | refine k2_ ?_ _ | refine k3_ ?_ | refine k1_ ?_ _)); exact BK173.out) hb); have n1_ := am_ (bt_ (by repeat (with_reducible first | exact HB.out | apply p3_ | apply p1_ | apply p2_ | refine bs_ ?_ GE173.out)) hb); clear BK173; clear HB; have BK173 := n0_; have HB := n1_; clear n0_ n1_; (try clear hb); have hcz10_0 : w9.cell? ⟨gb173, 0, none⟩ = some (.int .i64 a0_0) := (bc_ BK173.out 0).trans rfl; have hcz10_1 : w9.cell? ⟨gb173, 1, none⟩ = some (.int .i64 a0_1) := (bc_ BK173.out 1).trans rfl; have hcz10_2 : w9.cell? ⟨gb173, 2, none⟩ = some (.string a0_2) := (bc_ BK173.out 2).trans rfl; have hcz10_3 : w9.cell? ⟨gb173, 3, none⟩ = some (.int .i64 a0_3) := (bc_ BK173.out 3).trans rfl; have hcz10_4 : w9.cell? ⟨gb173, 4, none⟩ = some (.string a0_4) := (bc_ BK173.out 4).trans rfl; have hcz10_5 : w9.cell? ⟨gb173, 5, none⟩ = some (.bool a0_5) := (bc_ BK173.out 5).trans rfl; have hfz10_0 := bf_ BK173.out 0; have hfz10_1 := bf_ BK173.out 1; have hfz10_2 := bf_ BK173.out 2; have hfz10_3 := bf_ BK173.out 3; have hfz10_4 := bf_ BK173.out 4; have hfz10_5 := bf_ BK173.out 5))
   go_ret
   exact ⟨by first | rfl | (simp [errW_none, errW_some] <;> rfl) | (simp [*, errW_none, errW_some] <;> rfl), by repeat (with_reducible first | exact HB.out | apply p3_ | apply p1_ | apply p2_ | refine bs_ ?_ GE173.out)⟩
  rw [if_neg c6] at H
  have c6b0 : (a0_1 == 1) = false := e2_ c6
  have c6b1 : (a0_1 != 1) = true := bne_iff_ne.mpr c6
  by_cases c11 : a0_1 = 2
  ·rw [if_pos c11] at H
   have c11b0 : (a0_1 == 2) = true := beq_iff_eq.mpr c11
   have c11b1 : (a0_1 != 2) = false := e1_ c11
   clear c11
   obtain rfl := e5_ H
   go_enter Tryd.func38, Tryd.ntmps38
   go_wp2_with (first | ((with_reducible refine gate_dst (N := 3) rfl ?_); refine box_event ?hg (N := 3) ?hd (cs := #[.int .i64 a0_0, .int .i64 a0_1, .string a0_2, .int .i64 a0_3, .string a0_4, .bool a0_5]) (t := 42) ?hr ?_; (case hd => rfl); (case hg => rfl); (case hr => first | (go_simp; done) | (go_simp; rfl)); intro gb173 hg w12 hbox hb; have n0_ := am_ (bt_ (by repeat (with_reducible first | exact HB.out | apply p3_ | apply p1_ | apply p2_)) hb); have n1_ := am_ (hbox); have n2_ := am_ ((by rw [hg]; exact (bz_ (by repeat (with_reducible first | exact HB.out | apply p3_ | apply p1_ | apply p2_))) : w.heap.size ≤ gb173)); have n3_ := am_ ((by rw [hg]; exact (bz_ (by repeat (with_reducible first | exact HB.out | apply p3_ | apply p1_ | apply p2_))) : w.heap.size ≤ gb173)); clear HB; have HB := n0_; have BK173 := n1_; have GW173 := n2_; have GE173 := n3_; clear n0_ n1_ n2_ n3_; clear hb hbox hg; have hcz13_0 : w12.cell? ⟨gb173, 0, none⟩ = some (.int .i64 a0_0) := (bc_ BK173.out 0).trans rfl; have hcz13_1 : w12.cell? ⟨gb173, 1, none⟩ = some (.int .i64 a0_1) := (bc_ BK173.out 1).trans rfl; have hcz13_2 : w12.cell? ⟨gb173, 2, none⟩ = some (.string a0_2) := (bc_ BK173.out 2).trans rfl; have hcz13_3 : w12.cell? ⟨gb173, 3, none⟩ = some (.int .i64 a0_3) := (bc_ BK173.out 3).trans rfl; have hcz13_4 : w12.cell? ⟨gb173, 4, none⟩ = some (.string a0_4) := (bc_ BK173.out 4).trans rfl; have hcz13_5 : w12.cell? ⟨gb173, 5, none⟩ = some (.bool a0_5) := (bc_ BK173.out 5).trans rfl; have hfz13_0 := bf_ BK173.out 0; have hfz13_1 := bf_ BK173.out 1; have hfz13_2 := bf_ BK173.out 2; have hfz13_3 := bf_ BK173.out 3; have hfz13_4 := bf_ BK173.out 4; have hfz13_5 := bf_ BK173.out 5) | ((with_reducible refine gate_callee (f := 25) rfl ?_); refine goesL_ (some 9) rfl rfl Tryd.func25 (by kernel_rfl) rfl #[.agg #[.int .i64 a0_0, .int .i64 a0_1, .string a0_2, .int .i64 a0_3, .string a0_4, .bool a0_5], .int .i64 a2] rfl (by (try simp only [List.map_toArray, List.map_cons, List.map_nil]); first | done | rfl | (simp only [List.length_drop, List.length_take]; rfl)) ?_; (with_reducible refine (pinfoldref11_Live_c.calls a0_0 a0_1 a0_2 a0_3 a0_4 a0_5 a2 true _ A4.out).mono ?_); rintro e w14 ⟨rfl, hb⟩; refine ⟨_, rfl, ?_⟩; have n0_ := am_ (kb_ (g := gb173) (o := .cells #[.int .i64 a0_0, .int .i64 a0_1, .string a0_2, .int .i64 a0_3, .string a0_4, .bool a0_5] 42 (0, 0)) (by (with_reducible repeat (first | refine k2_ ?_ _ | refine k3_ ?_ | refine k1_ ?_ _)); exact BK173.out) hb); have n1_ := am_ (bt_ (by repeat (with_reducible first | exact HB.out | apply p3_ | apply p1_ | apply p2_ | refine bs_ ?_ GE173.out)) hb); clear BK173; clear HB; have BK173 := n0_; have HB := n1_; clear n0_ n1_; (try clear hb); have hcz15_0 : w14.cell? ⟨gb173, 0, none⟩ = some (.int .i64 a0_0) := (bc_ BK173.out 0).trans rfl; have hcz15_1 : w14.cell? ⟨gb173, 1, none⟩ = some (.int .i64 a0_1) := (bc_ BK173.out 1).trans rfl; have hcz15_2 : w14.cell? ⟨gb173, 2, none⟩ = some (.string a0_2) := (bc_ BK173.out 2).trans rfl; have hcz15_3 : w14.cell? ⟨gb173, 3, none⟩ = some (.int .i64 a0_3) := (bc_ BK173.out 3).trans rfl; have hcz15_4 : w14.cell? ⟨gb173, 4, none⟩ = some (.string a0_4) := (bc_ BK173.out 4).trans rfl; have hcz15_5 : w14.cell? ⟨gb173, 5, none⟩ = some (.bool a0_5) := (bc_ BK173.out 5).trans rfl; have hfz15_0 := bf_ BK173.out 0; have hfz15_1 := bf_ BK173.out 1; have hfz15_2 := bf_ BK173.out 2; have hfz15_3 := bf_ BK173.out 3; have hfz15_4 := bf_ BK173.out 4; have hfz15_5 := bf_ BK173.out 5))
   go_ret
   exact ⟨by first | rfl | (simp [errW_none, errW_some] <;> rfl) | (simp [*, errW_none, errW_some] <;> rfl), by repeat (with_reducible first | exact HB.out | apply p3_ | apply p1_ | apply p2_ | refine bs_ ?_ GE173.out)⟩
  rw [if_neg c11] at H
  have c11b0 : (a0_1 == 2) = false := e2_ c11
  have c11b1 : (a0_1 != 2) = true := bne_iff_ne.mpr c11
  obtain rfl := e5_ H
  go_enter Tryd.func38, Tryd.ntmps38
  go_wp2_with (first | ((with_reducible refine gate_dst (N := 3) rfl ?_); refine box_event ?hg (N := 3) ?hd (cs := #[.int .i64 a0_0, .int .i64 a0_1, .string a0_2, .int .i64 a0_3, .string a0_4, .bool a0_5]) (t := 42) ?hr ?_; (case hd => rfl); (case hg => rfl); (case hr => first | (go_simp; done) | (go_simp; rfl)); intro gb173 hg w16 hbox hb; have n0_ := am_ (bt_ (by repeat (with_reducible first | exact HB.out | apply p3_ | apply p1_ | apply p2_)) hb); have n1_ := am_ (hbox); have n2_ := am_ ((by rw [hg]; exact (bz_ (by repeat (with_reducible first | exact HB.out | apply p3_ | apply p1_ | apply p2_))) : w.heap.size ≤ gb173)); have n3_ := am_ ((by rw [hg]; exact (bz_ (by repeat (with_reducible first | exact HB.out | apply p3_ | apply p1_ | apply p2_))) : w.heap.size ≤ gb173)); clear HB; have HB := n0_; have BK173 := n1_; have GW173 := n2_; have GE173 := n3_; clear n0_ n1_ n2_ n3_; clear hb hbox hg; have hcz17_0 : w16.cell? ⟨gb173, 0, none⟩ = some (.int .i64 a0_0) := (bc_ BK173.out 0).trans rfl; have hcz17_1 : w16.cell? ⟨gb173, 1, none⟩ = some (.int .i64 a0_1) := (bc_ BK173.out 1).trans rfl; have hcz17_2 : w16.cell? ⟨gb173, 2, none⟩ = some (.string a0_2) := (bc_ BK173.out 2).trans rfl; have hcz17_3 : w16.cell? ⟨gb173, 3, none⟩ = some (.int .i64 a0_3) := (bc_ BK173.out 3).trans rfl; have hcz17_4 : w16.cell? ⟨gb173, 4, none⟩ = some (.string a0_4) := (bc_ BK173.out 4).trans rfl; have hcz17_5 : w16.cell? ⟨gb173, 5, none⟩ = some (.bool a0_5) := (bc_ BK173.out 5).trans rfl; have hfz17_0 := bf_ BK173.out 0; have hfz17_1 := bf_ BK173.out 1; have hfz17_2 := bf_ BK173.out 2; have hfz17_3 := bf_ BK173.out 3; have hfz17_4 := bf_ BK173.out 4; have hfz17_5 := bf_ BK173.out 5) | ((with_reducible refine gate_callee (f := 25) rfl ?_); refine goesL_ (some 9) rfl rfl Tryd.func25 (by kernel_rfl) rfl #[.agg #[.int .i64 a0_0, .int .i64 a0_1, .string a0_2, .int .i64 a0_3, .string a0_4, .bool a0_5], .int .i64 a2] rfl (by (try simp only [List.map_toArray, List.map_cons, List.map_nil]); first | done | rfl | (simp only [List.length_drop, List.length_take]; rfl)) ?_; (with_reducible refine (pinfoldref11_Live_c.calls a0_0 a0_1 a0_2 a0_3 a0_4 a0_5 a2 true _ A4.out).mono ?_); rintro e w18 ⟨rfl, hb⟩; refine ⟨_, rfl, ?_⟩; have n0_ := am_ (kb_ (g := gb173) (o := .cells #[.int .i64 a0_0, .int .i64 a0_1, .string a0_2, .int .i64 a0_3, .string a0_4, .bool a0_5] 42 (0, 0)) (by (with_reducible repeat (first | refine k2_ ?_ _ | refine k3_ ?_ | refine k1_ ?_ _)); exact BK173.out) hb); have n1_ := am_ (bt_ (by repeat (with_reducible first | exact HB.out | apply p3_ | apply p1_ | apply p2_ | refine bs_ ?_ GE173.out)) hb); clear BK173; clear HB; have BK173 := n0_; have HB := n1_; clear n0_ n1_; (try clear hb); have hcz19_0 : w18.cell? ⟨gb173, 0, none⟩ = some (.int .i64 a0_0) := (bc_ BK173.out 0).trans rfl; have hcz19_1 : w18.cell? ⟨gb173, 1, none⟩ = some (.int .i64 a0_1) := (bc_ BK173.out 1).trans rfl; have hcz19_2 : w18.cell? ⟨gb173, 2, none⟩ = some (.string a0_2) := (bc_ BK173.out 2).trans rfl; have hcz19_3 : w18.cell? ⟨gb173, 3, none⟩ = some (.int .i64 a0_3) := (bc_ BK173.out 3).trans rfl; have hcz19_4 : w18.cell? ⟨gb173, 4, none⟩ = some (.string a0_4) := (bc_ BK173.out 4).trans rfl; have hcz19_5 : w18.cell? ⟨gb173, 5, none⟩ = some (.bool a0_5) := (bc_ BK173.out 5).trans rfl; have hfz19_0 := bf_ BK173.out 0; have hfz19_1 := bf_ BK173.out 1; have hfz19_2 := bf_ BK173.out 2; have hfz19_3 := bf_ BK173.out 3; have hfz19_4 := bf_ BK173.out 4; have hfz19_5 := bf_ BK173.out 5))
  go_ret
  exact ⟨by first | rfl | (simp [errW_none, errW_some] <;> rfl) | (simp [*, errW_none, errW_some] <;> rfl), by repeat (with_reducible first | exact HB.out | apply p3_ | apply p1_ | apply p2_ | refine bs_ ?_ GE173.out)⟩
 replace c5 := e3_ c5
 subst c5
 have H1 : (some false) = some r := by rw [if_neg (show ¬ (false = true) by decide)] at H; exact H
 clear H
 have H := H1
 clear H1
 obtain rfl := e5_ H
 go_enter Tryd.func38, Tryd.ntmps38
 go_wp2_with (first | ((with_reducible refine gate_dst (N := 3) rfl ?_); refine box_event ?hg (N := 3) ?hd (cs := #[.int .i64 a0_0, .int .i64 a0_1, .string a0_2, .int .i64 a0_3, .string a0_4, .bool a0_5]) (t := 42) ?hr ?_; (case hd => rfl); (case hg => rfl); (case hr => first | (go_simp; done) | (go_simp; rfl)); intro gb173 hg w20 hbox hb; have n0_ := am_ (bt_ (by repeat (with_reducible first | exact HB.out | apply p3_ | apply p1_ | apply p2_)) hb); have n1_ := am_ (hbox); have n2_ := am_ ((by rw [hg]; exact (bz_ (by repeat (with_reducible first | exact HB.out | apply p3_ | apply p1_ | apply p2_))) : w.heap.size ≤ gb173)); have n3_ := am_ ((by rw [hg]; exact (bz_ (by repeat (with_reducible first | exact HB.out | apply p3_ | apply p1_ | apply p2_))) : w.heap.size ≤ gb173)); clear HB; have HB := n0_; have BK173 := n1_; have GW173 := n2_; have GE173 := n3_; clear n0_ n1_ n2_ n3_; clear hb hbox hg; have hcz21_0 : w20.cell? ⟨gb173, 0, none⟩ = some (.int .i64 a0_0) := (bc_ BK173.out 0).trans rfl; have hcz21_1 : w20.cell? ⟨gb173, 1, none⟩ = some (.int .i64 a0_1) := (bc_ BK173.out 1).trans rfl; have hcz21_2 : w20.cell? ⟨gb173, 2, none⟩ = some (.string a0_2) := (bc_ BK173.out 2).trans rfl; have hcz21_3 : w20.cell? ⟨gb173, 3, none⟩ = some (.int .i64 a0_3) := (bc_ BK173.out 3).trans rfl; have hcz21_4 : w20.cell? ⟨gb173, 4, none⟩ = some (.string a0_4) := (bc_ BK173.out 4).trans rfl; have hcz21_5 : w20.cell? ⟨gb173, 5, none⟩ = some (.bool a0_5) := (bc_ BK173.out 5).trans rfl; have hfz21_0 := bf_ BK173.out 0; have hfz21_1 := bf_ BK173.out 1; have hfz21_2 := bf_ BK173.out 2; have hfz21_3 := bf_ BK173.out 3; have hfz21_4 := bf_ BK173.out 4; have hfz21_5 := bf_ BK173.out 5) | ((with_reducible refine gate_callee (f := 25) rfl ?_); refine goesL_ (some 9) rfl rfl Tryd.func25 (by kernel_rfl) rfl #[.agg #[.int .i64 a0_0, .int .i64 a0_1, .string a0_2, .int .i64 a0_3, .string a0_4, .bool a0_5], .int .i64 a2] rfl (by (try simp only [List.map_toArray, List.map_cons, List.map_nil]); first | done | rfl | (simp only [List.length_drop, List.length_take]; rfl)) ?_; (with_reducible refine (pinfoldref11_Live_c.calls a0_0 a0_1 a0_2 a0_3 a0_4 a0_5 a2 false _ A4.out).mono ?_); rintro e w22 ⟨rfl, hb⟩; refine ⟨_, rfl, ?_⟩; have n0_ := am_ (kb_ (g := gb173) (o := .cells #[.int .i64 a0_0, .int .i64 a0_1, .string a0_2, .int .i64 a0_3, .string a0_4, .bool a0_5] 42 (0, 0)) (by (with_reducible repeat (first | refine k2_ ?_ _ | refine k3_ ?_ | refine k1_ ?_ _)); exact BK173.out) hb); have n1_ := am_ (bt_ (by repeat (with_reducible first | exact HB.out | apply p3_ | apply p1_ | apply p2_ | refine bs_ ?_ GE173.out)) hb); clear BK173; clear HB; have BK173 := n0_; have HB := n1_; clear n0_ n1_; (try clear hb)))
 go_ret
 exact ⟨by first | rfl | (simp [errW_none, errW_some] <;> rfl) | (simp [*, errW_none, errW_some] <;> rfl), by repeat (with_reducible first | exact HB.out | apply p3_ | apply p1_ | apply p2_ | refine bs_ ?_ GE173.out)⟩

end Go.Proofs.YtmoobaehoccihaaDoor.PF
