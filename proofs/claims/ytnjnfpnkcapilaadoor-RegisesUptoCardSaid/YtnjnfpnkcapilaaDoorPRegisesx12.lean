-- Made by wip/pr.py out of the translation (a turned copy of the kit's print; contracts by hand where said).
import Derived.Test.YtnjnfpnkcapilaaDoorPRegisesx0
import Derived.Test.YtnjnfpnkcapilaaDoorPRegisesx5
import Derived.Test.YtnjnfpnkcapilaaDoorPRegisesx6
import Derived.Test.YtnjnfpnkcapilaaDoorPRegisesx7
import Derived.Test.YtnjnfpnkcapilaaDoorPRegisesx10
import Derived.Test.YtnjnfpnkcapilaaDoorPRegisesx11
namespace Go.Proofs.YtnjnfpnkcapilaaDoor.PRegises
open Go.RowKit Go.Proofs.YtnjnfpnkcapilaaDoorW.PrintWords Go.Proofs.YtnjnfpnkcapilaaDoorW.PrintLast Go.Proofs.YtnjnfpnkcapilaaDoorW.PrintMore
-- shrunk
attribute [local go_sem] max2_int min2_int max_two min_two max_three min_three max_four min_four   -- for this text's walks alone
set_option linter.unusedVariables false
set_option linter.unusedSimpArgs false

/-! ### pinfoldref11_Full: function 34 -/
def pinfoldref11_Full.j0 : Nat → ByteArray → Bool → Int → Int → List Int → List (S47) → Int → ByteArray → List (S49) → Option (ByteArray)
 | 0, _, _, _, _, _, _, _, _, _ => none
 | k + 1, x1, x16, x181000, x181001, x181002, x181003, x181004, x181005, x181006 => if x16 = true then (some (⟨#[]⟩ : ByteArray)) else ((pinfoldref1_Labels_c.f x1).bind fun t183 => (if (t183.length : Int) = 1 then (if x1.size + 1 ≤ 9223372036854775807 then (if (x1 ++ (⟨#[46]⟩ : ByteArray)).size + x181005.size ≤ 9223372036854775807 then (if ((x1 ++ (⟨#[46]⟩ : ByteArray)) ++ x181005).toList = x181005.toList then (some (⟨#[]⟩ : ByteArray)) else ((pinfoldref1_Under_c.f ((x1 ++ (⟨#[46]⟩ : ByteArray)) ++ x181005) x181005).bind fun t186 => (if t186 = true then (some ((x1 ++ (⟨#[46]⟩ : ByteArray)) ++ x181005)) else (some (⟨#[]⟩ : ByteArray))))) else (none)) else (none)) else (if x1.toList = x181005.toList then (some (⟨#[]⟩ : ByteArray)) else ((pinfoldref1_Under_c.f x1 x181005).bind fun t187 => (if t187 = true then (some x1) else (some (⟨#[]⟩ : ByteArray)))))))
def pinfoldref11_Full.f (k : Nat) (a0_0 : Int) (a0_1 : Int) (l0_2 : List Int) (l0_3 : List (S47)) (a0_4 : Int) (a0_5 : ByteArray) (l0_6 : List (S49)) (a1 : ByteArray) : Option (ByteArray) := (pinfoldref11_ConfMay.f a0_0 a0_1 l0_2 l0_3 a0_4 a0_5 l0_6).bind fun t181 => (if t181 = true then (if a1.toList = ([] : List UInt8) then (pinfoldref11_Full.j0 k a1 true a0_0 a0_1 l0_2 l0_3 a0_4 a0_5 l0_6) else ((pinfoldref1_NameMay_c.f a1).bind fun t182 => (pinfoldref11_Full.j0 k a1 (!t182) a0_0 a0_1 l0_2 l0_3 a0_4 a0_5 l0_6))) else (pinfoldref11_Full.j0 k a1 true a0_0 a0_1 l0_2 l0_3 a0_4 a0_5 l0_6))
theorem pinfoldref11_Full.mono_l : ∀ k, (∀ y0 y1 y2 y3 y4 y5 y6 y7 y8, LeO (pinfoldref11_Full.j0 k y0 y1 y2 y3 y4 y5 y6 y7 y8) (pinfoldref11_Full.j0 (k + 1) y0 y1 y2 y3 y4 y5 y6 y7 y8))
 | 0 => fun _ _ _ _ _ _ _ _ _ r h => by simp [pinfoldref11_Full.j0] at h
 | k + 1 => by
  have ih0 := pinfoldref11_Full.mono_l k
  ·intro y0 y1 y2 y3 y4 y5 y6 y7 y8
   unfold pinfoldref11_Full.j0
   repeat' first
   | (with_reducible exact ih0 _ _ _ _ _ _ _ _ _)
   | (with_reducible exact LeO.refl _)
   | (with_reducible exact LeO.none _)
   | (with_reducible refine LeO.ite ?_ ?_)
   | (with_reducible refine LeO.bind ?_ (fun _ => ?_))
   | exact ih0 _ _ _ _ _ _ _ _ _
   | exact LeO.none _
   | refine LeO.ite ?_ ?_
   | refine LeO.bind ?_ (fun _ => ?_)
theorem pinfoldref11_Full.mono : ∀ a0 a1 a2 a3 a4 a5 a6 a7 k, LeO (pinfoldref11_Full.f k a0 a1 a2 a3 a4 a5 a6 a7) (pinfoldref11_Full.f (k + 1) a0 a1 a2 a3 a4 a5 a6 a7) := by
 intro a0 a1 a2 a3 a4 a5 a6 a7 k
 have ih0 := pinfoldref11_Full.mono_l k
 unfold pinfoldref11_Full.f
 repeat' first
   | (with_reducible exact ih0 _ _ _ _ _ _ _ _ _)
   | (with_reducible exact LeO.refl _)
   | (with_reducible exact LeO.none _)
   | (with_reducible refine LeO.ite ?_ ?_)
   | (with_reducible refine LeO.bind ?_ (fun _ => ?_))
   | exact ih0 _ _ _ _ _ _ _ _ _
   | exact LeO.none _
   | refine LeO.ite ?_ ?_
   | refine LeO.bind ?_ (fun _ => ?_)
set_option maxHeartbeats 8000000 in
set_option maxRecDepth 100000 in
theorem pinfoldref11_Full.calls (k : Nat) (a0_0 : Int) (a0_1 : Int) (A0_2 : Option Addr) (c0_2 : Nat) (l0_2 : List Int) (A0_3 : Option Addr) (c0_3 : Nat) (l0_3 : List (S47)) (a0_4 : Int) (a0_5 : ByteArray) (A0_6 : Option Addr) (c0_6 : Nat) (l0_6 : List (S49)) (a1 : ByteArray) (r : ByteArray) (w : World) (hr0_2 : Kd.C (Kd.int .i64) w A0_2 l0_2.length l0_2) (hc0_2 : l0_2.length ≤ c0_2) (hr0_3 : Kd.C k47 w A0_3 l0_3.length l0_3) (hc0_3 : l0_3.length ≤ c0_3) (hr0_6 : Kd.C k49 w A0_6 l0_6.length l0_6) (hc0_6 : l0_6.length ≤ c0_6) (h : pinfoldref11_Full.f k a0_0 a0_1 l0_2 l0_3 a0_4 a0_5 l0_6 a1 = some r) :
  Calls Tryd.prog 34 #[.agg #[.int .i64 a0_0, .int .i64 a0_1, .slice A0_2 l0_2.length c0_2, .slice A0_3 l0_3.length c0_3, .int .i64 a0_4, .string a0_5, .slice A0_6 l0_6.length c0_6], .string a1] w fun e w' => e = .returned (.string r) ∧ Below w.heap.size w w' := by
 have hu26 := Tryd.underlying26
 have HR0_2 := am_ hr0_2
 have HC0_2 := am_ hc0_2
 clear hr0_2 hc0_2
 have HR0_3 := am_ hr0_3
 have HC0_3 := am_ hc0_3
 clear hr0_3 hc0_3
 have HR0_6 := am_ hr0_6
 have HC0_6 := am_ hc0_6
 clear hr0_6 hc0_6
 have HB := am_ (Below.refl w.heap.size w)
 have H : ((pinfoldref11_ConfMay.f a0_0 a0_1 l0_2 l0_3 a0_4 a0_5 l0_6).bind fun t181 => (if t181 = true then (if a1.toList = ([] : List UInt8) then (pinfoldref11_Full.j0 k a1 true a0_0 a0_1 l0_2 l0_3 a0_4 a0_5 l0_6) else ((pinfoldref1_NameMay_c.f a1).bind fun t182 => (pinfoldref11_Full.j0 k a1 (!t182) a0_0 a0_1 l0_2 l0_3 a0_4 a0_5 l0_6))) else (pinfoldref11_Full.j0 k a1 true a0_0 a0_1 l0_2 l0_3 a0_4 a0_5 l0_6))) = some r := h
 clear h
 have HC3 := am_ H
 clear H
 go_enter Tryd.func34, Tryd.ntmps34
 go_upto_region 1 with (first | ((with_reducible refine gate_dst (N := 2) rfl ?_); refine box_event ?hg (N := 2) ?hd (cs := #[.int .i64 a0_0, .int .i64 a0_1, .slice A0_2 l0_2.length c0_2, .slice A0_3 l0_3.length c0_3, .int .i64 a0_4, .string a0_5, .slice A0_6 l0_6.length c0_6]) (t := 26) ?hr ?_; (case hd => rfl); (case hg => rfl); (case hr => first | (go_simp; done) | (go_simp; rfl)); intro gb180 hg w4 hbox hb; have n0_ := am_ (bt_ (by repeat (with_reducible first | exact HB.out | apply p3_ | apply p1_ | apply p2_)) hb); have n1_ := am_ (hbox); have n2_ := am_ ((by rw [hg]; exact (bz_ (by repeat (with_reducible first | exact HB.out | apply p3_ | apply p1_ | apply p2_))) : w.heap.size ≤ gb180)); have n3_ := am_ ((by rw [hg]; exact (bz_ (by repeat (with_reducible first | exact HB.out | apply p3_ | apply p1_ | apply p2_))) : w.heap.size ≤ gb180)); clear HB; have HB := n0_; have BK180 := n1_; have GW180 := n2_; have GE180 := n3_; clear n0_ n1_ n2_ n3_; clear hb hbox hg))
 (try simp only [Act.put, List.setIfInBounds_toArray, List.set_cons_zero, List.set_cons_succ])
 go_cut [16] (fun v16 wc => ∃ (kq : Nat) (x16_2 : Bool), v16 = .bool x16_2 ∧ Aside0 (pinfoldref11_Full.j0 kq a1 x16_2 a0_0 a0_1 l0_2 l0_3 a0_4 a0_5 l0_6 = some r) ∧ Aside0 (kq ≤ k) ∧ Aside0 (wc.heap[gb180]? = some (.cells #[.int .i64 a0_0, .int .i64 a0_1, (.slice A0_2 l0_2.length c0_2), (.slice A0_3 l0_3.length c0_3), .int .i64 a0_4, .string a0_5, (.slice A0_6 l0_6.length c0_6)] 26 (0, 0))) ∧ Aside0 (Below w.heap.size w wc))
 case first =>
  have H := HC3.out
  clear HC3
  replace H := e4_ H
  obtain ⟨t181, A50, H⟩ := H
  replace H : (if t181 = true then (if a1.toList = ([] : List UInt8) then (pinfoldref11_Full.j0 k a1 true a0_0 a0_1 l0_2 l0_3 a0_4 a0_5 l0_6) else ((pinfoldref1_NameMay_c.f a1).bind fun t182 => (pinfoldref11_Full.j0 k a1 (!t182) a0_0 a0_1 l0_2 l0_3 a0_4 a0_5 l0_6))) else (pinfoldref11_Full.j0 k a1 true a0_0 a0_1 l0_2 l0_3 a0_4 a0_5 l0_6)) = some r := H
  have A5 := am_ A50
  clear A50
  by_cases c6 : t181 = true
  ·subst c6
   have H1 : (if a1.toList = ([] : List UInt8) then (pinfoldref11_Full.j0 k a1 true a0_0 a0_1 l0_2 l0_3 a0_4 a0_5 l0_6) else ((pinfoldref1_NameMay_c.f a1).bind fun t182 => (pinfoldref11_Full.j0 k a1 (!t182) a0_0 a0_1 l0_2 l0_3 a0_4 a0_5 l0_6))) = some r := by rw [if_pos rfl] at H; exact H
   clear H
   have H := H1
   clear H1
   by_cases c7 : a1.toList = ([] : List UInt8)
   ·rw [if_pos c7] at H
    have c7b0 : (a1.toList == ([] : List UInt8)) = true := beq_iff_eq.mpr c7
    have c7b1 : (a1.toList != ([] : List UInt8)) = false := e1_ c7
    clear c7
    (first | rw [c7b0] | (simp only [i64_w, i32_w]; rw [c7b0]) | skip)
    have H' := am_ H
    clear H
    have hcz8_0 : w4.cell? ⟨gb180, 0, none⟩ = some (.int .i64 a0_0) := (bc_ BK180.out 0).trans rfl; have hcz8_1 : w4.cell? ⟨gb180, 1, none⟩ = some (.int .i64 a0_1) := (bc_ BK180.out 1).trans rfl; have hcz8_2 : w4.cell? ⟨gb180, 2, none⟩ = some (.slice A0_2 l0_2.length c0_2) := (bc_ BK180.out 2).trans rfl; have hcz8_3 : w4.cell? ⟨gb180, 3, none⟩ = some (.slice A0_3 l0_3.length c0_3) := (bc_ BK180.out 3).trans rfl; have hcz8_4 : w4.cell? ⟨gb180, 4, none⟩ = some (.int .i64 a0_4) := (bc_ BK180.out 4).trans rfl; have hcz8_5 : w4.cell? ⟨gb180, 5, none⟩ = some (.string a0_5) := (bc_ BK180.out 5).trans rfl; have hcz8_6 : w4.cell? ⟨gb180, 6, none⟩ = some (.slice A0_6 l0_6.length c0_6) := (bc_ BK180.out 6).trans rfl; have hfz8_0 := bf_ BK180.out 0; have hfz8_1 := bf_ BK180.out 1; have hfz8_2 := bf_ BK180.out 2; have hfz8_3 := bf_ BK180.out 3; have hfz8_4 := bf_ BK180.out 4; have hfz8_5 := bf_ BK180.out 5; have hfz8_6 := bf_ BK180.out 6
    go_wp2_with (first | ((with_reducible refine gate_callee (f := 21) rfl ?_); refine goesL_ (some 6) rfl rfl Tryd.func21 (by kernel_rfl) rfl #[.agg #[.int .i64 a0_0, .int .i64 a0_1, .slice A0_2 l0_2.length c0_2, .slice A0_3 l0_3.length c0_3, .int .i64 a0_4, .string a0_5, .slice A0_6 l0_6.length c0_6]] rfl (by (try simp only [List.map_toArray, List.map_cons, List.map_nil]); first | done | rfl | (simp only [List.length_drop, List.length_take]; rfl)) ?_; (with_reducible refine (pinfoldref11_ConfMay.calls a0_0 a0_1 _ _ l0_2 _ _ l0_3 a0_4 a0_5 _ _ l0_6 true _ ?side1 ?side2 ?side3 ?side4 ?side5 ?side6 A5.out).mono ?_); (case side1 => repeat (first | exact (c4_ HR0_2.out HB.out) | (with_reducible refine c1_ ?_ _) | (with_reducible refine c2_ ?_ _) | (with_reducible refine c3_ ?_))); (case side2 => exact HC0_2.out); (case side3 => repeat (first | exact (c4_ HR0_3.out HB.out) | (with_reducible refine c1_ ?_ _) | (with_reducible refine c2_ ?_ _) | (with_reducible refine c3_ ?_))); (case side4 => exact HC0_3.out); (case side5 => repeat (first | exact (c4_ HR0_6.out HB.out) | (with_reducible refine c1_ ?_ _) | (with_reducible refine c2_ ?_ _) | (with_reducible refine c3_ ?_))); (case side6 => exact HC0_6.out); rintro e w9 ⟨rfl, hb⟩; refine ⟨_, rfl, ?_⟩; have n0_ := am_ (kb_ (g := gb180) (o := .cells #[.int .i64 a0_0, .int .i64 a0_1, .slice A0_2 l0_2.length c0_2, .slice A0_3 l0_3.length c0_3, .int .i64 a0_4, .string a0_5, .slice A0_6 l0_6.length c0_6] 26 (0, 0)) (by (with_reducible repeat (first | refine k2_ ?_ _ | refine k3_ ?_ | refine k1_ ?_ _)); exact BK180.out) hb); have n1_ := am_ (bt_ (by repeat (with_reducible first | exact HB.out | apply p3_ | apply p1_ | apply p2_ | refine bs_ ?_ GE180.out)) hb); clear BK180; clear HB; have BK180 := n0_; have HB := n1_; clear n0_ n1_; (try clear hb)))
    go_meet
    case rel => exact ⟨_, (true), (by first | rfl | (simp; done) | (simp [*]; done) | (simp only [str_ne_]; rfl) | (simp only [str_eq_]; rfl)), H', ⟨by first | omega | exact Nat.le_refl _⟩, ⟨by (with_reducible repeat (first | refine k2_ ?_ _ | refine k3_ ?_ | refine k1_ ?_ _)); exact BK180.out⟩, ⟨by repeat (with_reducible first | exact HB.out | apply p3_ | apply p1_ | apply p2_ | refine bs_ ?_ GE180.out)⟩⟩
   rw [if_neg c7] at H
   have c7b0 : (a1.toList == ([] : List UInt8)) = false := e2_ c7
   have c7b1 : (a1.toList != ([] : List UInt8)) = true := bne_iff_ne.mpr c7
   (first | rw [c7b0] | (simp only [i64_w, i32_w]; rw [c7b0]) | skip)
   replace H := e4_ H
   obtain ⟨t182, A100, H⟩ := H
   replace H : (pinfoldref11_Full.j0 k a1 (!t182) a0_0 a0_1 l0_2 l0_3 a0_4 a0_5 l0_6) = some r := H
   have A10 := am_ A100
   clear A100
   have H' := am_ H
   clear H
   have hcz11_0 : w4.cell? ⟨gb180, 0, none⟩ = some (.int .i64 a0_0) := (bc_ BK180.out 0).trans rfl; have hcz11_1 : w4.cell? ⟨gb180, 1, none⟩ = some (.int .i64 a0_1) := (bc_ BK180.out 1).trans rfl; have hcz11_2 : w4.cell? ⟨gb180, 2, none⟩ = some (.slice A0_2 l0_2.length c0_2) := (bc_ BK180.out 2).trans rfl; have hcz11_3 : w4.cell? ⟨gb180, 3, none⟩ = some (.slice A0_3 l0_3.length c0_3) := (bc_ BK180.out 3).trans rfl; have hcz11_4 : w4.cell? ⟨gb180, 4, none⟩ = some (.int .i64 a0_4) := (bc_ BK180.out 4).trans rfl; have hcz11_5 : w4.cell? ⟨gb180, 5, none⟩ = some (.string a0_5) := (bc_ BK180.out 5).trans rfl; have hcz11_6 : w4.cell? ⟨gb180, 6, none⟩ = some (.slice A0_6 l0_6.length c0_6) := (bc_ BK180.out 6).trans rfl; have hfz11_0 := bf_ BK180.out 0; have hfz11_1 := bf_ BK180.out 1; have hfz11_2 := bf_ BK180.out 2; have hfz11_3 := bf_ BK180.out 3; have hfz11_4 := bf_ BK180.out 4; have hfz11_5 := bf_ BK180.out 5; have hfz11_6 := bf_ BK180.out 6
   go_wp2_with (first | ((with_reducible refine gate_callee (f := 21) rfl ?_); refine goesL_ (some 6) rfl rfl Tryd.func21 (by kernel_rfl) rfl #[.agg #[.int .i64 a0_0, .int .i64 a0_1, .slice A0_2 l0_2.length c0_2, .slice A0_3 l0_3.length c0_3, .int .i64 a0_4, .string a0_5, .slice A0_6 l0_6.length c0_6]] rfl (by (try simp only [List.map_toArray, List.map_cons, List.map_nil]); first | done | rfl | (simp only [List.length_drop, List.length_take]; rfl)) ?_; (with_reducible refine (pinfoldref11_ConfMay.calls a0_0 a0_1 _ _ l0_2 _ _ l0_3 a0_4 a0_5 _ _ l0_6 true _ ?side1 ?side2 ?side3 ?side4 ?side5 ?side6 A5.out).mono ?_); (case side1 => repeat (first | exact (c4_ HR0_2.out HB.out) | (with_reducible refine c1_ ?_ _) | (with_reducible refine c2_ ?_ _) | (with_reducible refine c3_ ?_))); (case side2 => exact HC0_2.out); (case side3 => repeat (first | exact (c4_ HR0_3.out HB.out) | (with_reducible refine c1_ ?_ _) | (with_reducible refine c2_ ?_ _) | (with_reducible refine c3_ ?_))); (case side4 => exact HC0_3.out); (case side5 => repeat (first | exact (c4_ HR0_6.out HB.out) | (with_reducible refine c1_ ?_ _) | (with_reducible refine c2_ ?_ _) | (with_reducible refine c3_ ?_))); (case side6 => exact HC0_6.out); rintro e w12 ⟨rfl, hb⟩; refine ⟨_, rfl, ?_⟩; have n0_ := am_ (kb_ (g := gb180) (o := .cells #[.int .i64 a0_0, .int .i64 a0_1, .slice A0_2 l0_2.length c0_2, .slice A0_3 l0_3.length c0_3, .int .i64 a0_4, .string a0_5, .slice A0_6 l0_6.length c0_6] 26 (0, 0)) (by (with_reducible repeat (first | refine k2_ ?_ _ | refine k3_ ?_ | refine k1_ ?_ _)); exact BK180.out) hb); have n1_ := am_ (bt_ (by repeat (with_reducible first | exact HB.out | apply p3_ | apply p1_ | apply p2_ | refine bs_ ?_ GE180.out)) hb); clear BK180; clear HB; have BK180 := n0_; have HB := n1_; clear n0_ n1_; (try clear hb)) | (go_at_call 46; (with_reducible refine (pinfoldref1_NameMay_c.calls a1 t182 _ A10.out).mono ?_); rintro e w13 ⟨rfl, hb⟩; have n0_ := am_ (kb_ (g := gb180) (o := .cells #[.int .i64 a0_0, .int .i64 a0_1, .slice A0_2 l0_2.length c0_2, .slice A0_3 l0_3.length c0_3, .int .i64 a0_4, .string a0_5, .slice A0_6 l0_6.length c0_6] 26 (0, 0)) (by (with_reducible repeat (first | refine k2_ ?_ _ | refine k3_ ?_ | refine k1_ ?_ _)); exact BK180.out) hb); have n1_ := am_ (bt_ (by repeat (with_reducible first | exact HB.out | apply p3_ | apply p1_ | apply p2_ | refine bs_ ?_ GE180.out)) hb); clear BK180; clear HB; have BK180 := n0_; have HB := n1_; clear n0_ n1_; (try clear hb)))
   go_meet
   case rel => exact ⟨_, (!t182), (by first | rfl | (simp; done) | (simp [*]; done) | (simp only [str_ne_]; rfl) | (simp only [str_eq_]; rfl)), H', ⟨by first | omega | exact Nat.le_refl _⟩, ⟨by (with_reducible repeat (first | refine k2_ ?_ _ | refine k3_ ?_ | refine k1_ ?_ _)); exact BK180.out⟩, ⟨by repeat (with_reducible first | exact HB.out | apply p3_ | apply p1_ | apply p2_ | refine bs_ ?_ GE180.out)⟩⟩
  replace c6 := e3_ c6
  subst c6
  have H1 : (pinfoldref11_Full.j0 k a1 true a0_0 a0_1 l0_2 l0_3 a0_4 a0_5 l0_6) = some r := by rw [if_neg (show ¬ (false = true) by decide)] at H; exact H
  clear H
  have H := H1
  clear H1
  have H' := am_ H
  clear H
  have hcz14_0 : w4.cell? ⟨gb180, 0, none⟩ = some (.int .i64 a0_0) := (bc_ BK180.out 0).trans rfl; have hcz14_1 : w4.cell? ⟨gb180, 1, none⟩ = some (.int .i64 a0_1) := (bc_ BK180.out 1).trans rfl; have hcz14_2 : w4.cell? ⟨gb180, 2, none⟩ = some (.slice A0_2 l0_2.length c0_2) := (bc_ BK180.out 2).trans rfl; have hcz14_3 : w4.cell? ⟨gb180, 3, none⟩ = some (.slice A0_3 l0_3.length c0_3) := (bc_ BK180.out 3).trans rfl; have hcz14_4 : w4.cell? ⟨gb180, 4, none⟩ = some (.int .i64 a0_4) := (bc_ BK180.out 4).trans rfl; have hcz14_5 : w4.cell? ⟨gb180, 5, none⟩ = some (.string a0_5) := (bc_ BK180.out 5).trans rfl; have hcz14_6 : w4.cell? ⟨gb180, 6, none⟩ = some (.slice A0_6 l0_6.length c0_6) := (bc_ BK180.out 6).trans rfl; have hfz14_0 := bf_ BK180.out 0; have hfz14_1 := bf_ BK180.out 1; have hfz14_2 := bf_ BK180.out 2; have hfz14_3 := bf_ BK180.out 3; have hfz14_4 := bf_ BK180.out 4; have hfz14_5 := bf_ BK180.out 5; have hfz14_6 := bf_ BK180.out 6
  go_wp2_with (first | ((with_reducible refine gate_callee (f := 21) rfl ?_); refine goesL_ (some 6) rfl rfl Tryd.func21 (by kernel_rfl) rfl #[.agg #[.int .i64 a0_0, .int .i64 a0_1, .slice A0_2 l0_2.length c0_2, .slice A0_3 l0_3.length c0_3, .int .i64 a0_4, .string a0_5, .slice A0_6 l0_6.length c0_6]] rfl (by (try simp only [List.map_toArray, List.map_cons, List.map_nil]); first | done | rfl | (simp only [List.length_drop, List.length_take]; rfl)) ?_; (with_reducible refine (pinfoldref11_ConfMay.calls a0_0 a0_1 _ _ l0_2 _ _ l0_3 a0_4 a0_5 _ _ l0_6 false _ ?side1 ?side2 ?side3 ?side4 ?side5 ?side6 A5.out).mono ?_); (case side1 => repeat (first | exact (c4_ HR0_2.out HB.out) | (with_reducible refine c1_ ?_ _) | (with_reducible refine c2_ ?_ _) | (with_reducible refine c3_ ?_))); (case side2 => exact HC0_2.out); (case side3 => repeat (first | exact (c4_ HR0_3.out HB.out) | (with_reducible refine c1_ ?_ _) | (with_reducible refine c2_ ?_ _) | (with_reducible refine c3_ ?_))); (case side4 => exact HC0_3.out); (case side5 => repeat (first | exact (c4_ HR0_6.out HB.out) | (with_reducible refine c1_ ?_ _) | (with_reducible refine c2_ ?_ _) | (with_reducible refine c3_ ?_))); (case side6 => exact HC0_6.out); rintro e w15 ⟨rfl, hb⟩; refine ⟨_, rfl, ?_⟩; have n0_ := am_ (kb_ (g := gb180) (o := .cells #[.int .i64 a0_0, .int .i64 a0_1, .slice A0_2 l0_2.length c0_2, .slice A0_3 l0_3.length c0_3, .int .i64 a0_4, .string a0_5, .slice A0_6 l0_6.length c0_6] 26 (0, 0)) (by (with_reducible repeat (first | refine k2_ ?_ _ | refine k3_ ?_ | refine k1_ ?_ _)); exact BK180.out) hb); have n1_ := am_ (bt_ (by repeat (with_reducible first | exact HB.out | apply p3_ | apply p1_ | apply p2_ | refine bs_ ?_ GE180.out)) hb); clear BK180; clear HB; have BK180 := n0_; have HB := n1_; clear n0_ n1_; (try clear hb)))
  go_meet
  case rel => exact ⟨_, (true), (by first | rfl | (simp; done) | (simp [*]; done) | (simp only [str_ne_]; rfl) | (simp only [str_eq_]; rfl)), H', ⟨by first | omega | exact Nat.le_refl _⟩, ⟨by (with_reducible repeat (first | refine k2_ ?_ _ | refine k3_ ?_ | refine k1_ ?_ _)); exact BK180.out⟩, ⟨by repeat (with_reducible first | exact HB.out | apply p3_ | apply p1_ | apply p2_ | refine bs_ ?_ GE180.out)⟩⟩
 case rest =>
  clear HC3
  obtain ⟨kq, x16_2, rfl, HA, HJ2, BK180, HB⟩ := hcut
  cases kq with
  | zero => exact absurd HA.out (by simp [pinfoldref11_Full.j0])
  | succ kj2 =>
   have H := HA.out
   clear HA
   simp only [pinfoldref11_Full.j0] at H
   by_cases c16 : x16_2 = true
   ·subst c16
    have H1 : (some (⟨#[]⟩ : ByteArray)) = some r := by rw [if_pos rfl] at H; exact H
    clear H
    have H := H1
    clear H1
    obtain rfl := e5_ H
    go_wp2
    go_ret
    exact ⟨by first | rfl | (simp [errW_none, errW_some] <;> rfl) | (simp [*, errW_none, errW_some] <;> rfl) | (simp only [str_ne_]; rfl) | (simp only [str_eq_]; rfl), by repeat (with_reducible first | exact HB.out | apply p3_ | apply p1_ | apply p2_ | refine bs_ ?_ GE180.out)⟩
   replace c16 := e3_ c16
   subst c16
   have H1 : ((pinfoldref1_Labels_c.f a1).bind fun t183 => (if (t183.length : Int) = 1 then (if a1.size + 1 ≤ 9223372036854775807 then (if (a1 ++ (⟨#[46]⟩ : ByteArray)).size + a0_5.size ≤ 9223372036854775807 then (if ((a1 ++ (⟨#[46]⟩ : ByteArray)) ++ a0_5).toList = a0_5.toList then (some (⟨#[]⟩ : ByteArray)) else ((pinfoldref1_Under_c.f ((a1 ++ (⟨#[46]⟩ : ByteArray)) ++ a0_5) a0_5).bind fun t186 => (if t186 = true then (some ((a1 ++ (⟨#[46]⟩ : ByteArray)) ++ a0_5)) else (some (⟨#[]⟩ : ByteArray))))) else (none)) else (none)) else (if a1.toList = a0_5.toList then (some (⟨#[]⟩ : ByteArray)) else ((pinfoldref1_Under_c.f a1 a0_5).bind fun t187 => (if t187 = true then (some a1) else (some (⟨#[]⟩ : ByteArray))))))) = some r := by rw [if_neg (show ¬ (false = true) by decide)] at H; exact H
   clear H
   have H := H1
   clear H1
   replace H := e4_ H
   obtain ⟨t183, A170, H⟩ := H
   replace H : (if (t183.length : Int) = 1 then (if a1.size + 1 ≤ 9223372036854775807 then (if (a1 ++ (⟨#[46]⟩ : ByteArray)).size + a0_5.size ≤ 9223372036854775807 then (if ((a1 ++ (⟨#[46]⟩ : ByteArray)) ++ a0_5).toList = a0_5.toList then (some (⟨#[]⟩ : ByteArray)) else ((pinfoldref1_Under_c.f ((a1 ++ (⟨#[46]⟩ : ByteArray)) ++ a0_5) a0_5).bind fun t186 => (if t186 = true then (some ((a1 ++ (⟨#[46]⟩ : ByteArray)) ++ a0_5)) else (some (⟨#[]⟩ : ByteArray))))) else (none)) else (none)) else (if a1.toList = a0_5.toList then (some (⟨#[]⟩ : ByteArray)) else ((pinfoldref1_Under_c.f a1 a0_5).bind fun t187 => (if t187 = true then (some a1) else (some (⟨#[]⟩ : ByteArray)))))) = some r := H
   have A17 := am_ A170
   clear A170
   by_cases c18 : (t183.length : Int) = 1
   ·rw [if_pos c18] at H
    have c18b0 : ((t183.length : Int) == 1) = true := beq_iff_eq.mpr c18
    have c18b1 : ((t183.length : Int) != 1) = false := e1_ c18
    clear c18
    by_cases c19 : a1.size + 1 ≤ 9223372036854775807
    rotate_left
    ·rw [if_neg c19] at H
     exact absurd H (by simp)
    rw [if_pos c19] at H
    have c19b0 := eq_true c19
    have c19b1 : decide (a1.size + 1 ≤ 9223372036854775807) = true := decide_eq_true c19
    try have c19b2 : (9223372036854775807 < a1.size + 1) = False := eq_false (Nat.not_lt.2 c19)
    by_cases c20 : (a1 ++ (⟨#[46]⟩ : ByteArray)).size + a0_5.size ≤ 9223372036854775807
    rotate_left
    ·rw [if_neg c20] at H
     exact absurd H (by simp)
    rw [if_pos c20] at H
    have c20b0 := eq_true c20
    have c20b1 : decide ((a1 ++ (⟨#[46]⟩ : ByteArray)).size + a0_5.size ≤ 9223372036854775807) = true := decide_eq_true c20
    try have c20b2 : (9223372036854775807 < (a1 ++ (⟨#[46]⟩ : ByteArray)).size + a0_5.size) = False := eq_false (Nat.not_lt.2 c20)
    by_cases c21 : ((a1 ++ (⟨#[46]⟩ : ByteArray)) ++ a0_5).toList = a0_5.toList
    ·rw [if_pos c21] at H
     have c21b0 : (((a1 ++ (⟨#[46]⟩ : ByteArray)) ++ a0_5).toList == a0_5.toList) = true := beq_iff_eq.mpr c21
     have c21b1 : (((a1 ++ (⟨#[46]⟩ : ByteArray)) ++ a0_5).toList != a0_5.toList) = false := e1_ c21
     clear c21
     obtain rfl := e5_ H
     go_wp2_with (first | ((with_reducible refine gate_callee (f := 47) rfl ?_); refine goesL_ (some 18) rfl rfl Tryd.func47 (by kernel_rfl) rfl #[.string a1] rfl (by (try simp only [List.map_toArray, List.map_cons, List.map_nil]); first | done | rfl | (simp only [List.length_drop, List.length_take]; rfl)) ?_; (with_reducible refine (pinfoldref1_Labels_c.calls a1 t183 _ A17.out).mono ?_); rintro e w22 ⟨v184, rfl, ho0, hb⟩; refine ⟨_, rfl, ?_⟩; have n0_ := am_ (Kd.R_lower ho0 (bz_ (by repeat (with_reducible first | exact HB.out | apply p3_ | apply p1_ | apply p2_ | refine bs_ ?_ GE180.out)))); have n1_ := am_ (kb_ (g := gb180) (o := .cells #[.int .i64 a0_0, .int .i64 a0_1, .slice A0_2 l0_2.length c0_2, .slice A0_3 l0_3.length c0_3, .int .i64 a0_4, .string a0_5, .slice A0_6 l0_6.length c0_6] 26 (0, 0)) (by (with_reducible repeat (first | refine k2_ ?_ _ | refine k3_ ?_ | refine k1_ ?_ _)); exact BK180.out) hb); have n2_ := am_ (bt_ (by repeat (with_reducible first | exact HB.out | apply p3_ | apply p1_ | apply p2_ | refine bs_ ?_ GE180.out)) hb); clear BK180; clear HB; have HO185 := n0_; have BK180 := n1_; have HB := n2_; clear n0_ n1_ n2_; (try clear hb); (try clear ho0); obtain ⟨Ao23, co23, eo23⟩ := Kd.R_slice HO185.out; subst eo23; have hcz24_0 : w22.cell? ⟨gb180, 0, none⟩ = some (.int .i64 a0_0) := (bc_ BK180.out 0).trans rfl; have hcz24_1 : w22.cell? ⟨gb180, 1, none⟩ = some (.int .i64 a0_1) := (bc_ BK180.out 1).trans rfl; have hcz24_2 : w22.cell? ⟨gb180, 2, none⟩ = some (.slice A0_2 l0_2.length c0_2) := (bc_ BK180.out 2).trans rfl; have hcz24_3 : w22.cell? ⟨gb180, 3, none⟩ = some (.slice A0_3 l0_3.length c0_3) := (bc_ BK180.out 3).trans rfl; have hcz24_4 : w22.cell? ⟨gb180, 4, none⟩ = some (.int .i64 a0_4) := (bc_ BK180.out 4).trans rfl; have hcz24_5 : w22.cell? ⟨gb180, 5, none⟩ = some (.string a0_5) := (bc_ BK180.out 5).trans rfl; have hcz24_6 : w22.cell? ⟨gb180, 6, none⟩ = some (.slice A0_6 l0_6.length c0_6) := (bc_ BK180.out 6).trans rfl; have hfz24_0 := bf_ BK180.out 0; have hfz24_1 := bf_ BK180.out 1; have hfz24_2 := bf_ BK180.out 2; have hfz24_3 := bf_ BK180.out 3; have hfz24_4 := bf_ BK180.out 4; have hfz24_5 := bf_ BK180.out 5; have hfz24_6 := bf_ BK180.out 6))
     go_ret
     exact ⟨by first | rfl | (simp [errW_none, errW_some] <;> rfl) | (simp [*, errW_none, errW_some] <;> rfl) | (simp only [str_ne_]; rfl) | (simp only [str_eq_]; rfl), by repeat (with_reducible first | exact HB.out | apply p3_ | apply p1_ | apply p2_ | refine bs_ ?_ GE180.out)⟩
    rw [if_neg c21] at H
    have c21b0 : (((a1 ++ (⟨#[46]⟩ : ByteArray)) ++ a0_5).toList == a0_5.toList) = false := e2_ c21
    have c21b1 : (((a1 ++ (⟨#[46]⟩ : ByteArray)) ++ a0_5).toList != a0_5.toList) = true := bne_iff_ne.mpr c21
    replace H := e4_ H
    obtain ⟨t186, A250, H⟩ := H
    replace H : (if t186 = true then (some ((a1 ++ (⟨#[46]⟩ : ByteArray)) ++ a0_5)) else (some (⟨#[]⟩ : ByteArray))) = some r := H
    have A25 := am_ A250
    clear A250
    by_cases c26 : t186 = true
    ·subst c26
     have H1 : (some ((a1 ++ (⟨#[46]⟩ : ByteArray)) ++ a0_5)) = some r := by rw [if_pos rfl] at H; exact H
     clear H
     have H := H1
     clear H1
     obtain rfl := e5_ H
     go_wp2_with (first | ((with_reducible refine gate_callee (f := 47) rfl ?_); refine goesL_ (some 18) rfl rfl Tryd.func47 (by kernel_rfl) rfl #[.string a1] rfl (by (try simp only [List.map_toArray, List.map_cons, List.map_nil]); first | done | rfl | (simp only [List.length_drop, List.length_take]; rfl)) ?_; (with_reducible refine (pinfoldref1_Labels_c.calls a1 t183 _ A17.out).mono ?_); rintro e w27 ⟨v184, rfl, ho0, hb⟩; refine ⟨_, rfl, ?_⟩; have n0_ := am_ (Kd.R_lower ho0 (bz_ (by repeat (with_reducible first | exact HB.out | apply p3_ | apply p1_ | apply p2_ | refine bs_ ?_ GE180.out)))); have n1_ := am_ (kb_ (g := gb180) (o := .cells #[.int .i64 a0_0, .int .i64 a0_1, .slice A0_2 l0_2.length c0_2, .slice A0_3 l0_3.length c0_3, .int .i64 a0_4, .string a0_5, .slice A0_6 l0_6.length c0_6] 26 (0, 0)) (by (with_reducible repeat (first | refine k2_ ?_ _ | refine k3_ ?_ | refine k1_ ?_ _)); exact BK180.out) hb); have n2_ := am_ (bt_ (by repeat (with_reducible first | exact HB.out | apply p3_ | apply p1_ | apply p2_ | refine bs_ ?_ GE180.out)) hb); clear BK180; clear HB; have HO185 := n0_; have BK180 := n1_; have HB := n2_; clear n0_ n1_ n2_; (try clear hb); (try clear ho0); obtain ⟨Ao28, co28, eo28⟩ := Kd.R_slice HO185.out; subst eo28; have hcz29_0 : w27.cell? ⟨gb180, 0, none⟩ = some (.int .i64 a0_0) := (bc_ BK180.out 0).trans rfl; have hcz29_1 : w27.cell? ⟨gb180, 1, none⟩ = some (.int .i64 a0_1) := (bc_ BK180.out 1).trans rfl; have hcz29_2 : w27.cell? ⟨gb180, 2, none⟩ = some (.slice A0_2 l0_2.length c0_2) := (bc_ BK180.out 2).trans rfl; have hcz29_3 : w27.cell? ⟨gb180, 3, none⟩ = some (.slice A0_3 l0_3.length c0_3) := (bc_ BK180.out 3).trans rfl; have hcz29_4 : w27.cell? ⟨gb180, 4, none⟩ = some (.int .i64 a0_4) := (bc_ BK180.out 4).trans rfl; have hcz29_5 : w27.cell? ⟨gb180, 5, none⟩ = some (.string a0_5) := (bc_ BK180.out 5).trans rfl; have hcz29_6 : w27.cell? ⟨gb180, 6, none⟩ = some (.slice A0_6 l0_6.length c0_6) := (bc_ BK180.out 6).trans rfl; have hfz29_0 := bf_ BK180.out 0; have hfz29_1 := bf_ BK180.out 1; have hfz29_2 := bf_ BK180.out 2; have hfz29_3 := bf_ BK180.out 3; have hfz29_4 := bf_ BK180.out 4; have hfz29_5 := bf_ BK180.out 5; have hfz29_6 := bf_ BK180.out 6) | (go_at_call 59; (with_reducible refine (pinfoldref1_Under_c.calls ((a1 ++ (⟨#[46]⟩ : ByteArray)) ++ a0_5) a0_5 true _ A25.out).mono ?_); rintro e w30 ⟨rfl, hb⟩; have n0_ := am_ (Kd.R_below (by (with_reducible repeat (first | apply r1_ | apply r2_ | apply r3_)); exact HO185.out) hb); have n1_ := am_ (kb_ (g := gb180) (o := .cells #[.int .i64 a0_0, .int .i64 a0_1, .slice A0_2 l0_2.length c0_2, .slice A0_3 l0_3.length c0_3, .int .i64 a0_4, .string a0_5, .slice A0_6 l0_6.length c0_6] 26 (0, 0)) (by (with_reducible repeat (first | refine k2_ ?_ _ | refine k3_ ?_ | refine k1_ ?_ _)); exact BK180.out) hb); have n2_ := am_ (bt_ (by repeat (with_reducible first | exact HB.out | apply p3_ | apply p1_ | apply p2_ | refine bs_ ?_ GE180.out)) hb); clear HO185; clear BK180; clear HB; have HO185 := n0_; have BK180 := n1_; have HB := n2_; clear n0_ n1_ n2_; (try clear hb)))
     go_ret
     exact ⟨by first | rfl | (simp [errW_none, errW_some] <;> rfl) | (simp [*, errW_none, errW_some] <;> rfl) | (simp only [str_ne_]; rfl) | (simp only [str_eq_]; rfl), by repeat (with_reducible first | exact HB.out | apply p3_ | apply p1_ | apply p2_ | refine bs_ ?_ GE180.out)⟩
    replace c26 := e3_ c26
    subst c26
    have H1 : (some (⟨#[]⟩ : ByteArray)) = some r := by rw [if_neg (show ¬ (false = true) by decide)] at H; exact H
    clear H
    have H := H1
    clear H1
    obtain rfl := e5_ H
    go_wp2_with (first | ((with_reducible refine gate_callee (f := 47) rfl ?_); refine goesL_ (some 18) rfl rfl Tryd.func47 (by kernel_rfl) rfl #[.string a1] rfl (by (try simp only [List.map_toArray, List.map_cons, List.map_nil]); first | done | rfl | (simp only [List.length_drop, List.length_take]; rfl)) ?_; (with_reducible refine (pinfoldref1_Labels_c.calls a1 t183 _ A17.out).mono ?_); rintro e w31 ⟨v184, rfl, ho0, hb⟩; refine ⟨_, rfl, ?_⟩; have n0_ := am_ (Kd.R_lower ho0 (bz_ (by repeat (with_reducible first | exact HB.out | apply p3_ | apply p1_ | apply p2_ | refine bs_ ?_ GE180.out)))); have n1_ := am_ (kb_ (g := gb180) (o := .cells #[.int .i64 a0_0, .int .i64 a0_1, .slice A0_2 l0_2.length c0_2, .slice A0_3 l0_3.length c0_3, .int .i64 a0_4, .string a0_5, .slice A0_6 l0_6.length c0_6] 26 (0, 0)) (by (with_reducible repeat (first | refine k2_ ?_ _ | refine k3_ ?_ | refine k1_ ?_ _)); exact BK180.out) hb); have n2_ := am_ (bt_ (by repeat (with_reducible first | exact HB.out | apply p3_ | apply p1_ | apply p2_ | refine bs_ ?_ GE180.out)) hb); clear BK180; clear HB; have HO185 := n0_; have BK180 := n1_; have HB := n2_; clear n0_ n1_ n2_; (try clear hb); (try clear ho0); obtain ⟨Ao32, co32, eo32⟩ := Kd.R_slice HO185.out; subst eo32; have hcz33_0 : w31.cell? ⟨gb180, 0, none⟩ = some (.int .i64 a0_0) := (bc_ BK180.out 0).trans rfl; have hcz33_1 : w31.cell? ⟨gb180, 1, none⟩ = some (.int .i64 a0_1) := (bc_ BK180.out 1).trans rfl; have hcz33_2 : w31.cell? ⟨gb180, 2, none⟩ = some (.slice A0_2 l0_2.length c0_2) := (bc_ BK180.out 2).trans rfl; have hcz33_3 : w31.cell? ⟨gb180, 3, none⟩ = some (.slice A0_3 l0_3.length c0_3) := (bc_ BK180.out 3).trans rfl; have hcz33_4 : w31.cell? ⟨gb180, 4, none⟩ = some (.int .i64 a0_4) := (bc_ BK180.out 4).trans rfl; have hcz33_5 : w31.cell? ⟨gb180, 5, none⟩ = some (.string a0_5) := (bc_ BK180.out 5).trans rfl; have hcz33_6 : w31.cell? ⟨gb180, 6, none⟩ = some (.slice A0_6 l0_6.length c0_6) := (bc_ BK180.out 6).trans rfl; have hfz33_0 := bf_ BK180.out 0; have hfz33_1 := bf_ BK180.out 1; have hfz33_2 := bf_ BK180.out 2; have hfz33_3 := bf_ BK180.out 3; have hfz33_4 := bf_ BK180.out 4; have hfz33_5 := bf_ BK180.out 5; have hfz33_6 := bf_ BK180.out 6) | (go_at_call 59; (with_reducible refine (pinfoldref1_Under_c.calls ((a1 ++ (⟨#[46]⟩ : ByteArray)) ++ a0_5) a0_5 false _ A25.out).mono ?_); rintro e w34 ⟨rfl, hb⟩; have n0_ := am_ (Kd.R_below (by (with_reducible repeat (first | apply r1_ | apply r2_ | apply r3_)); exact HO185.out) hb); have n1_ := am_ (kb_ (g := gb180) (o := .cells #[.int .i64 a0_0, .int .i64 a0_1, .slice A0_2 l0_2.length c0_2, .slice A0_3 l0_3.length c0_3, .int .i64 a0_4, .string a0_5, .slice A0_6 l0_6.length c0_6] 26 (0, 0)) (by (with_reducible repeat (first | refine k2_ ?_ _ | refine k3_ ?_ | refine k1_ ?_ _)); exact BK180.out) hb); have n2_ := am_ (bt_ (by repeat (with_reducible first | exact HB.out | apply p3_ | apply p1_ | apply p2_ | refine bs_ ?_ GE180.out)) hb); clear HO185; clear BK180; clear HB; have HO185 := n0_; have BK180 := n1_; have HB := n2_; clear n0_ n1_ n2_; (try clear hb)))
    go_ret
    exact ⟨by first | rfl | (simp [errW_none, errW_some] <;> rfl) | (simp [*, errW_none, errW_some] <;> rfl) | (simp only [str_ne_]; rfl) | (simp only [str_eq_]; rfl), by repeat (with_reducible first | exact HB.out | apply p3_ | apply p1_ | apply p2_ | refine bs_ ?_ GE180.out)⟩
   rw [if_neg c18] at H
   have c18b0 : ((t183.length : Int) == 1) = false := e2_ c18
   have c18b1 : ((t183.length : Int) != 1) = true := bne_iff_ne.mpr c18
   by_cases c35 : a1.toList = a0_5.toList
   ·rw [if_pos c35] at H
    have c35b0 : (a1.toList == a0_5.toList) = true := beq_iff_eq.mpr c35
    have c35b1 : (a1.toList != a0_5.toList) = false := e1_ c35
    clear c35
    obtain rfl := e5_ H
    go_wp2_with (first | ((with_reducible refine gate_callee (f := 47) rfl ?_); refine goesL_ (some 18) rfl rfl Tryd.func47 (by kernel_rfl) rfl #[.string a1] rfl (by (try simp only [List.map_toArray, List.map_cons, List.map_nil]); first | done | rfl | (simp only [List.length_drop, List.length_take]; rfl)) ?_; (with_reducible refine (pinfoldref1_Labels_c.calls a1 t183 _ A17.out).mono ?_); rintro e w36 ⟨v184, rfl, ho0, hb⟩; refine ⟨_, rfl, ?_⟩; have n0_ := am_ (Kd.R_lower ho0 (bz_ (by repeat (with_reducible first | exact HB.out | apply p3_ | apply p1_ | apply p2_ | refine bs_ ?_ GE180.out)))); have n1_ := am_ (kb_ (g := gb180) (o := .cells #[.int .i64 a0_0, .int .i64 a0_1, .slice A0_2 l0_2.length c0_2, .slice A0_3 l0_3.length c0_3, .int .i64 a0_4, .string a0_5, .slice A0_6 l0_6.length c0_6] 26 (0, 0)) (by (with_reducible repeat (first | refine k2_ ?_ _ | refine k3_ ?_ | refine k1_ ?_ _)); exact BK180.out) hb); have n2_ := am_ (bt_ (by repeat (with_reducible first | exact HB.out | apply p3_ | apply p1_ | apply p2_ | refine bs_ ?_ GE180.out)) hb); clear BK180; clear HB; have HO185 := n0_; have BK180 := n1_; have HB := n2_; clear n0_ n1_ n2_; (try clear hb); (try clear ho0); obtain ⟨Ao37, co37, eo37⟩ := Kd.R_slice HO185.out; subst eo37; have hcz38_0 : w36.cell? ⟨gb180, 0, none⟩ = some (.int .i64 a0_0) := (bc_ BK180.out 0).trans rfl; have hcz38_1 : w36.cell? ⟨gb180, 1, none⟩ = some (.int .i64 a0_1) := (bc_ BK180.out 1).trans rfl; have hcz38_2 : w36.cell? ⟨gb180, 2, none⟩ = some (.slice A0_2 l0_2.length c0_2) := (bc_ BK180.out 2).trans rfl; have hcz38_3 : w36.cell? ⟨gb180, 3, none⟩ = some (.slice A0_3 l0_3.length c0_3) := (bc_ BK180.out 3).trans rfl; have hcz38_4 : w36.cell? ⟨gb180, 4, none⟩ = some (.int .i64 a0_4) := (bc_ BK180.out 4).trans rfl; have hcz38_5 : w36.cell? ⟨gb180, 5, none⟩ = some (.string a0_5) := (bc_ BK180.out 5).trans rfl; have hcz38_6 : w36.cell? ⟨gb180, 6, none⟩ = some (.slice A0_6 l0_6.length c0_6) := (bc_ BK180.out 6).trans rfl; have hfz38_0 := bf_ BK180.out 0; have hfz38_1 := bf_ BK180.out 1; have hfz38_2 := bf_ BK180.out 2; have hfz38_3 := bf_ BK180.out 3; have hfz38_4 := bf_ BK180.out 4; have hfz38_5 := bf_ BK180.out 5; have hfz38_6 := bf_ BK180.out 6))
    go_ret
    exact ⟨by first | rfl | (simp [errW_none, errW_some] <;> rfl) | (simp [*, errW_none, errW_some] <;> rfl) | (simp only [str_ne_]; rfl) | (simp only [str_eq_]; rfl), by repeat (with_reducible first | exact HB.out | apply p3_ | apply p1_ | apply p2_ | refine bs_ ?_ GE180.out)⟩
   rw [if_neg c35] at H
   have c35b0 : (a1.toList == a0_5.toList) = false := e2_ c35
   have c35b1 : (a1.toList != a0_5.toList) = true := bne_iff_ne.mpr c35
   replace H := e4_ H
   obtain ⟨t187, A390, H⟩ := H
   replace H : (if t187 = true then (some a1) else (some (⟨#[]⟩ : ByteArray))) = some r := H
   have A39 := am_ A390
   clear A390
   by_cases c40 : t187 = true
   ·subst c40
    have H1 : (some a1) = some r := by rw [if_pos rfl] at H; exact H
    clear H
    have H := H1
    clear H1
    obtain rfl := e5_ H
    go_wp2_with (first | ((with_reducible refine gate_callee (f := 47) rfl ?_); refine goesL_ (some 18) rfl rfl Tryd.func47 (by kernel_rfl) rfl #[.string a1] rfl (by (try simp only [List.map_toArray, List.map_cons, List.map_nil]); first | done | rfl | (simp only [List.length_drop, List.length_take]; rfl)) ?_; (with_reducible refine (pinfoldref1_Labels_c.calls a1 t183 _ A17.out).mono ?_); rintro e w41 ⟨v184, rfl, ho0, hb⟩; refine ⟨_, rfl, ?_⟩; have n0_ := am_ (Kd.R_lower ho0 (bz_ (by repeat (with_reducible first | exact HB.out | apply p3_ | apply p1_ | apply p2_ | refine bs_ ?_ GE180.out)))); have n1_ := am_ (kb_ (g := gb180) (o := .cells #[.int .i64 a0_0, .int .i64 a0_1, .slice A0_2 l0_2.length c0_2, .slice A0_3 l0_3.length c0_3, .int .i64 a0_4, .string a0_5, .slice A0_6 l0_6.length c0_6] 26 (0, 0)) (by (with_reducible repeat (first | refine k2_ ?_ _ | refine k3_ ?_ | refine k1_ ?_ _)); exact BK180.out) hb); have n2_ := am_ (bt_ (by repeat (with_reducible first | exact HB.out | apply p3_ | apply p1_ | apply p2_ | refine bs_ ?_ GE180.out)) hb); clear BK180; clear HB; have HO185 := n0_; have BK180 := n1_; have HB := n2_; clear n0_ n1_ n2_; (try clear hb); (try clear ho0); obtain ⟨Ao42, co42, eo42⟩ := Kd.R_slice HO185.out; subst eo42; have hcz43_0 : w41.cell? ⟨gb180, 0, none⟩ = some (.int .i64 a0_0) := (bc_ BK180.out 0).trans rfl; have hcz43_1 : w41.cell? ⟨gb180, 1, none⟩ = some (.int .i64 a0_1) := (bc_ BK180.out 1).trans rfl; have hcz43_2 : w41.cell? ⟨gb180, 2, none⟩ = some (.slice A0_2 l0_2.length c0_2) := (bc_ BK180.out 2).trans rfl; have hcz43_3 : w41.cell? ⟨gb180, 3, none⟩ = some (.slice A0_3 l0_3.length c0_3) := (bc_ BK180.out 3).trans rfl; have hcz43_4 : w41.cell? ⟨gb180, 4, none⟩ = some (.int .i64 a0_4) := (bc_ BK180.out 4).trans rfl; have hcz43_5 : w41.cell? ⟨gb180, 5, none⟩ = some (.string a0_5) := (bc_ BK180.out 5).trans rfl; have hcz43_6 : w41.cell? ⟨gb180, 6, none⟩ = some (.slice A0_6 l0_6.length c0_6) := (bc_ BK180.out 6).trans rfl; have hfz43_0 := bf_ BK180.out 0; have hfz43_1 := bf_ BK180.out 1; have hfz43_2 := bf_ BK180.out 2; have hfz43_3 := bf_ BK180.out 3; have hfz43_4 := bf_ BK180.out 4; have hfz43_5 := bf_ BK180.out 5; have hfz43_6 := bf_ BK180.out 6) | (go_at_call 59; (with_reducible refine (pinfoldref1_Under_c.calls a1 a0_5 true _ A39.out).mono ?_); rintro e w44 ⟨rfl, hb⟩; have n0_ := am_ (Kd.R_below (by (with_reducible repeat (first | apply r1_ | apply r2_ | apply r3_)); exact HO185.out) hb); have n1_ := am_ (kb_ (g := gb180) (o := .cells #[.int .i64 a0_0, .int .i64 a0_1, .slice A0_2 l0_2.length c0_2, .slice A0_3 l0_3.length c0_3, .int .i64 a0_4, .string a0_5, .slice A0_6 l0_6.length c0_6] 26 (0, 0)) (by (with_reducible repeat (first | refine k2_ ?_ _ | refine k3_ ?_ | refine k1_ ?_ _)); exact BK180.out) hb); have n2_ := am_ (bt_ (by repeat (with_reducible first | exact HB.out | apply p3_ | apply p1_ | apply p2_ | refine bs_ ?_ GE180.out)) hb); clear HO185; clear BK180; clear HB; have HO185 := n0_; have BK180 := n1_; have HB := n2_; clear n0_ n1_ n2_; (try clear hb)))
    go_ret
    exact ⟨by first | rfl | (simp [errW_none, errW_some] <;> rfl) | (simp [*, errW_none, errW_some] <;> rfl) | (simp only [str_ne_]; rfl) | (simp only [str_eq_]; rfl), by repeat (with_reducible first | exact HB.out | apply p3_ | apply p1_ | apply p2_ | refine bs_ ?_ GE180.out)⟩
   replace c40 := e3_ c40
   subst c40
   have H1 : (some (⟨#[]⟩ : ByteArray)) = some r := by rw [if_neg (show ¬ (false = true) by decide)] at H; exact H
   clear H
   have H := H1
   clear H1
   obtain rfl := e5_ H
   go_wp2_with (first | ((with_reducible refine gate_callee (f := 47) rfl ?_); refine goesL_ (some 18) rfl rfl Tryd.func47 (by kernel_rfl) rfl #[.string a1] rfl (by (try simp only [List.map_toArray, List.map_cons, List.map_nil]); first | done | rfl | (simp only [List.length_drop, List.length_take]; rfl)) ?_; (with_reducible refine (pinfoldref1_Labels_c.calls a1 t183 _ A17.out).mono ?_); rintro e w45 ⟨v184, rfl, ho0, hb⟩; refine ⟨_, rfl, ?_⟩; have n0_ := am_ (Kd.R_lower ho0 (bz_ (by repeat (with_reducible first | exact HB.out | apply p3_ | apply p1_ | apply p2_ | refine bs_ ?_ GE180.out)))); have n1_ := am_ (kb_ (g := gb180) (o := .cells #[.int .i64 a0_0, .int .i64 a0_1, .slice A0_2 l0_2.length c0_2, .slice A0_3 l0_3.length c0_3, .int .i64 a0_4, .string a0_5, .slice A0_6 l0_6.length c0_6] 26 (0, 0)) (by (with_reducible repeat (first | refine k2_ ?_ _ | refine k3_ ?_ | refine k1_ ?_ _)); exact BK180.out) hb); have n2_ := am_ (bt_ (by repeat (with_reducible first | exact HB.out | apply p3_ | apply p1_ | apply p2_ | refine bs_ ?_ GE180.out)) hb); clear BK180; clear HB; have HO185 := n0_; have BK180 := n1_; have HB := n2_; clear n0_ n1_ n2_; (try clear hb); (try clear ho0); obtain ⟨Ao46, co46, eo46⟩ := Kd.R_slice HO185.out; subst eo46; have hcz47_0 : w45.cell? ⟨gb180, 0, none⟩ = some (.int .i64 a0_0) := (bc_ BK180.out 0).trans rfl; have hcz47_1 : w45.cell? ⟨gb180, 1, none⟩ = some (.int .i64 a0_1) := (bc_ BK180.out 1).trans rfl; have hcz47_2 : w45.cell? ⟨gb180, 2, none⟩ = some (.slice A0_2 l0_2.length c0_2) := (bc_ BK180.out 2).trans rfl; have hcz47_3 : w45.cell? ⟨gb180, 3, none⟩ = some (.slice A0_3 l0_3.length c0_3) := (bc_ BK180.out 3).trans rfl; have hcz47_4 : w45.cell? ⟨gb180, 4, none⟩ = some (.int .i64 a0_4) := (bc_ BK180.out 4).trans rfl; have hcz47_5 : w45.cell? ⟨gb180, 5, none⟩ = some (.string a0_5) := (bc_ BK180.out 5).trans rfl; have hcz47_6 : w45.cell? ⟨gb180, 6, none⟩ = some (.slice A0_6 l0_6.length c0_6) := (bc_ BK180.out 6).trans rfl; have hfz47_0 := bf_ BK180.out 0; have hfz47_1 := bf_ BK180.out 1; have hfz47_2 := bf_ BK180.out 2; have hfz47_3 := bf_ BK180.out 3; have hfz47_4 := bf_ BK180.out 4; have hfz47_5 := bf_ BK180.out 5; have hfz47_6 := bf_ BK180.out 6) | (go_at_call 59; (with_reducible refine (pinfoldref1_Under_c.calls a1 a0_5 false _ A39.out).mono ?_); rintro e w48 ⟨rfl, hb⟩; have n0_ := am_ (Kd.R_below (by (with_reducible repeat (first | apply r1_ | apply r2_ | apply r3_)); exact HO185.out) hb); have n1_ := am_ (kb_ (g := gb180) (o := .cells #[.int .i64 a0_0, .int .i64 a0_1, .slice A0_2 l0_2.length c0_2, .slice A0_3 l0_3.length c0_3, .int .i64 a0_4, .string a0_5, .slice A0_6 l0_6.length c0_6] 26 (0, 0)) (by (with_reducible repeat (first | refine k2_ ?_ _ | refine k3_ ?_ | refine k1_ ?_ _)); exact BK180.out) hb); have n2_ := am_ (bt_ (by repeat (with_reducible first | exact HB.out | apply p3_ | apply p1_ | apply p2_ | refine bs_ ?_ GE180.out)) hb); clear HO185; clear BK180; clear HB; have HO185 := n0_; have BK180 := n1_; have HB := n2_; clear n0_ n1_ n2_; (try clear hb)))
   go_ret
   exact ⟨by first | rfl | (simp [errW_none, errW_some] <;> rfl) | (simp [*, errW_none, errW_some] <;> rfl) | (simp only [str_ne_]; rfl) | (simp only [str_eq_]; rfl), by repeat (with_reducible first | exact HB.out | apply p3_ | apply p1_ | apply p2_ | refine bs_ ?_ GE180.out)⟩

/-! ### pinfoldref11_Full_c: function 34 -/
theorem glue_len_ (p : List Int) : ∀ L : List (List Int), L ≠ [] → (glue p L).length = L.length
 | [], h => absurd rfl h
 | _ :: _, _ => rfl
theorem cutL_app_len : ∀ p X : List Int, (cutL (p ++ 46 :: X)).length = (cutL p).length + (cutL X).length
 | [], X => by
  rw [List.nil_append, cutL_point, List.length_cons]
  have : (cutL []).length = 1 := rfl
  omega
 | b :: p, X => by
  have ih := cutL_app_len p X
  rw [List.cons_append]
  by_cases hb : b = 46
  ·subst hb
   rw [cutL_point, cutL_point, List.length_cons, List.length_cons]
   omega
  ·rw [cutL_other b _ hb, cutL_other b _ hb, glue_len_ _ _ (cutL_ne _), glue_len_ _ _ (cutL_ne _)]
   exact ih
section
variable {a0 a1 : Int} {l2 : List Int} {l3 : List S47} {a4 : Int} {z : ByteArray} {l6 : List S49}
theorem conf_zone (h : confB a0 a1 l2 l3 a4 z l6 = true) : nameB (bytesOf z) = true ∧ z.size ≠ 0 := by
 unfold confB at h
 simp only [Bool.and_eq_true, decide_eq_true_eq] at h
 exact ⟨h.1.2.2.1, fun e => h.1.2.1 ((toList_nil z).2 e)⟩
theorem bytes_dot (h z : ByteArray) : bytesOf (h ++ (⟨#[46]⟩ : ByteArray) ++ z) = bytesOf h ++ 46 :: bytesOf z := by
 rw [bytesOf_append, bytesOf_append, List.append_assoc]
 rfl
/-- a full name is none, or a name of its own. -/
theorem full_cases (h : ByteArray) : fullB a0 a1 l2 l3 a4 z l6 h = ⟨#[]⟩ ∨ (nameB (bytesOf (fullB a0 a1 l2 l3 a4 z l6 h)) = true ∧ (labelsS (fullB a0 a1 l2 l3 a4 z l6 h)).length ≠ 1 ∧ (fullB a0 a1 l2 l3 a4 z l6 h).toList ≠ z.toList ∧ underB (bytesOf (fullB a0 a1 l2 l3 a4 z l6 h)) (bytesOf z) = true ∧ confB a0 a1 l2 l3 a4 z l6 = true) := by
 by_cases q : (labelsS h).length = 1
 ·cases hb : nameB (bytesOf (h ++ (⟨#[46]⟩ : ByteArray) ++ z)) && confB a0 a1 l2 l3 a4 z l6 with
  | false =>
   left
   unfold fullB
   rw [if_pos q, hb]
   rfl
  | true =>
   right
   have e : fullB a0 a1 l2 l3 a4 z l6 h = h ++ (⟨#[46]⟩ : ByteArray) ++ z := by
    unfold fullB
    rw [if_pos q, hb]
    rfl
   rw [e]
   rw [Bool.and_eq_true] at hb
   obtain ⟨hn, hc⟩ := hb
   obtain ⟨zn, zs⟩ := conf_zone hc
   have c1 : 1 ≤ (cutL (bytesOf h)).length := List.length_pos_iff.2 (cutL_ne _)
   have c2 : 1 ≤ (cutL (bytesOf z)).length := List.length_pos_iff.2 (cutL_ne _)
   refine ⟨hn, ?_, ?_, ?_, hc⟩
   ·rw [labels_len, bytes_dot, cutL_app_len]
    split <;> omega
   ·intro e2
    have e3 := (toList_iff _ _).1 e2
    have e4 := congrArg List.length e3
    rw [bytes_dot, List.length_append, List.length_cons] at e4
    omega
   ·unfold underB
    rw [hn, zn, bytes_dot, Bool.true_and, Bool.true_and, decide_eq_true_eq]
    exact .inr (.inr ⟨bytesOf h, rfl⟩)
 ·by_cases q2 : h.toList = z.toList ∨ underB (bytesOf h) (bytesOf z) = false
  ·left
   unfold fullB
   rw [if_neg q, if_pos q2]
  ·cases hb : nameB (bytesOf h) && confB a0 a1 l2 l3 a4 z l6 with
   | false =>
    left
    unfold fullB
    rw [if_neg q, if_neg q2, hb]
    rfl
   | true =>
    right
    have e : fullB a0 a1 l2 l3 a4 z l6 h = h := by
     unfold fullB
     rw [if_neg q, if_neg q2, hb]
     rfl
    rw [e]
    rw [Bool.and_eq_true] at hb
    refine ⟨hb.1, q, fun e2 => q2 (.inl e2), ?_, hb.2⟩
    cases e3 : underB (bytesOf h) (bytesOf z) with
    | false => exact absurd (.inr e3) q2
    | true => rfl
theorem full_none : fullB a0 a1 l2 l3 a4 z l6 ⟨#[]⟩ = ⟨#[]⟩ := by
 have q : ¬ (labelsS ⟨#[]⟩).length = 1 := by decide
 unfold fullB
 rw [if_neg q]
 repeat' split
 all_goals rfl
/-- a full name's full name is itself. -/
theorem full_full (h : ByteArray) : fullB a0 a1 l2 l3 a4 z l6 (fullB a0 a1 l2 l3 a4 z l6 h) = fullB a0 a1 l2 l3 a4 z l6 h := by
 rcases full_cases (a0 := a0) (a1 := a1) (l2 := l2) (l3 := l3) (a4 := a4) (z := z) (l6 := l6) h with e | ⟨h1, h2, h3, h4, h5⟩
 ·rw [e, full_none]
 ·generalize fullB a0 a1 l2 l3 a4 z l6 h = x at *
  unfold fullB
  rw [if_neg h2, if_neg (by rintro (e | e); exact h3 e; rw [h4] at e; cases e), h1, h5]
  rfl
theorem full_short (h : ByteArray) : (fullB a0 a1 l2 l3 a4 z l6 h).size ≤ 72 := by
 rcases full_cases (a0 := a0) (a1 := a1) (l2 := l2) (l3 := l3) (a4 := a4) (z := z) (l6 := l6) h with e | ⟨h1, _⟩
 ·rw [e]
  exact Nat.zero_le _
 ·have := name_short _ h1
  rw [bytesOf_length] at this
  exact this
theorem full_name (h : ByteArray) : nameB (bytesOf (fullB a0 a1 l2 l3 a4 z l6 h)) = true := by
 rcases full_cases (a0 := a0) (a1 := a1) (l2 := l2) (l3 := l3) (a4 := a4) (z := z) (l6 := l6) h with e | ⟨h1, _⟩
 ·rw [e]
  rfl
 ·exact h1
end
section
variable {a0 a1 : Int} {l2 : List Int} {l3 : List S47} {a4 : Int} {z : ByteArray} {l6 : List S49}
theorem reffull_eq (hf : confFitR l2 l3 z l6) (k : Nat) (hk : 1 ≤ k) (h : ByteArray) (hh : h.size ≤ 1048576) (hz : z.size ≤ 1048576) : pinfoldref11_Full.f k a0 a1 l2 l3 a4 z l6 h = some (fullB a0 a1 l2 l3 a4 z l6 h) := by
 obtain ⟨k, rfl⟩ : ∃ j, k = j + 1 := ⟨k - 1, by omega⟩
 have s1 : (h ++ (⟨#[46]⟩ : ByteArray)).size = h.size + 1 := by rw [ByteArray.size_append]; rfl
 have s2 : (h ++ (⟨#[46]⟩ : ByteArray) ++ z).size = h.size + 1 + z.size := by rw [ByteArray.size_append, s1]
 unfold pinfoldref11_Full.f pinfoldref11_ConfMay.f pinfoldref1_NameMay_c.f
 simp only [pinfoldref11_Full.j0]
 unfold pinfoldref1_Labels_c.f pinfoldref1_Under_c.f
 rw [if_pos hf, Option.bind_some]
 cases hc : confB a0 a1 l2 l3 a4 z l6 with
 | false =>
  simp only [if_true, Bool.false_eq_true, if_false]
  unfold fullB
  rw [hc]
  simp only [Bool.and_false, Bool.false_eq_true, if_false, ite_self]
 | true =>
  obtain ⟨zn, zs⟩ := conf_zone hc
  simp only [if_true]
  by_cases q0 : h.toList = []
  ·have e0 : h = ⟨#[]⟩ := by
    rw [ByteArray.toList_eq] at q0
    have : h = ⟨h.data⟩ := rfl
    rw [this, Array.toList_eq_nil_iff.1 q0]
   rw [if_pos q0, e0, full_none]
  ·rw [if_neg q0, if_pos (show h.size ≤ 8796093022000 by omega), Option.bind_some]
   have hne : h.size ≠ 0 := fun e => q0 ((toList_nil h).2 e)
   cases hn : nameB (bytesOf h) with
   | false =>
    have hl : ¬ (labelsS h).length = 1 := by rw [labels_len, hn]; simp
    simp only [Bool.not_false, if_true]
    unfold fullB
    rw [if_neg hl, hn]
    simp only [Bool.false_and, Bool.false_eq_true, if_false, ite_self]
   | true =>
    simp only [Bool.not_true, Bool.false_eq_true, if_false]
    rw [if_pos (by omega), Option.bind_some]
    by_cases ql : (labelsS h).length = 1
    ·rw [if_pos (by omega), if_pos (by omega), if_pos (by omega)]
     have hx : ¬ (h ++ (⟨#[46]⟩ : ByteArray) ++ z).toList = z.toList := fun e => by
      have e4 := congrArg List.length ((toList_iff _ _).1 e)
      rw [bytesOf_length, bytesOf_length] at e4
      omega
     rw [if_neg hx, if_pos ⟨by omega, by omega⟩, Option.bind_some]
     have hu : underB (bytesOf (h ++ (⟨#[46]⟩ : ByteArray) ++ z)) (bytesOf z) = nameB (bytesOf (h ++ (⟨#[46]⟩ : ByteArray) ++ z)) := by
      unfold underB
      have hi : isU (bytesOf (h ++ (⟨#[46]⟩ : ByteArray) ++ z)) (bytesOf z) := .inr (.inr ⟨bytesOf h, (bytes_dot h z).symm⟩)
      rw [zn, decide_eq_true hi, Bool.and_true, Bool.and_true]
     rw [hu]
     unfold fullB
     rw [if_pos ql, hc, Bool.and_true]
     cases nameB (bytesOf (h ++ (⟨#[46]⟩ : ByteArray) ++ z)) <;> rfl
    ·rw [if_neg (by omega)]
     unfold fullB
     rw [if_neg ql, hn, hc]
     by_cases qz : h.toList = z.toList
     ·rw [if_pos qz, if_pos (.inl qz)]
     ·rw [if_neg qz, if_pos ⟨by omega, by omega⟩, Option.bind_some]
      cases hu : underB (bytesOf h) (bytesOf z) with
      | false => simp [qz]
      | true => simp [qz]
end
def fullFitR (l2 : List Int) (l3 : List S47) (z : ByteArray) (l6 : List S49) (h : ByteArray) : Prop := confFitR l2 l3 z l6 ∧ h.size ≤ 1048576 ∧ z.size ≤ 1048576
instance (l2 : List Int) (l3 : List S47) (z : ByteArray) (l6 : List S49) (h : ByteArray) : Decidable (fullFitR l2 l3 z l6 h) := by unfold fullFitR; infer_instance
def pinfoldref11_Full_c.f (a0_0 : Int) (a0_1 : Int) (l0_2 : List Int) (l0_3 : List S47) (a0_4 : Int) (a0_5 : ByteArray) (l0_6 : List S49) (a1 : ByteArray) : Option ByteArray := if fullFitR l0_2 l0_3 a0_5 l0_6 a1 then some (fullB a0_0 a0_1 l0_2 l0_3 a0_4 a0_5 l0_6 a1) else none
theorem pinfoldref11_Full_c.calls (a0_0 : Int) (a0_1 : Int) (A0_2 : Option Addr) (c0_2 : Nat) (l0_2 : List Int) (A0_3 : Option Addr) (c0_3 : Nat) (l0_3 : List S47) (a0_4 : Int) (a0_5 : ByteArray) (A0_6 : Option Addr) (c0_6 : Nat) (l0_6 : List S49) (a1 : ByteArray) (r : ByteArray) (w : World) (hr0_2 : Kd.C (Kd.int .i64) w A0_2 l0_2.length l0_2) (hc0_2 : l0_2.length ≤ c0_2) (hr0_3 : Kd.C k47 w A0_3 l0_3.length l0_3) (hc0_3 : l0_3.length ≤ c0_3) (hr0_6 : Kd.C k49 w A0_6 l0_6.length l0_6) (hc0_6 : l0_6.length ≤ c0_6) (h : pinfoldref11_Full_c.f a0_0 a0_1 l0_2 l0_3 a0_4 a0_5 l0_6 a1 = some r) :
  Calls Tryd.prog 34 #[.agg #[.int .i64 a0_0, .int .i64 a0_1, .slice A0_2 l0_2.length c0_2, .slice A0_3 l0_3.length c0_3, .int .i64 a0_4, .string a0_5, .slice A0_6 l0_6.length c0_6], .string a1] w fun e w' => e = .returned (.string r) ∧ Below w.heap.size w w' := by
 unfold pinfoldref11_Full_c.f at h
 by_cases hs : fullFitR l0_2 l0_3 a0_5 l0_6 a1
 ·rw [if_pos hs] at h
  exact pinfoldref11_Full.calls 1 a0_0 a0_1 A0_2 c0_2 l0_2 A0_3 c0_3 l0_3 a0_4 a0_5 A0_6 c0_6 l0_6 a1 r w hr0_2 hc0_2 hr0_3 hc0_3 hr0_6 hc0_6 (by rw [reffull_eq hs.1 1 (Nat.le_refl _) a1 hs.2.1 hs.2.2]; exact h)
 ·rw [if_neg hs] at h
  cases h

/-! ### pinfoldref11_LeaseMay: function 71 -/
def pinfoldref11_LeaseMay.j0 : Nat → Bool → Int → Int → ByteArray → Int → ByteArray → Bool → Option (Bool)
 | 0, _, _, _, _, _, _, _ => none
 | k + 1, x42, x189000, x189001, x189002, x189003, x189004, x189005 => if x42 = true then (some false) else (if x189001 = 1 then (if x189002.toList = ([] : List UInt8) then (some false) else (if x189001 = 2 then (if x189005 = true then (some (x189004.toList != ([] : List UInt8))) else (some true)) else (if x189004.toList = ([] : List UInt8) then (if x189005 = true then (some (x189004.toList != ([] : List UInt8))) else (some true)) else (some false)))) else (if x189001 = 2 then (if x189002.toList = ([] : List UInt8) then (some false) else (if x189005 = true then (some (x189004.toList != ([] : List UInt8))) else (some true))) else (if x189004.toList = ([] : List UInt8) then (if x189005 = true then (some (x189004.toList != ([] : List UInt8))) else (some true)) else (some false))))
def pinfoldref11_LeaseMay.f (k : Nat) (a0_0 : Int) (a0_1 : Int) (a0_2 : ByteArray) (a0_3 : Int) (a0_4 : ByteArray) (a0_5 : Bool) : Option (Bool) := if a0_0 < 2 then (pinfoldref11_LeaseMay.j0 k true a0_0 a0_1 a0_2 a0_3 a0_4 a0_5) else (if a0_0 > 254 then (pinfoldref11_LeaseMay.j0 k true a0_0 a0_1 a0_2 a0_3 a0_4 a0_5) else (if a0_1 < 0 then (pinfoldref11_LeaseMay.j0 k true a0_0 a0_1 a0_2 a0_3 a0_4 a0_5) else (if a0_1 > 3 then (pinfoldref11_LeaseMay.j0 k true a0_0 a0_1 a0_2 a0_3 a0_4 a0_5) else (if (a0_2.size : Int) > 16 then (pinfoldref11_LeaseMay.j0 k true a0_0 a0_1 a0_2 a0_3 a0_4 a0_5) else (if a0_3 < 0 then (pinfoldref11_LeaseMay.j0 k true a0_0 a0_1 a0_2 a0_3 a0_4 a0_5) else (if a0_3 > 1099511627776 then (pinfoldref11_LeaseMay.j0 k true a0_0 a0_1 a0_2 a0_3 a0_4 a0_5) else ((pinfoldref1_NameMay_c.f a0_4).bind fun t189 => (pinfoldref11_LeaseMay.j0 k (!t189) a0_0 a0_1 a0_2 a0_3 a0_4 a0_5))))))))
theorem pinfoldref11_LeaseMay.mono_l : ∀ k, (∀ y0 y1 y2 y3 y4 y5 y6, LeO (pinfoldref11_LeaseMay.j0 k y0 y1 y2 y3 y4 y5 y6) (pinfoldref11_LeaseMay.j0 (k + 1) y0 y1 y2 y3 y4 y5 y6))
 | 0 => fun _ _ _ _ _ _ _ r h => by simp [pinfoldref11_LeaseMay.j0] at h
 | k + 1 => by
  have ih0 := pinfoldref11_LeaseMay.mono_l k
  ·intro y0 y1 y2 y3 y4 y5 y6
   unfold pinfoldref11_LeaseMay.j0
   repeat' first
   | (with_reducible exact ih0 _ _ _ _ _ _ _)
   | (with_reducible exact LeO.refl _)
   | (with_reducible exact LeO.none _)
   | (with_reducible refine LeO.ite ?_ ?_)
   | (with_reducible refine LeO.bind ?_ (fun _ => ?_))
   | exact ih0 _ _ _ _ _ _ _
   | exact LeO.none _
   | refine LeO.ite ?_ ?_
   | refine LeO.bind ?_ (fun _ => ?_)
theorem pinfoldref11_LeaseMay.mono : ∀ a0 a1 a2 a3 a4 a5 k, LeO (pinfoldref11_LeaseMay.f k a0 a1 a2 a3 a4 a5) (pinfoldref11_LeaseMay.f (k + 1) a0 a1 a2 a3 a4 a5) := by
 intro a0 a1 a2 a3 a4 a5 k
 have ih0 := pinfoldref11_LeaseMay.mono_l k
 unfold pinfoldref11_LeaseMay.f
 repeat' first
   | (with_reducible exact ih0 _ _ _ _ _ _ _)
   | (with_reducible exact LeO.refl _)
   | (with_reducible exact LeO.none _)
   | (with_reducible refine LeO.ite ?_ ?_)
   | (with_reducible refine LeO.bind ?_ (fun _ => ?_))
   | exact ih0 _ _ _ _ _ _ _
   | exact LeO.none _
   | refine LeO.ite ?_ ?_
   | refine LeO.bind ?_ (fun _ => ?_)
set_option maxHeartbeats 8000000 in
set_option maxRecDepth 100000 in
theorem pinfoldref11_LeaseMay.calls (k : Nat) (a0_0 : Int) (a0_1 : Int) (a0_2 : ByteArray) (a0_3 : Int) (a0_4 : ByteArray) (a0_5 : Bool) (r : Bool) (w : World) (h : pinfoldref11_LeaseMay.f k a0_0 a0_1 a0_2 a0_3 a0_4 a0_5 = some r) :
  Calls Tryd.prog 71 #[.agg #[.int .i64 a0_0, .int .i64 a0_1, .string a0_2, .int .i64 a0_3, .string a0_4, .bool a0_5]] w fun e w' => e = .returned (.bool r) ∧ Below w.heap.size w w' := by
 have hu62 := Tryd.underlying62
 have HB := am_ (Below.refl w.heap.size w)
 have H : (if a0_0 < 2 then (pinfoldref11_LeaseMay.j0 k true a0_0 a0_1 a0_2 a0_3 a0_4 a0_5) else (if a0_0 > 254 then (pinfoldref11_LeaseMay.j0 k true a0_0 a0_1 a0_2 a0_3 a0_4 a0_5) else (if a0_1 < 0 then (pinfoldref11_LeaseMay.j0 k true a0_0 a0_1 a0_2 a0_3 a0_4 a0_5) else (if a0_1 > 3 then (pinfoldref11_LeaseMay.j0 k true a0_0 a0_1 a0_2 a0_3 a0_4 a0_5) else (if (a0_2.size : Int) > 16 then (pinfoldref11_LeaseMay.j0 k true a0_0 a0_1 a0_2 a0_3 a0_4 a0_5) else (if a0_3 < 0 then (pinfoldref11_LeaseMay.j0 k true a0_0 a0_1 a0_2 a0_3 a0_4 a0_5) else (if a0_3 > 1099511627776 then (pinfoldref11_LeaseMay.j0 k true a0_0 a0_1 a0_2 a0_3 a0_4 a0_5) else ((pinfoldref1_NameMay_c.f a0_4).bind fun t189 => (pinfoldref11_LeaseMay.j0 k (!t189) a0_0 a0_1 a0_2 a0_3 a0_4 a0_5))))))))) = some r := h
 clear h
 have HC2 := am_ H
 clear H
 go_enter Tryd.func71, Tryd.ntmps71
 go_upto_region 1 with (first | ((with_reducible refine gate_dst (N := 1) rfl ?_); (try (refine gate_guard (by rfl) ?_; dsimp only)); refine box_event ?hg (N := 1) ?hd (cs := #[.int .i64 a0_0, .int .i64 a0_1, .string a0_2, .int .i64 a0_3, .string a0_4, .bool a0_5]) (t := 62) ?hr ?_; (case hd => rfl); (case hg => rfl); (case hr => first | (go_simp; done) | (go_simp; rfl)); intro gb188 hg w3 hbox hb; have n0_ := am_ (bt_ (by repeat (with_reducible first | exact HB.out | apply p3_ | apply p1_ | apply p2_)) hb); have n1_ := am_ (hbox); have n2_ := am_ ((by rw [hg]; exact (bz_ (by repeat (with_reducible first | exact HB.out | apply p3_ | apply p1_ | apply p2_))) : w.heap.size ≤ gb188)); have n3_ := am_ ((by rw [hg]; exact (bz_ (by repeat (with_reducible first | exact HB.out | apply p3_ | apply p1_ | apply p2_))) : w.heap.size ≤ gb188)); clear HB; have HB := n0_; have BK188 := n1_; have GW188 := n2_; have GE188 := n3_; clear n0_ n1_ n2_ n3_; clear hb hbox hg))
 (try simp only [Act.put, List.setIfInBounds_toArray, List.set_cons_zero, List.set_cons_succ])
 go_cut [42] (fun v42 wc => ∃ (kq : Nat) (x42_1 : Bool), v42 = .bool x42_1 ∧ Aside0 (pinfoldref11_LeaseMay.j0 kq x42_1 a0_0 a0_1 a0_2 a0_3 a0_4 a0_5 = some r) ∧ Aside0 (kq ≤ k) ∧ Aside0 (wc.heap[gb188]? = some (.cells #[.int .i64 a0_0, .int .i64 a0_1, .string a0_2, .int .i64 a0_3, .string a0_4, .bool a0_5] 62 (0, 0))) ∧ Aside0 (Below w.heap.size w wc))
 case first =>
  have H := HC2.out
  clear HC2
  by_cases c4 : a0_0 < 2
  ·rw [if_pos c4] at H
   have c4b0 : decide (a0_0 < 2) = true := decide_eq_true c4
   clear c4
   (first | rw [c4b0] | (simp only [i64_w, i32_w]; rw [c4b0]) | skip)
   have H' := am_ H
   clear H
   have hcz5_0 : w3.cell? ⟨gb188, 0, none⟩ = some (.int .i64 a0_0) := (bc_ BK188.out 0).trans rfl; have hcz5_1 : w3.cell? ⟨gb188, 1, none⟩ = some (.int .i64 a0_1) := (bc_ BK188.out 1).trans rfl; have hcz5_2 : w3.cell? ⟨gb188, 2, none⟩ = some (.string a0_2) := (bc_ BK188.out 2).trans rfl; have hcz5_3 : w3.cell? ⟨gb188, 3, none⟩ = some (.int .i64 a0_3) := (bc_ BK188.out 3).trans rfl; have hcz5_4 : w3.cell? ⟨gb188, 4, none⟩ = some (.string a0_4) := (bc_ BK188.out 4).trans rfl; have hcz5_5 : w3.cell? ⟨gb188, 5, none⟩ = some (.bool a0_5) := (bc_ BK188.out 5).trans rfl; have hfz5_0 := bf_ BK188.out 0; have hfz5_1 := bf_ BK188.out 1; have hfz5_2 := bf_ BK188.out 2; have hfz5_3 := bf_ BK188.out 3; have hfz5_4 := bf_ BK188.out 4; have hfz5_5 := bf_ BK188.out 5
   go_wp2
   go_meet
   case rel => exact ⟨_, (true), (by first | rfl | (simp; done) | (simp [*]; done) | (simp only [str_ne_]; rfl) | (simp only [str_eq_]; rfl)), H', ⟨by first | omega | exact Nat.le_refl _⟩, ⟨by (with_reducible repeat (first | refine k2_ ?_ _ | refine k3_ ?_ | refine k1_ ?_ _)); exact BK188.out⟩, ⟨by repeat (with_reducible first | exact HB.out | apply p3_ | apply p1_ | apply p2_ | refine bs_ ?_ GE188.out)⟩⟩
  rw [if_neg c4] at H
  have c4b0 : decide (a0_0 < 2) = false := decide_eq_false c4
  clear c4
  (first | rw [c4b0] | (simp only [i64_w, i32_w]; rw [c4b0]) | skip)
  by_cases c6 : a0_0 > 254
  ·rw [if_pos c6] at H
   have c6b0 : decide (254 < a0_0) = true := decide_eq_true c6
   clear c6
   have H' := am_ H
   clear H
   have hcz7_0 : w3.cell? ⟨gb188, 0, none⟩ = some (.int .i64 a0_0) := (bc_ BK188.out 0).trans rfl; have hcz7_1 : w3.cell? ⟨gb188, 1, none⟩ = some (.int .i64 a0_1) := (bc_ BK188.out 1).trans rfl; have hcz7_2 : w3.cell? ⟨gb188, 2, none⟩ = some (.string a0_2) := (bc_ BK188.out 2).trans rfl; have hcz7_3 : w3.cell? ⟨gb188, 3, none⟩ = some (.int .i64 a0_3) := (bc_ BK188.out 3).trans rfl; have hcz7_4 : w3.cell? ⟨gb188, 4, none⟩ = some (.string a0_4) := (bc_ BK188.out 4).trans rfl; have hcz7_5 : w3.cell? ⟨gb188, 5, none⟩ = some (.bool a0_5) := (bc_ BK188.out 5).trans rfl; have hfz7_0 := bf_ BK188.out 0; have hfz7_1 := bf_ BK188.out 1; have hfz7_2 := bf_ BK188.out 2; have hfz7_3 := bf_ BK188.out 3; have hfz7_4 := bf_ BK188.out 4; have hfz7_5 := bf_ BK188.out 5
   go_wp2
   go_meet
   case rel => exact ⟨_, (true), (by first | rfl | (simp; done) | (simp [*]; done) | (simp only [str_ne_]; rfl) | (simp only [str_eq_]; rfl)), H', ⟨by first | omega | exact Nat.le_refl _⟩, ⟨by (with_reducible repeat (first | refine k2_ ?_ _ | refine k3_ ?_ | refine k1_ ?_ _)); exact BK188.out⟩, ⟨by repeat (with_reducible first | exact HB.out | apply p3_ | apply p1_ | apply p2_ | refine bs_ ?_ GE188.out)⟩⟩
  rw [if_neg c6] at H
  have c6b0 : decide (254 < a0_0) = false := decide_eq_false c6
  clear c6
  by_cases c8 : a0_1 < 0
  ·rw [if_pos c8] at H
   have c8b0 : decide (a0_1 < 0) = true := decide_eq_true c8
   clear c8
   have H' := am_ H
   clear H
   have hcz9_0 : w3.cell? ⟨gb188, 0, none⟩ = some (.int .i64 a0_0) := (bc_ BK188.out 0).trans rfl; have hcz9_1 : w3.cell? ⟨gb188, 1, none⟩ = some (.int .i64 a0_1) := (bc_ BK188.out 1).trans rfl; have hcz9_2 : w3.cell? ⟨gb188, 2, none⟩ = some (.string a0_2) := (bc_ BK188.out 2).trans rfl; have hcz9_3 : w3.cell? ⟨gb188, 3, none⟩ = some (.int .i64 a0_3) := (bc_ BK188.out 3).trans rfl; have hcz9_4 : w3.cell? ⟨gb188, 4, none⟩ = some (.string a0_4) := (bc_ BK188.out 4).trans rfl; have hcz9_5 : w3.cell? ⟨gb188, 5, none⟩ = some (.bool a0_5) := (bc_ BK188.out 5).trans rfl; have hfz9_0 := bf_ BK188.out 0; have hfz9_1 := bf_ BK188.out 1; have hfz9_2 := bf_ BK188.out 2; have hfz9_3 := bf_ BK188.out 3; have hfz9_4 := bf_ BK188.out 4; have hfz9_5 := bf_ BK188.out 5
   go_wp2
   go_meet
   case rel => exact ⟨_, (true), (by first | rfl | (simp; done) | (simp [*]; done) | (simp only [str_ne_]; rfl) | (simp only [str_eq_]; rfl)), H', ⟨by first | omega | exact Nat.le_refl _⟩, ⟨by (with_reducible repeat (first | refine k2_ ?_ _ | refine k3_ ?_ | refine k1_ ?_ _)); exact BK188.out⟩, ⟨by repeat (with_reducible first | exact HB.out | apply p3_ | apply p1_ | apply p2_ | refine bs_ ?_ GE188.out)⟩⟩
  rw [if_neg c8] at H
  have c8b0 : decide (a0_1 < 0) = false := decide_eq_false c8
  clear c8
  by_cases c10 : a0_1 > 3
  ·rw [if_pos c10] at H
   have c10b0 : decide (3 < a0_1) = true := decide_eq_true c10
   clear c10
   have H' := am_ H
   clear H
   have hcz11_0 : w3.cell? ⟨gb188, 0, none⟩ = some (.int .i64 a0_0) := (bc_ BK188.out 0).trans rfl; have hcz11_1 : w3.cell? ⟨gb188, 1, none⟩ = some (.int .i64 a0_1) := (bc_ BK188.out 1).trans rfl; have hcz11_2 : w3.cell? ⟨gb188, 2, none⟩ = some (.string a0_2) := (bc_ BK188.out 2).trans rfl; have hcz11_3 : w3.cell? ⟨gb188, 3, none⟩ = some (.int .i64 a0_3) := (bc_ BK188.out 3).trans rfl; have hcz11_4 : w3.cell? ⟨gb188, 4, none⟩ = some (.string a0_4) := (bc_ BK188.out 4).trans rfl; have hcz11_5 : w3.cell? ⟨gb188, 5, none⟩ = some (.bool a0_5) := (bc_ BK188.out 5).trans rfl; have hfz11_0 := bf_ BK188.out 0; have hfz11_1 := bf_ BK188.out 1; have hfz11_2 := bf_ BK188.out 2; have hfz11_3 := bf_ BK188.out 3; have hfz11_4 := bf_ BK188.out 4; have hfz11_5 := bf_ BK188.out 5
   go_wp2
   go_meet
   case rel => exact ⟨_, (true), (by first | rfl | (simp; done) | (simp [*]; done) | (simp only [str_ne_]; rfl) | (simp only [str_eq_]; rfl)), H', ⟨by first | omega | exact Nat.le_refl _⟩, ⟨by (with_reducible repeat (first | refine k2_ ?_ _ | refine k3_ ?_ | refine k1_ ?_ _)); exact BK188.out⟩, ⟨by repeat (with_reducible first | exact HB.out | apply p3_ | apply p1_ | apply p2_ | refine bs_ ?_ GE188.out)⟩⟩
  rw [if_neg c10] at H
  have c10b0 : decide (3 < a0_1) = false := decide_eq_false c10
  clear c10
  by_cases c12 : (a0_2.size : Int) > 16
  ·rw [if_pos c12] at H
   have c12b0 : decide (16 < (a0_2.size : Int)) = true := decide_eq_true c12
   have c12b1 : decide (16 < a0_2.size) = true := decide_eq_true (by omega)
   clear c12
   have H' := am_ H
   clear H
   have hcz13_0 : w3.cell? ⟨gb188, 0, none⟩ = some (.int .i64 a0_0) := (bc_ BK188.out 0).trans rfl; have hcz13_1 : w3.cell? ⟨gb188, 1, none⟩ = some (.int .i64 a0_1) := (bc_ BK188.out 1).trans rfl; have hcz13_2 : w3.cell? ⟨gb188, 2, none⟩ = some (.string a0_2) := (bc_ BK188.out 2).trans rfl; have hcz13_3 : w3.cell? ⟨gb188, 3, none⟩ = some (.int .i64 a0_3) := (bc_ BK188.out 3).trans rfl; have hcz13_4 : w3.cell? ⟨gb188, 4, none⟩ = some (.string a0_4) := (bc_ BK188.out 4).trans rfl; have hcz13_5 : w3.cell? ⟨gb188, 5, none⟩ = some (.bool a0_5) := (bc_ BK188.out 5).trans rfl; have hfz13_0 := bf_ BK188.out 0; have hfz13_1 := bf_ BK188.out 1; have hfz13_2 := bf_ BK188.out 2; have hfz13_3 := bf_ BK188.out 3; have hfz13_4 := bf_ BK188.out 4; have hfz13_5 := bf_ BK188.out 5
   go_wp2
   go_meet
   case rel => exact ⟨_, (true), (by first | rfl | (simp; done) | (simp [*]; done) | (simp only [str_ne_]; rfl) | (simp only [str_eq_]; rfl)), H', ⟨by first | omega | exact Nat.le_refl _⟩, ⟨by (with_reducible repeat (first | refine k2_ ?_ _ | refine k3_ ?_ | refine k1_ ?_ _)); exact BK188.out⟩, ⟨by repeat (with_reducible first | exact HB.out | apply p3_ | apply p1_ | apply p2_ | refine bs_ ?_ GE188.out)⟩⟩
  rw [if_neg c12] at H
  have c12b0 : decide (16 < (a0_2.size : Int)) = false := decide_eq_false c12
  have c12b1 : decide (16 < a0_2.size) = false := decide_eq_false (by omega)
  clear c12
  by_cases c14 : a0_3 < 0
  ·rw [if_pos c14] at H
   have c14b0 : decide (a0_3 < 0) = true := decide_eq_true c14
   clear c14
   have H' := am_ H
   clear H
   have hcz15_0 : w3.cell? ⟨gb188, 0, none⟩ = some (.int .i64 a0_0) := (bc_ BK188.out 0).trans rfl; have hcz15_1 : w3.cell? ⟨gb188, 1, none⟩ = some (.int .i64 a0_1) := (bc_ BK188.out 1).trans rfl; have hcz15_2 : w3.cell? ⟨gb188, 2, none⟩ = some (.string a0_2) := (bc_ BK188.out 2).trans rfl; have hcz15_3 : w3.cell? ⟨gb188, 3, none⟩ = some (.int .i64 a0_3) := (bc_ BK188.out 3).trans rfl; have hcz15_4 : w3.cell? ⟨gb188, 4, none⟩ = some (.string a0_4) := (bc_ BK188.out 4).trans rfl; have hcz15_5 : w3.cell? ⟨gb188, 5, none⟩ = some (.bool a0_5) := (bc_ BK188.out 5).trans rfl; have hfz15_0 := bf_ BK188.out 0; have hfz15_1 := bf_ BK188.out 1; have hfz15_2 := bf_ BK188.out 2; have hfz15_3 := bf_ BK188.out 3; have hfz15_4 := bf_ BK188.out 4; have hfz15_5 := bf_ BK188.out 5
   go_wp2
   go_meet
   case rel => exact ⟨_, (true), (by first | rfl | (simp; done) | (simp [*]; done) | (simp only [str_ne_]; rfl) | (simp only [str_eq_]; rfl)), H', ⟨by first | omega | exact Nat.le_refl _⟩, ⟨by (with_reducible repeat (first | refine k2_ ?_ _ | refine k3_ ?_ | refine k1_ ?_ _)); exact BK188.out⟩, ⟨by repeat (with_reducible first | exact HB.out | apply p3_ | apply p1_ | apply p2_ | refine bs_ ?_ GE188.out)⟩⟩
  rw [if_neg c14] at H
  have c14b0 : decide (a0_3 < 0) = false := decide_eq_false c14
  clear c14
  by_cases c16 : a0_3 > 1099511627776
  ·rw [if_pos c16] at H
   have c16b0 : decide (1099511627776 < a0_3) = true := decide_eq_true c16
   clear c16
   have H' := am_ H
   clear H
   have hcz17_0 : w3.cell? ⟨gb188, 0, none⟩ = some (.int .i64 a0_0) := (bc_ BK188.out 0).trans rfl; have hcz17_1 : w3.cell? ⟨gb188, 1, none⟩ = some (.int .i64 a0_1) := (bc_ BK188.out 1).trans rfl; have hcz17_2 : w3.cell? ⟨gb188, 2, none⟩ = some (.string a0_2) := (bc_ BK188.out 2).trans rfl; have hcz17_3 : w3.cell? ⟨gb188, 3, none⟩ = some (.int .i64 a0_3) := (bc_ BK188.out 3).trans rfl; have hcz17_4 : w3.cell? ⟨gb188, 4, none⟩ = some (.string a0_4) := (bc_ BK188.out 4).trans rfl; have hcz17_5 : w3.cell? ⟨gb188, 5, none⟩ = some (.bool a0_5) := (bc_ BK188.out 5).trans rfl; have hfz17_0 := bf_ BK188.out 0; have hfz17_1 := bf_ BK188.out 1; have hfz17_2 := bf_ BK188.out 2; have hfz17_3 := bf_ BK188.out 3; have hfz17_4 := bf_ BK188.out 4; have hfz17_5 := bf_ BK188.out 5
   go_wp2
   go_meet
   case rel => exact ⟨_, (true), (by first | rfl | (simp; done) | (simp [*]; done) | (simp only [str_ne_]; rfl) | (simp only [str_eq_]; rfl)), H', ⟨by first | omega | exact Nat.le_refl _⟩, ⟨by (with_reducible repeat (first | refine k2_ ?_ _ | refine k3_ ?_ | refine k1_ ?_ _)); exact BK188.out⟩, ⟨by repeat (with_reducible first | exact HB.out | apply p3_ | apply p1_ | apply p2_ | refine bs_ ?_ GE188.out)⟩⟩
  rw [if_neg c16] at H
  have c16b0 : decide (1099511627776 < a0_3) = false := decide_eq_false c16
  clear c16
  replace H := e4_ H
  obtain ⟨t189, A180, H⟩ := H
  replace H : (pinfoldref11_LeaseMay.j0 k (!t189) a0_0 a0_1 a0_2 a0_3 a0_4 a0_5) = some r := H
  have A18 := am_ A180
  clear A180
  have H' := am_ H
  clear H
  have hcz19_0 : w3.cell? ⟨gb188, 0, none⟩ = some (.int .i64 a0_0) := (bc_ BK188.out 0).trans rfl; have hcz19_1 : w3.cell? ⟨gb188, 1, none⟩ = some (.int .i64 a0_1) := (bc_ BK188.out 1).trans rfl; have hcz19_2 : w3.cell? ⟨gb188, 2, none⟩ = some (.string a0_2) := (bc_ BK188.out 2).trans rfl; have hcz19_3 : w3.cell? ⟨gb188, 3, none⟩ = some (.int .i64 a0_3) := (bc_ BK188.out 3).trans rfl; have hcz19_4 : w3.cell? ⟨gb188, 4, none⟩ = some (.string a0_4) := (bc_ BK188.out 4).trans rfl; have hcz19_5 : w3.cell? ⟨gb188, 5, none⟩ = some (.bool a0_5) := (bc_ BK188.out 5).trans rfl; have hfz19_0 := bf_ BK188.out 0; have hfz19_1 := bf_ BK188.out 1; have hfz19_2 := bf_ BK188.out 2; have hfz19_3 := bf_ BK188.out 3; have hfz19_4 := bf_ BK188.out 4; have hfz19_5 := bf_ BK188.out 5
  go_wp2_with (first | (go_at_call 46; (with_reducible refine (pinfoldref1_NameMay_c.calls a0_4 t189 _ A18.out).mono ?_); rintro e w20 ⟨rfl, hb⟩; have n0_ := am_ (kb_ (g := gb188) (o := .cells #[.int .i64 a0_0, .int .i64 a0_1, .string a0_2, .int .i64 a0_3, .string a0_4, .bool a0_5] 62 (0, 0)) (by (with_reducible repeat (first | refine k2_ ?_ _ | refine k3_ ?_ | refine k1_ ?_ _)); exact BK188.out) hb); have n1_ := am_ (bt_ (by repeat (with_reducible first | exact HB.out | apply p3_ | apply p1_ | apply p2_ | refine bs_ ?_ GE188.out)) hb); clear BK188; clear HB; have BK188 := n0_; have HB := n1_; clear n0_ n1_; (try clear hb)))
  go_meet
  case rel => exact ⟨_, (!t189), (by first | rfl | (simp; done) | (simp [*]; done) | (simp only [str_ne_]; rfl) | (simp only [str_eq_]; rfl)), H', ⟨by first | omega | exact Nat.le_refl _⟩, ⟨by (with_reducible repeat (first | refine k2_ ?_ _ | refine k3_ ?_ | refine k1_ ?_ _)); exact BK188.out⟩, ⟨by repeat (with_reducible first | exact HB.out | apply p3_ | apply p1_ | apply p2_ | refine bs_ ?_ GE188.out)⟩⟩
 case rest =>
  clear HC2
  obtain ⟨kq, x42_1, rfl, HA, HJ1, BK188, HB⟩ := hcut
  cases kq with
  | zero => exact absurd HA.out (by simp [pinfoldref11_LeaseMay.j0])
  | succ kj1 =>
   have H := HA.out
   clear HA
   simp only [pinfoldref11_LeaseMay.j0] at H
   by_cases c21 : x42_1 = true
   ·subst c21
    have H1 : (some false) = some r := by rw [if_pos rfl] at H; exact H
    clear H
    have H := H1
    clear H1
    obtain rfl := e5_ H
    go_wp2
    go_ret
    exact ⟨by first | rfl | (simp [errW_none, errW_some] <;> rfl) | (simp [*, errW_none, errW_some] <;> rfl) | (simp only [str_ne_]; rfl) | (simp only [str_eq_]; rfl), by repeat (with_reducible first | exact HB.out | apply p3_ | apply p1_ | apply p2_ | refine bs_ ?_ GE188.out)⟩
   replace c21 := e3_ c21
   subst c21
   have H1 : (if a0_1 = 1 then (if a0_2.toList = ([] : List UInt8) then (some false) else (if a0_1 = 2 then (if a0_5 = true then (some (a0_4.toList != ([] : List UInt8))) else (some true)) else (if a0_4.toList = ([] : List UInt8) then (if a0_5 = true then (some (a0_4.toList != ([] : List UInt8))) else (some true)) else (some false)))) else (if a0_1 = 2 then (if a0_2.toList = ([] : List UInt8) then (some false) else (if a0_5 = true then (some (a0_4.toList != ([] : List UInt8))) else (some true))) else (if a0_4.toList = ([] : List UInt8) then (if a0_5 = true then (some (a0_4.toList != ([] : List UInt8))) else (some true)) else (some false)))) = some r := by rw [if_neg (show ¬ (false = true) by decide)] at H; exact H
   clear H
   have H := H1
   clear H1
   by_cases c22 : a0_1 = 1
   ·rw [if_pos c22] at H
    have c22b0 : (a0_1 == 1) = true := beq_iff_eq.mpr c22
    have c22b1 : (a0_1 != 1) = false := e1_ c22
    clear c22
    by_cases c23 : a0_2.toList = ([] : List UInt8)
    ·rw [if_pos c23] at H
     have c23b0 : (a0_2.toList == ([] : List UInt8)) = true := beq_iff_eq.mpr c23
     have c23b1 : (a0_2.toList != ([] : List UInt8)) = false := e1_ c23
     clear c23
     obtain rfl := e5_ H
     have hcz24_0 : wc.cell? ⟨gb188, 0, none⟩ = some (.int .i64 a0_0) := (bc_ BK188.out 0).trans rfl; have hcz24_1 : wc.cell? ⟨gb188, 1, none⟩ = some (.int .i64 a0_1) := (bc_ BK188.out 1).trans rfl; have hcz24_2 : wc.cell? ⟨gb188, 2, none⟩ = some (.string a0_2) := (bc_ BK188.out 2).trans rfl; have hcz24_3 : wc.cell? ⟨gb188, 3, none⟩ = some (.int .i64 a0_3) := (bc_ BK188.out 3).trans rfl; have hcz24_4 : wc.cell? ⟨gb188, 4, none⟩ = some (.string a0_4) := (bc_ BK188.out 4).trans rfl; have hcz24_5 : wc.cell? ⟨gb188, 5, none⟩ = some (.bool a0_5) := (bc_ BK188.out 5).trans rfl; have hfz24_0 := bf_ BK188.out 0; have hfz24_1 := bf_ BK188.out 1; have hfz24_2 := bf_ BK188.out 2; have hfz24_3 := bf_ BK188.out 3; have hfz24_4 := bf_ BK188.out 4; have hfz24_5 := bf_ BK188.out 5
     go_wp2
     go_ret
     exact ⟨by first | rfl | (simp [errW_none, errW_some] <;> rfl) | (simp [*, errW_none, errW_some] <;> rfl) | (simp only [str_ne_]; rfl) | (simp only [str_eq_]; rfl), by repeat (with_reducible first | exact HB.out | apply p3_ | apply p1_ | apply p2_ | refine bs_ ?_ GE188.out)⟩
    rw [if_neg c23] at H
    have c23b0 : (a0_2.toList == ([] : List UInt8)) = false := e2_ c23
    have c23b1 : (a0_2.toList != ([] : List UInt8)) = true := bne_iff_ne.mpr c23
    by_cases c25 : a0_1 = 2
    ·rw [if_pos c25] at H
     have c25b0 : (a0_1 == 2) = true := beq_iff_eq.mpr c25
     have c25b1 : (a0_1 != 2) = false := e1_ c25
     clear c25
     by_cases c26 : a0_5 = true
     ·subst c26
      have H1 : (some (a0_4.toList != ([] : List UInt8))) = some r := by rw [if_pos rfl] at H; exact H
      clear H
      have H := H1
      clear H1
      obtain rfl := e5_ H
      have hcz27_0 : wc.cell? ⟨gb188, 0, none⟩ = some (.int .i64 a0_0) := (bc_ BK188.out 0).trans rfl; have hcz27_1 : wc.cell? ⟨gb188, 1, none⟩ = some (.int .i64 a0_1) := (bc_ BK188.out 1).trans rfl; have hcz27_2 : wc.cell? ⟨gb188, 2, none⟩ = some (.string a0_2) := (bc_ BK188.out 2).trans rfl; have hcz27_3 : wc.cell? ⟨gb188, 3, none⟩ = some (.int .i64 a0_3) := (bc_ BK188.out 3).trans rfl; have hcz27_4 : wc.cell? ⟨gb188, 4, none⟩ = some (.string a0_4) := (bc_ BK188.out 4).trans rfl; have hcz27_5 : wc.cell? ⟨gb188, 5, none⟩ = some (.bool true) := (bc_ BK188.out 5).trans rfl; have hfz27_0 := bf_ BK188.out 0; have hfz27_1 := bf_ BK188.out 1; have hfz27_2 := bf_ BK188.out 2; have hfz27_3 := bf_ BK188.out 3; have hfz27_4 := bf_ BK188.out 4; have hfz27_5 := bf_ BK188.out 5
      go_wp2
      go_ret
      exact ⟨by first | rfl | (simp [errW_none, errW_some] <;> rfl) | (simp [*, errW_none, errW_some] <;> rfl) | (simp only [str_ne_]; rfl) | (simp only [str_eq_]; rfl), by repeat (with_reducible first | exact HB.out | apply p3_ | apply p1_ | apply p2_ | refine bs_ ?_ GE188.out)⟩
     replace c26 := e3_ c26
     subst c26
     have H1 : (some true) = some r := by rw [if_neg (show ¬ (false = true) by decide)] at H; exact H
     clear H
     have H := H1
     clear H1
     obtain rfl := e5_ H
     have hcz28_0 : wc.cell? ⟨gb188, 0, none⟩ = some (.int .i64 a0_0) := (bc_ BK188.out 0).trans rfl; have hcz28_1 : wc.cell? ⟨gb188, 1, none⟩ = some (.int .i64 a0_1) := (bc_ BK188.out 1).trans rfl; have hcz28_2 : wc.cell? ⟨gb188, 2, none⟩ = some (.string a0_2) := (bc_ BK188.out 2).trans rfl; have hcz28_3 : wc.cell? ⟨gb188, 3, none⟩ = some (.int .i64 a0_3) := (bc_ BK188.out 3).trans rfl; have hcz28_4 : wc.cell? ⟨gb188, 4, none⟩ = some (.string a0_4) := (bc_ BK188.out 4).trans rfl; have hcz28_5 : wc.cell? ⟨gb188, 5, none⟩ = some (.bool false) := (bc_ BK188.out 5).trans rfl; have hfz28_0 := bf_ BK188.out 0; have hfz28_1 := bf_ BK188.out 1; have hfz28_2 := bf_ BK188.out 2; have hfz28_3 := bf_ BK188.out 3; have hfz28_4 := bf_ BK188.out 4; have hfz28_5 := bf_ BK188.out 5
     go_wp2
     go_ret
     exact ⟨by first | rfl | (simp [errW_none, errW_some] <;> rfl) | (simp [*, errW_none, errW_some] <;> rfl) | (simp only [str_ne_]; rfl) | (simp only [str_eq_]; rfl), by repeat (with_reducible first | exact HB.out | apply p3_ | apply p1_ | apply p2_ | refine bs_ ?_ GE188.out)⟩
    rw [if_neg c25] at H
    have c25b0 : (a0_1 == 2) = false := e2_ c25
    have c25b1 : (a0_1 != 2) = true := bne_iff_ne.mpr c25
    by_cases c29 : a0_4.toList = ([] : List UInt8)
    ·rw [if_pos c29] at H
     have c29b0 : (a0_4.toList == ([] : List UInt8)) = true := beq_iff_eq.mpr c29
     have c29b1 : (a0_4.toList != ([] : List UInt8)) = false := e1_ c29
     clear c29
     by_cases c30 : a0_5 = true
     ·subst c30
      have H1 : (some (a0_4.toList != ([] : List UInt8))) = some r := by rw [if_pos rfl] at H; exact H
      clear H
      have H := H1
      clear H1
      obtain rfl := e5_ H
      have hcz31_0 : wc.cell? ⟨gb188, 0, none⟩ = some (.int .i64 a0_0) := (bc_ BK188.out 0).trans rfl; have hcz31_1 : wc.cell? ⟨gb188, 1, none⟩ = some (.int .i64 a0_1) := (bc_ BK188.out 1).trans rfl; have hcz31_2 : wc.cell? ⟨gb188, 2, none⟩ = some (.string a0_2) := (bc_ BK188.out 2).trans rfl; have hcz31_3 : wc.cell? ⟨gb188, 3, none⟩ = some (.int .i64 a0_3) := (bc_ BK188.out 3).trans rfl; have hcz31_4 : wc.cell? ⟨gb188, 4, none⟩ = some (.string a0_4) := (bc_ BK188.out 4).trans rfl; have hcz31_5 : wc.cell? ⟨gb188, 5, none⟩ = some (.bool true) := (bc_ BK188.out 5).trans rfl; have hfz31_0 := bf_ BK188.out 0; have hfz31_1 := bf_ BK188.out 1; have hfz31_2 := bf_ BK188.out 2; have hfz31_3 := bf_ BK188.out 3; have hfz31_4 := bf_ BK188.out 4; have hfz31_5 := bf_ BK188.out 5
      go_wp2
      go_ret
      exact ⟨by first | rfl | (simp [errW_none, errW_some] <;> rfl) | (simp [*, errW_none, errW_some] <;> rfl) | (simp only [str_ne_]; rfl) | (simp only [str_eq_]; rfl), by repeat (with_reducible first | exact HB.out | apply p3_ | apply p1_ | apply p2_ | refine bs_ ?_ GE188.out)⟩
     replace c30 := e3_ c30
     subst c30
     have H1 : (some true) = some r := by rw [if_neg (show ¬ (false = true) by decide)] at H; exact H
     clear H
     have H := H1
     clear H1
     obtain rfl := e5_ H
     have hcz32_0 : wc.cell? ⟨gb188, 0, none⟩ = some (.int .i64 a0_0) := (bc_ BK188.out 0).trans rfl; have hcz32_1 : wc.cell? ⟨gb188, 1, none⟩ = some (.int .i64 a0_1) := (bc_ BK188.out 1).trans rfl; have hcz32_2 : wc.cell? ⟨gb188, 2, none⟩ = some (.string a0_2) := (bc_ BK188.out 2).trans rfl; have hcz32_3 : wc.cell? ⟨gb188, 3, none⟩ = some (.int .i64 a0_3) := (bc_ BK188.out 3).trans rfl; have hcz32_4 : wc.cell? ⟨gb188, 4, none⟩ = some (.string a0_4) := (bc_ BK188.out 4).trans rfl; have hcz32_5 : wc.cell? ⟨gb188, 5, none⟩ = some (.bool false) := (bc_ BK188.out 5).trans rfl; have hfz32_0 := bf_ BK188.out 0; have hfz32_1 := bf_ BK188.out 1; have hfz32_2 := bf_ BK188.out 2; have hfz32_3 := bf_ BK188.out 3; have hfz32_4 := bf_ BK188.out 4; have hfz32_5 := bf_ BK188.out 5
     go_wp2
     go_ret
     exact ⟨by first | rfl | (simp [errW_none, errW_some] <;> rfl) | (simp [*, errW_none, errW_some] <;> rfl) | (simp only [str_ne_]; rfl) | (simp only [str_eq_]; rfl), by repeat (with_reducible first | exact HB.out | apply p3_ | apply p1_ | apply p2_ | refine bs_ ?_ GE188.out)⟩
    rw [if_neg c29] at H
    have c29b0 : (a0_4.toList == ([] : List UInt8)) = false := e2_ c29
    have c29b1 : (a0_4.toList != ([] : List UInt8)) = true := bne_iff_ne.mpr c29
    obtain rfl := e5_ H
    have hcz33_0 : wc.cell? ⟨gb188, 0, none⟩ = some (.int .i64 a0_0) := (bc_ BK188.out 0).trans rfl; have hcz33_1 : wc.cell? ⟨gb188, 1, none⟩ = some (.int .i64 a0_1) := (bc_ BK188.out 1).trans rfl; have hcz33_2 : wc.cell? ⟨gb188, 2, none⟩ = some (.string a0_2) := (bc_ BK188.out 2).trans rfl; have hcz33_3 : wc.cell? ⟨gb188, 3, none⟩ = some (.int .i64 a0_3) := (bc_ BK188.out 3).trans rfl; have hcz33_4 : wc.cell? ⟨gb188, 4, none⟩ = some (.string a0_4) := (bc_ BK188.out 4).trans rfl; have hcz33_5 : wc.cell? ⟨gb188, 5, none⟩ = some (.bool a0_5) := (bc_ BK188.out 5).trans rfl; have hfz33_0 := bf_ BK188.out 0; have hfz33_1 := bf_ BK188.out 1; have hfz33_2 := bf_ BK188.out 2; have hfz33_3 := bf_ BK188.out 3; have hfz33_4 := bf_ BK188.out 4; have hfz33_5 := bf_ BK188.out 5
    go_wp2
    go_ret
    exact ⟨by first | rfl | (simp [errW_none, errW_some] <;> rfl) | (simp [*, errW_none, errW_some] <;> rfl) | (simp only [str_ne_]; rfl) | (simp only [str_eq_]; rfl), by repeat (with_reducible first | exact HB.out | apply p3_ | apply p1_ | apply p2_ | refine bs_ ?_ GE188.out)⟩
   rw [if_neg c22] at H
   have c22b0 : (a0_1 == 1) = false := e2_ c22
   have c22b1 : (a0_1 != 1) = true := bne_iff_ne.mpr c22
   by_cases c34 : a0_1 = 2
   ·rw [if_pos c34] at H
    have c34b0 : (a0_1 == 2) = true := beq_iff_eq.mpr c34
    have c34b1 : (a0_1 != 2) = false := e1_ c34
    clear c34
    by_cases c35 : a0_2.toList = ([] : List UInt8)
    ·rw [if_pos c35] at H
     have c35b0 : (a0_2.toList == ([] : List UInt8)) = true := beq_iff_eq.mpr c35
     have c35b1 : (a0_2.toList != ([] : List UInt8)) = false := e1_ c35
     clear c35
     obtain rfl := e5_ H
     have hcz36_0 : wc.cell? ⟨gb188, 0, none⟩ = some (.int .i64 a0_0) := (bc_ BK188.out 0).trans rfl; have hcz36_1 : wc.cell? ⟨gb188, 1, none⟩ = some (.int .i64 a0_1) := (bc_ BK188.out 1).trans rfl; have hcz36_2 : wc.cell? ⟨gb188, 2, none⟩ = some (.string a0_2) := (bc_ BK188.out 2).trans rfl; have hcz36_3 : wc.cell? ⟨gb188, 3, none⟩ = some (.int .i64 a0_3) := (bc_ BK188.out 3).trans rfl; have hcz36_4 : wc.cell? ⟨gb188, 4, none⟩ = some (.string a0_4) := (bc_ BK188.out 4).trans rfl; have hcz36_5 : wc.cell? ⟨gb188, 5, none⟩ = some (.bool a0_5) := (bc_ BK188.out 5).trans rfl; have hfz36_0 := bf_ BK188.out 0; have hfz36_1 := bf_ BK188.out 1; have hfz36_2 := bf_ BK188.out 2; have hfz36_3 := bf_ BK188.out 3; have hfz36_4 := bf_ BK188.out 4; have hfz36_5 := bf_ BK188.out 5
     go_wp2
     go_ret
     exact ⟨by first | rfl | (simp [errW_none, errW_some] <;> rfl) | (simp [*, errW_none, errW_some] <;> rfl) | (simp only [str_ne_]; rfl) | (simp only [str_eq_]; rfl), by repeat (with_reducible first | exact HB.out | apply p3_ | apply p1_ | apply p2_ | refine bs_ ?_ GE188.out)⟩
    rw [if_neg c35] at H
    have c35b0 : (a0_2.toList == ([] : List UInt8)) = false := e2_ c35
    have c35b1 : (a0_2.toList != ([] : List UInt8)) = true := bne_iff_ne.mpr c35
    by_cases c37 : a0_5 = true
    ·subst c37
     have H1 : (some (a0_4.toList != ([] : List UInt8))) = some r := by rw [if_pos rfl] at H; exact H
     clear H
     have H := H1
     clear H1
     obtain rfl := e5_ H
     have hcz38_0 : wc.cell? ⟨gb188, 0, none⟩ = some (.int .i64 a0_0) := (bc_ BK188.out 0).trans rfl; have hcz38_1 : wc.cell? ⟨gb188, 1, none⟩ = some (.int .i64 a0_1) := (bc_ BK188.out 1).trans rfl; have hcz38_2 : wc.cell? ⟨gb188, 2, none⟩ = some (.string a0_2) := (bc_ BK188.out 2).trans rfl; have hcz38_3 : wc.cell? ⟨gb188, 3, none⟩ = some (.int .i64 a0_3) := (bc_ BK188.out 3).trans rfl; have hcz38_4 : wc.cell? ⟨gb188, 4, none⟩ = some (.string a0_4) := (bc_ BK188.out 4).trans rfl; have hcz38_5 : wc.cell? ⟨gb188, 5, none⟩ = some (.bool true) := (bc_ BK188.out 5).trans rfl; have hfz38_0 := bf_ BK188.out 0; have hfz38_1 := bf_ BK188.out 1; have hfz38_2 := bf_ BK188.out 2; have hfz38_3 := bf_ BK188.out 3; have hfz38_4 := bf_ BK188.out 4; have hfz38_5 := bf_ BK188.out 5
     go_wp2
     go_ret
     exact ⟨by first | rfl | (simp [errW_none, errW_some] <;> rfl) | (simp [*, errW_none, errW_some] <;> rfl) | (simp only [str_ne_]; rfl) | (simp only [str_eq_]; rfl), by repeat (with_reducible first | exact HB.out | apply p3_ | apply p1_ | apply p2_ | refine bs_ ?_ GE188.out)⟩
    replace c37 := e3_ c37
    subst c37
    have H1 : (some true) = some r := by rw [if_neg (show ¬ (false = true) by decide)] at H; exact H
    clear H
    have H := H1
    clear H1
    obtain rfl := e5_ H
    have hcz39_0 : wc.cell? ⟨gb188, 0, none⟩ = some (.int .i64 a0_0) := (bc_ BK188.out 0).trans rfl; have hcz39_1 : wc.cell? ⟨gb188, 1, none⟩ = some (.int .i64 a0_1) := (bc_ BK188.out 1).trans rfl; have hcz39_2 : wc.cell? ⟨gb188, 2, none⟩ = some (.string a0_2) := (bc_ BK188.out 2).trans rfl; have hcz39_3 : wc.cell? ⟨gb188, 3, none⟩ = some (.int .i64 a0_3) := (bc_ BK188.out 3).trans rfl; have hcz39_4 : wc.cell? ⟨gb188, 4, none⟩ = some (.string a0_4) := (bc_ BK188.out 4).trans rfl; have hcz39_5 : wc.cell? ⟨gb188, 5, none⟩ = some (.bool false) := (bc_ BK188.out 5).trans rfl; have hfz39_0 := bf_ BK188.out 0; have hfz39_1 := bf_ BK188.out 1; have hfz39_2 := bf_ BK188.out 2; have hfz39_3 := bf_ BK188.out 3; have hfz39_4 := bf_ BK188.out 4; have hfz39_5 := bf_ BK188.out 5
    go_wp2
    go_ret
    exact ⟨by first | rfl | (simp [errW_none, errW_some] <;> rfl) | (simp [*, errW_none, errW_some] <;> rfl) | (simp only [str_ne_]; rfl) | (simp only [str_eq_]; rfl), by repeat (with_reducible first | exact HB.out | apply p3_ | apply p1_ | apply p2_ | refine bs_ ?_ GE188.out)⟩
   rw [if_neg c34] at H
   have c34b0 : (a0_1 == 2) = false := e2_ c34
   have c34b1 : (a0_1 != 2) = true := bne_iff_ne.mpr c34
   by_cases c40 : a0_4.toList = ([] : List UInt8)
   ·rw [if_pos c40] at H
    have c40b0 : (a0_4.toList == ([] : List UInt8)) = true := beq_iff_eq.mpr c40
    have c40b1 : (a0_4.toList != ([] : List UInt8)) = false := e1_ c40
    clear c40
    by_cases c41 : a0_5 = true
    ·subst c41
     have H1 : (some (a0_4.toList != ([] : List UInt8))) = some r := by rw [if_pos rfl] at H; exact H
     clear H
     have H := H1
     clear H1
     obtain rfl := e5_ H
     have hcz42_0 : wc.cell? ⟨gb188, 0, none⟩ = some (.int .i64 a0_0) := (bc_ BK188.out 0).trans rfl; have hcz42_1 : wc.cell? ⟨gb188, 1, none⟩ = some (.int .i64 a0_1) := (bc_ BK188.out 1).trans rfl; have hcz42_2 : wc.cell? ⟨gb188, 2, none⟩ = some (.string a0_2) := (bc_ BK188.out 2).trans rfl; have hcz42_3 : wc.cell? ⟨gb188, 3, none⟩ = some (.int .i64 a0_3) := (bc_ BK188.out 3).trans rfl; have hcz42_4 : wc.cell? ⟨gb188, 4, none⟩ = some (.string a0_4) := (bc_ BK188.out 4).trans rfl; have hcz42_5 : wc.cell? ⟨gb188, 5, none⟩ = some (.bool true) := (bc_ BK188.out 5).trans rfl; have hfz42_0 := bf_ BK188.out 0; have hfz42_1 := bf_ BK188.out 1; have hfz42_2 := bf_ BK188.out 2; have hfz42_3 := bf_ BK188.out 3; have hfz42_4 := bf_ BK188.out 4; have hfz42_5 := bf_ BK188.out 5
     go_wp2
     go_ret
     exact ⟨by first | rfl | (simp [errW_none, errW_some] <;> rfl) | (simp [*, errW_none, errW_some] <;> rfl) | (simp only [str_ne_]; rfl) | (simp only [str_eq_]; rfl), by repeat (with_reducible first | exact HB.out | apply p3_ | apply p1_ | apply p2_ | refine bs_ ?_ GE188.out)⟩
    replace c41 := e3_ c41
    subst c41
    have H1 : (some true) = some r := by rw [if_neg (show ¬ (false = true) by decide)] at H; exact H
    clear H
    have H := H1
    clear H1
    obtain rfl := e5_ H
    have hcz43_0 : wc.cell? ⟨gb188, 0, none⟩ = some (.int .i64 a0_0) := (bc_ BK188.out 0).trans rfl; have hcz43_1 : wc.cell? ⟨gb188, 1, none⟩ = some (.int .i64 a0_1) := (bc_ BK188.out 1).trans rfl; have hcz43_2 : wc.cell? ⟨gb188, 2, none⟩ = some (.string a0_2) := (bc_ BK188.out 2).trans rfl; have hcz43_3 : wc.cell? ⟨gb188, 3, none⟩ = some (.int .i64 a0_3) := (bc_ BK188.out 3).trans rfl; have hcz43_4 : wc.cell? ⟨gb188, 4, none⟩ = some (.string a0_4) := (bc_ BK188.out 4).trans rfl; have hcz43_5 : wc.cell? ⟨gb188, 5, none⟩ = some (.bool false) := (bc_ BK188.out 5).trans rfl; have hfz43_0 := bf_ BK188.out 0; have hfz43_1 := bf_ BK188.out 1; have hfz43_2 := bf_ BK188.out 2; have hfz43_3 := bf_ BK188.out 3; have hfz43_4 := bf_ BK188.out 4; have hfz43_5 := bf_ BK188.out 5
    go_wp2
    go_ret
    exact ⟨by first | rfl | (simp [errW_none, errW_some] <;> rfl) | (simp [*, errW_none, errW_some] <;> rfl) | (simp only [str_ne_]; rfl) | (simp only [str_eq_]; rfl), by repeat (with_reducible first | exact HB.out | apply p3_ | apply p1_ | apply p2_ | refine bs_ ?_ GE188.out)⟩
   rw [if_neg c40] at H
   have c40b0 : (a0_4.toList == ([] : List UInt8)) = false := e2_ c40
   have c40b1 : (a0_4.toList != ([] : List UInt8)) = true := bne_iff_ne.mpr c40
   obtain rfl := e5_ H
   have hcz44_0 : wc.cell? ⟨gb188, 0, none⟩ = some (.int .i64 a0_0) := (bc_ BK188.out 0).trans rfl; have hcz44_1 : wc.cell? ⟨gb188, 1, none⟩ = some (.int .i64 a0_1) := (bc_ BK188.out 1).trans rfl; have hcz44_2 : wc.cell? ⟨gb188, 2, none⟩ = some (.string a0_2) := (bc_ BK188.out 2).trans rfl; have hcz44_3 : wc.cell? ⟨gb188, 3, none⟩ = some (.int .i64 a0_3) := (bc_ BK188.out 3).trans rfl; have hcz44_4 : wc.cell? ⟨gb188, 4, none⟩ = some (.string a0_4) := (bc_ BK188.out 4).trans rfl; have hcz44_5 : wc.cell? ⟨gb188, 5, none⟩ = some (.bool a0_5) := (bc_ BK188.out 5).trans rfl; have hfz44_0 := bf_ BK188.out 0; have hfz44_1 := bf_ BK188.out 1; have hfz44_2 := bf_ BK188.out 2; have hfz44_3 := bf_ BK188.out 3; have hfz44_4 := bf_ BK188.out 4; have hfz44_5 := bf_ BK188.out 5
   go_wp2
   go_ret
   exact ⟨by first | rfl | (simp [errW_none, errW_some] <;> rfl) | (simp [*, errW_none, errW_some] <;> rfl) | (simp only [str_ne_]; rfl) | (simp only [str_eq_]; rfl), by repeat (with_reducible first | exact HB.out | apply p3_ | apply p1_ | apply p2_ | refine bs_ ?_ GE188.out)⟩

/-! ### pinfoldref11_LeaseMay_c: function 71 -/
theorem reflease_c (k : Nat) (h st : Int) (cl : ByteArray) (un : Int) (nm : ByteArray) (won : Bool) (hs : nm.size ≤ 8796093022000) (hk : 1 ≤ k) : pinfoldref11_LeaseMay.f k h st cl un nm won = some (leaseB h st cl un nm won) := by
 obtain ⟨k, rfl⟩ : ∃ j, k = j + 1 := ⟨k - 1, by omega⟩
 have hj : ∀ b : Bool, pinfoldref11_LeaseMay.j0 (k + 1) b h st cl un nm won = if b = true then some false else some (if st = 1 then decide (cl.toList ≠ []) && decide (nm.toList = []) && !won else if st = 2 then decide (cl.toList ≠ []) && (decide (nm.toList ≠ []) || !won) else decide (nm.toList = []) && !won) := by
  intro b
  rw [pinfoldref11_LeaseMay.j0]
  cases b with
  | true => rfl
  | false =>
   by_cases h1 : st = 1
   ·have h2 : st ≠ 2 := by omega
    by_cases hc : cl.toList = [] <;> by_cases hn : nm.toList = [] <;> cases won <;> simp [h1, hc, hn]
   ·by_cases h2 : st = 2
    ·by_cases hc : cl.toList = [] <;> by_cases hn : nm.toList = [] <;> cases won <;> simp [h2, hc, hn]
    ·by_cases hn : nm.toList = [] <;> cases won <;> simp [h1, h2, hn]
 unfold pinfoldref11_LeaseMay.f
 simp only [hj]
 unfold pinfoldref1_NameMay_c.f
 rw [if_pos hs]
 unfold leaseB stateB
 by_cases q1 : 2 ≤ h ∧ h ≤ 254
 ·rw [decide_eq_true q1, if_neg (by omega), if_neg (by omega)]
  by_cases q2 : 0 ≤ st ∧ st ≤ 3
  ·rw [if_neg (by omega), if_neg (by omega)]
   by_cases q3 : cl.size ≤ 16
   ·rw [if_neg (by omega), decide_eq_true q3]
    by_cases q4 : 0 ≤ un ∧ un ≤ 1099511627776
    ·rw [if_neg (by omega), if_neg (by omega), decide_eq_true q4, Option.bind_some]
     cases nameB (bytesOf nm) with
     | true =>
      simp only [Bool.not_true, Bool.false_eq_true, if_false, Bool.and_true, Bool.true_and]
      by_cases h1 : st = 1
      ·rw [if_pos h1, if_neg (by omega), if_pos h1]
      ·rw [if_neg h1]
       by_cases h2 : st = 2
       ·rw [if_pos h2, if_neg (by omega), if_neg h1, if_pos h2]
       ·rw [if_neg h2, if_pos (by omega)]
     | false => simp
    ·rw [decide_eq_false q4]
     by_cases q5 : un < 0
     ·rw [if_pos q5]
      simp
     ·rw [if_neg q5, if_pos (by omega)]
      simp
   ·rw [if_pos (by omega), decide_eq_false q3]
    simp
  ·have n0 : ¬ st = 0 := by omega
   have n1 : ¬ st = 1 := by omega
   have n2 : ¬ st = 2 := by omega
   have n3 : ¬ st = 3 := by omega
   by_cases q5 : st < 0
   ·rw [if_pos q5]
    simp [n0, n1, n2, n3]
   ·rw [if_neg q5, if_pos (by omega)]
    simp [n0, n1, n2, n3]
 ·rw [decide_eq_false q1]
  by_cases q5 : h < 2
  ·rw [if_pos q5]
   simp
  ·rw [if_neg q5, if_pos (by omega)]
   simp
def pinfoldref11_LeaseMay_c.f (a0_0 : Int) (a0_1 : Int) (a0_2 : ByteArray) (a0_3 : Int) (a0_4 : ByteArray) (a0_5 : Bool) : Option Bool := if a0_4.size ≤ 8796093022000 then some (leaseB a0_0 a0_1 a0_2 a0_3 a0_4 a0_5) else none
theorem pinfoldref11_LeaseMay_c.calls (a0_0 : Int) (a0_1 : Int) (a0_2 : ByteArray) (a0_3 : Int) (a0_4 : ByteArray) (a0_5 : Bool) (r : Bool) (w : World) (h : pinfoldref11_LeaseMay_c.f a0_0 a0_1 a0_2 a0_3 a0_4 a0_5 = some r) :
  Calls Tryd.prog 71 #[.agg #[.int .i64 a0_0, .int .i64 a0_1, .string a0_2, .int .i64 a0_3, .string a0_4, .bool a0_5]] w fun e w' => e = .returned (.bool r) ∧ Below w.heap.size w w' := by
 unfold pinfoldref11_LeaseMay_c.f at h
 by_cases hs : a0_4.size ≤ 8796093022000
 ·rw [if_pos hs] at h
  exact pinfoldref11_LeaseMay.calls 1 a0_0 a0_1 a0_2 a0_3 a0_4 a0_5 r w (by rw [reflease_c 1 _ _ _ _ _ _ hs (Nat.le_refl _)]; exact h)
 ·rw [if_neg hs] at h
  cases h

end Go.Proofs.YtnjnfpnkcapilaaDoor.PRegises
