-- Made by wip/pr.py out of the translation (a turned copy of the kit's print; contracts by hand where said).
import Derived.Test.YtdhckibkljafgaaGreatDoorPIx0
import Derived.Test.YtdhckibkljafgaaGreatDoorPIx12
import Derived.Test.YtdhckibkljafgaaGreatDoorPIx13
import Derived.Test.YtdhckibkljafgaaGreatDoorPIx16
namespace Go.Proofs.YtdhckibkljafgaaGreatDoor.PI
open Go.RowKit Go.Proofs.YtdhckibkljafgaaGreatDoorW.PrintWords Go.Proofs.YtdhckibkljafgaaGreatDoorW.PrintLast Go.Proofs.YtdhckibkljafgaaGreatDoorW.PrintMore
-- shrunk
attribute [local go_sem] max2_int min2_int max_two min_two max_three min_three max_four min_four   -- for this text's walks alone
set_option linter.unusedVariables false
set_option linter.unusedSimpArgs false

/-! ### pinfoldlaw15_OfferPicks: function 4 -/
def pinfoldlaw15_OfferPicks.l0 : Nat → List (S44) → Int → ByteArray → List (S44) → Int → Int → Int → Int → Int → Int → List Int → List (S81) → Int → ByteArray → List (S83) → Option (Bool)
 | 0, _, _, _, _, _, _, _, _, _, _, _, _, _, _, _ => none
 | k + 1, x1, x2, x3, x11, x12, x14, x15, x16, x322000, x322001, x322002, x322003, x322004, x322005, x322006 => if x16 < (x1.length : Int) then (if 0 ≤ x16 then (if ((rd_T44 x1 x16).f0) = x12 then (pinfoldlaw15_OfferPicks.l0 k x1 x2 x3 x11 x12 x14 x15 (wrap64 (x16 + 1)) x322000 x322001 x322002 x322003 x322004 x322005 x322006) else (if ((rd_T44 x1 x16).f2).toList = x3.toList then (if ((rd_T44 x1 x16).f1) = 2 then ((pinfoldref11_Live_c.f ((rd_T44 x1 x16).f0) ((rd_T44 x1 x16).f1) ((rd_T44 x1 x16).f2) ((rd_T44 x1 x16).f3) ((rd_T44 x1 x16).f4) ((rd_T44 x1 x16).f5) x2).bind fun t337 => (if t337 = true then (if x15 = 0 then (some (x12 == x14)) else (none)) else (pinfoldlaw15_OfferPicks.l0 k x1 x2 x3 x11 x12 x14 x15 (wrap64 (x16 + 1)) x322000 x322001 x322002 x322003 x322004 x322005 x322006))) else (pinfoldlaw15_OfferPicks.l0 k x1 x2 x3 x11 x12 x14 x15 (wrap64 (x16 + 1)) x322000 x322001 x322002 x322003 x322004 x322005 x322006)) else (pinfoldlaw15_OfferPicks.l0 k x1 x2 x3 x11 x12 x14 x15 (wrap64 (x16 + 1)) x322000 x322001 x322002 x322003 x322004 x322005 x322006))) else (none)) else ((pinfoldref11_Pick_c.f x322000 x322001 x322002 x322003 x322004 x322005 x322006 x11 x2 x3 0).bind fun bt338 => (if x15 = 0 then (if x12 = x14 then (if bt338.2 = 0 then (some (bt338.1 == x12)) else (none)) else (none)) else (none)))
def pinfoldlaw15_OfferPicks.f (k : Nat) (a0_0 : Int) (a0_1 : Int) (l0_2 : List Int) (l0_3 : List (S81)) (a0_4 : Int) (a0_5 : ByteArray) (l0_6 : List (S83)) (l1 : List (S44)) (a2 : Int) (a3 : ByteArray) (a4 : Int) : Option (Bool) := (pinfoldlaw15_awake.f k).bind fun t322 => (if t322 = true then ((offer_Offer.f a0_0 a0_1 l0_2 l0_3 a0_4 a0_5 l0_6 l1 a2 a3 a4).bind fun bt323 => ((pinfoldref11_Pick_c.f a0_0 a0_1 l0_2 l0_3 a0_4 a0_5 l0_6 l1 a2 a3 a4).bind fun bt328 => ((pinfoldlaw0_Num.f bt323.2.2).bind fun t330 => (if t330 = 0 then (pinfoldlaw15_OfferPicks.l0 k l1 a2 a3 bt323.1 bt323.2.1 bt328.1 bt328.2 0 a0_0 a0_1 l0_2 l0_3 a0_4 a0_5 l0_6) else ((pinfoldlaw0_Num.f bt323.2.2).bind fun t331 => (if t331 = 1500 then (some true) else ((pinfoldlaw0_Num.f bt323.2.2).bind fun t332 => (some (t332 == bt328.2))))))))) else (none))
theorem pinfoldlaw15_OfferPicks.mono_l : ∀ k, (∀ y0 y1 y2 y3 y4 y5 y6 y7 y8 y9 y10 y11 y12 y13 y14, LeO (pinfoldlaw15_OfferPicks.l0 k y0 y1 y2 y3 y4 y5 y6 y7 y8 y9 y10 y11 y12 y13 y14) (pinfoldlaw15_OfferPicks.l0 (k + 1) y0 y1 y2 y3 y4 y5 y6 y7 y8 y9 y10 y11 y12 y13 y14))
 | 0 => fun _ _ _ _ _ _ _ _ _ _ _ _ _ _ _ r h => by simp [pinfoldlaw15_OfferPicks.l0] at h
 | k + 1 => by
  have ih0 := pinfoldlaw15_OfferPicks.mono_l k
  ·intro y0 y1 y2 y3 y4 y5 y6 y7 y8 y9 y10 y11 y12 y13 y14
   unfold pinfoldlaw15_OfferPicks.l0
   repeat' first
   | (with_reducible exact ih0 _ _ _ _ _ _ _ _ _ _ _ _ _ _ _)
   | (with_reducible exact pinfoldlaw15_awake.mono _)
   | (with_reducible exact LeO.refl _)
   | (with_reducible exact LeO.none _)
   | (with_reducible refine LeO.ite ?_ ?_)
   | (with_reducible refine LeO.bind ?_ (fun _ => ?_))
   | exact ih0 _ _ _ _ _ _ _ _ _ _ _ _ _ _ _
   | exact pinfoldlaw15_awake.mono _
   | exact LeO.none _
   | refine LeO.ite ?_ ?_
   | refine LeO.bind ?_ (fun _ => ?_)
theorem pinfoldlaw15_OfferPicks.mono : ∀ a0 a1 a2 a3 a4 a5 a6 a7 a8 a9 a10 k, LeO (pinfoldlaw15_OfferPicks.f k a0 a1 a2 a3 a4 a5 a6 a7 a8 a9 a10) (pinfoldlaw15_OfferPicks.f (k + 1) a0 a1 a2 a3 a4 a5 a6 a7 a8 a9 a10) := by
 intro a0 a1 a2 a3 a4 a5 a6 a7 a8 a9 a10 k
 have ih0 := pinfoldlaw15_OfferPicks.mono_l k
 unfold pinfoldlaw15_OfferPicks.f
 repeat' first
   | (with_reducible exact ih0 _ _ _ _ _ _ _ _ _ _ _ _ _ _ _)
   | (with_reducible exact pinfoldlaw15_awake.mono _)
   | (with_reducible exact LeO.refl _)
   | (with_reducible exact LeO.none _)
   | (with_reducible refine LeO.ite ?_ ?_)
   | (with_reducible refine LeO.bind ?_ (fun _ => ?_))
   | exact ih0 _ _ _ _ _ _ _ _ _ _ _ _ _ _ _
   | exact pinfoldlaw15_awake.mono _
   | exact LeO.none _
   | refine LeO.ite ?_ ?_
   | refine LeO.bind ?_ (fun _ => ?_)
set_option maxHeartbeats 8000000 in
set_option maxRecDepth 100000 in
theorem pinfoldlaw15_OfferPicks.calls (k : Nat) (a0_0 : Int) (a0_1 : Int) (A0_2 : Option Addr) (c0_2 : Nat) (l0_2 : List Int) (A0_3 : Option Addr) (c0_3 : Nat) (l0_3 : List (S81)) (a0_4 : Int) (a0_5 : ByteArray) (A0_6 : Option Addr) (c0_6 : Nat) (l0_6 : List (S83)) (A1 : Option Addr) (c1 : Nat) (l1 : List (S44)) (a2 : Int) (a3 : ByteArray) (a4 : Int) (r : Bool) (w : World) (hr0_2 : Kd.C (Kd.int .i64) w A0_2 l0_2.length l0_2) (hc0_2 : l0_2.length ≤ c0_2) (hr0_3 : Kd.C k81 w A0_3 l0_3.length l0_3) (hc0_3 : l0_3.length ≤ c0_3) (hr0_6 : Kd.C k83 w A0_6 l0_6.length l0_6) (hc0_6 : l0_6.length ≤ c0_6) (hr1 : Kd.C k44 w A1 l1.length l1) (hc1 : l1.length ≤ c1) (h : pinfoldlaw15_OfferPicks.f k a0_0 a0_1 l0_2 l0_3 a0_4 a0_5 l0_6 l1 a2 a3 a4 = some r) :
  Calls Tryz.prog 4 #[.agg #[.int .i64 a0_0, .int .i64 a0_1, .slice A0_2 l0_2.length c0_2, .slice A0_3 l0_3.length c0_3, .int .i64 a0_4, .string a0_5, .slice A0_6 l0_6.length c0_6], .slice A1 l1.length c1, .int .i64 a2, .string a3, .int .i64 a4] w fun e w' => e = .returned (.bool r) ∧ Below w.heap.size w w' := by
 have hu26 := Tryz.underlying26
 have hu44 := Tryz.underlying44
 have HR0_2 := am_ hr0_2
 have HC0_2 := am_ hc0_2
 clear hr0_2 hc0_2
 have HR0_3 := am_ hr0_3
 have HC0_3 := am_ hc0_3
 clear hr0_3 hc0_3
 have HR0_6 := am_ hr0_6
 have HC0_6 := am_ hc0_6
 clear hr0_6 hc0_6
 have HR1 := am_ hr1
 have HC1 := am_ hc1
 clear hr1 hc1
 have HB := am_ (Below.refl w.heap.size w)
 have H : ((pinfoldlaw15_awake.f k).bind fun t322 => (if t322 = true then ((offer_Offer.f a0_0 a0_1 l0_2 l0_3 a0_4 a0_5 l0_6 l1 a2 a3 a4).bind fun bt323 => ((pinfoldref11_Pick_c.f a0_0 a0_1 l0_2 l0_3 a0_4 a0_5 l0_6 l1 a2 a3 a4).bind fun bt328 => ((pinfoldlaw0_Num.f bt323.2.2).bind fun t330 => (if t330 = 0 then (pinfoldlaw15_OfferPicks.l0 k l1 a2 a3 bt323.1 bt323.2.1 bt328.1 bt328.2 0 a0_0 a0_1 l0_2 l0_3 a0_4 a0_5 l0_6) else ((pinfoldlaw0_Num.f bt323.2.2).bind fun t331 => (if t331 = 1500 then (some true) else ((pinfoldlaw0_Num.f bt323.2.2).bind fun t332 => (some (t332 == bt328.2))))))))) else (none))) = some r := h
 clear h
 replace H := e4_ H
 obtain ⟨t322, A60, H⟩ := H
 replace H : (if t322 = true then ((offer_Offer.f a0_0 a0_1 l0_2 l0_3 a0_4 a0_5 l0_6 l1 a2 a3 a4).bind fun bt323 => ((pinfoldref11_Pick_c.f a0_0 a0_1 l0_2 l0_3 a0_4 a0_5 l0_6 l1 a2 a3 a4).bind fun bt328 => ((pinfoldlaw0_Num.f bt323.2.2).bind fun t330 => (if t330 = 0 then (pinfoldlaw15_OfferPicks.l0 k l1 a2 a3 bt323.1 bt323.2.1 bt328.1 bt328.2 0 a0_0 a0_1 l0_2 l0_3 a0_4 a0_5 l0_6) else ((pinfoldlaw0_Num.f bt323.2.2).bind fun t331 => (if t331 = 1500 then (some true) else ((pinfoldlaw0_Num.f bt323.2.2).bind fun t332 => (some (t332 == bt328.2))))))))) else (none)) = some r := H
 have A6 := am_ A60
 clear A60
 by_cases c7 : t322 = true
 ·subst c7
  have H1 : ((offer_Offer.f a0_0 a0_1 l0_2 l0_3 a0_4 a0_5 l0_6 l1 a2 a3 a4).bind fun bt323 => ((pinfoldref11_Pick_c.f a0_0 a0_1 l0_2 l0_3 a0_4 a0_5 l0_6 l1 a2 a3 a4).bind fun bt328 => ((pinfoldlaw0_Num.f bt323.2.2).bind fun t330 => (if t330 = 0 then (pinfoldlaw15_OfferPicks.l0 k l1 a2 a3 bt323.1 bt323.2.1 bt328.1 bt328.2 0 a0_0 a0_1 l0_2 l0_3 a0_4 a0_5 l0_6) else ((pinfoldlaw0_Num.f bt323.2.2).bind fun t331 => (if t331 = 1500 then (some true) else ((pinfoldlaw0_Num.f bt323.2.2).bind fun t332 => (some (t332 == bt328.2))))))))) = some r := by rw [if_pos rfl] at H; exact H
  clear H
  have H := H1
  clear H1
  replace H := e4_ H
  obtain ⟨⟨t323, t326, t327⟩, A80, H⟩ := H
  replace H : ((pinfoldref11_Pick_c.f a0_0 a0_1 l0_2 l0_3 a0_4 a0_5 l0_6 l1 a2 a3 a4).bind fun bt328 => ((pinfoldlaw0_Num.f t327).bind fun t330 => (if t330 = 0 then (pinfoldlaw15_OfferPicks.l0 k l1 a2 a3 t323 t326 bt328.1 bt328.2 0 a0_0 a0_1 l0_2 l0_3 a0_4 a0_5 l0_6) else ((pinfoldlaw0_Num.f t327).bind fun t331 => (if t331 = 1500 then (some true) else ((pinfoldlaw0_Num.f t327).bind fun t332 => (some (t332 == bt328.2)))))))) = some r := H
  have A8 := am_ A80
  clear A80
  replace H := e4_ H
  obtain ⟨⟨t328, t329⟩, A90, H⟩ := H
  replace H : ((pinfoldlaw0_Num.f t327).bind fun t330 => (if t330 = 0 then (pinfoldlaw15_OfferPicks.l0 k l1 a2 a3 t323 t326 t328 t329 0 a0_0 a0_1 l0_2 l0_3 a0_4 a0_5 l0_6) else ((pinfoldlaw0_Num.f t327).bind fun t331 => (if t331 = 1500 then (some true) else ((pinfoldlaw0_Num.f t327).bind fun t332 => (some (t332 == t329))))))) = some r := H
  have A9 := am_ A90
  clear A90
  replace H := e4_ H
  obtain ⟨t330, A100, H⟩ := H
  replace H : (if t330 = 0 then (pinfoldlaw15_OfferPicks.l0 k l1 a2 a3 t323 t326 t328 t329 0 a0_0 a0_1 l0_2 l0_3 a0_4 a0_5 l0_6) else ((pinfoldlaw0_Num.f t327).bind fun t331 => (if t331 = 1500 then (some true) else ((pinfoldlaw0_Num.f t327).bind fun t332 => (some (t332 == t329)))))) = some r := H
  have A10 := am_ A100
  clear A100
  by_cases c11 : t330 = 0
  ·rw [if_pos c11] at H
   have c11b0 : (t330 == 0) = true := beq_iff_eq.mpr c11
   have c11b1 : (t330 != 0) = false := e1_ c11
   clear c11
   have H' := am_ H
   clear H
   go_enter Tryz.func4, Tryz.ntmps4
   go_wp2_with (first | ((with_reducible refine gate_dst (N := 5) rfl ?_); refine box_event ?hg (N := 5) ?hd (cs := #[.int .i64 a0_0, .int .i64 a0_1, .slice A0_2 l0_2.length c0_2, .slice A0_3 l0_3.length c0_3, .int .i64 a0_4, .string a0_5, .slice A0_6 l0_6.length c0_6]) (t := 26) ?hr ?_; (case hd => rfl); (case hg => rfl); (case hr => first | (go_simp; done) | (go_simp; rfl)); intro gb321 hg w12 hbox hb; have n0_ := am_ (bt_ (by repeat (with_reducible first | exact HB.out | apply p3_ | apply p1_ | apply p2_)) hb); have n1_ := am_ (hbox); have n2_ := am_ ((by rw [hg]; exact (bz_ (by repeat (with_reducible first | exact HB.out | apply p3_ | apply p1_ | apply p2_))) : w.heap.size ≤ gb321)); have n3_ := am_ ((by rw [hg]; exact (bz_ (by repeat (with_reducible first | exact HB.out | apply p3_ | apply p1_ | apply p2_))) : w.heap.size ≤ gb321)); clear HB; have HB := n0_; have BK321 := n1_; have GW321 := n2_; have GE321 := n3_; clear n0_ n1_ n2_ n3_; clear hb hbox hg) | ((with_reducible refine gate_callee (f := 14) rfl ?_); refine goesL_ (some 19) rfl rfl Tryz.func14 (by kernel_rfl) rfl #[] rfl (by (try simp only [List.map_toArray, List.map_cons, List.map_nil]); first | done | rfl | (simp only [List.length_drop, List.length_take]; rfl)) ?_; (with_reducible refine (pinfoldlaw15_awake.calls k  true _ A6.out).mono ?_); rintro e w13 ⟨rfl, hb⟩; refine ⟨_, rfl, ?_⟩; have n0_ := am_ (kb_ (g := gb321) (o := .cells #[.int .i64 a0_0, .int .i64 a0_1, .slice A0_2 l0_2.length c0_2, .slice A0_3 l0_3.length c0_3, .int .i64 a0_4, .string a0_5, .slice A0_6 l0_6.length c0_6] 26 (0, 0)) (by (with_reducible repeat (first | refine k2_ ?_ _ | refine k3_ ?_ | refine k1_ ?_ _)); exact BK321.out) hb); have n1_ := am_ (bt_ (by repeat (with_reducible first | exact HB.out | apply p3_ | apply p1_ | apply p2_ | refine bs_ ?_ GE321.out)) hb); clear BK321; clear HB; have BK321 := n0_; have HB := n1_; clear n0_ n1_; (try clear hb); have hcz14_0 : w13.cell? ⟨gb321, 0, none⟩ = some (.int .i64 a0_0) := (bc_ BK321.out 0).trans rfl; have hcz14_1 : w13.cell? ⟨gb321, 1, none⟩ = some (.int .i64 a0_1) := (bc_ BK321.out 1).trans rfl; have hcz14_2 : w13.cell? ⟨gb321, 2, none⟩ = some (.slice A0_2 l0_2.length c0_2) := (bc_ BK321.out 2).trans rfl; have hcz14_3 : w13.cell? ⟨gb321, 3, none⟩ = some (.slice A0_3 l0_3.length c0_3) := (bc_ BK321.out 3).trans rfl; have hcz14_4 : w13.cell? ⟨gb321, 4, none⟩ = some (.int .i64 a0_4) := (bc_ BK321.out 4).trans rfl; have hcz14_5 : w13.cell? ⟨gb321, 5, none⟩ = some (.string a0_5) := (bc_ BK321.out 5).trans rfl; have hcz14_6 : w13.cell? ⟨gb321, 6, none⟩ = some (.slice A0_6 l0_6.length c0_6) := (bc_ BK321.out 6).trans rfl; have hfz14_0 := bf_ BK321.out 0; have hfz14_1 := bf_ BK321.out 1; have hfz14_2 := bf_ BK321.out 2; have hfz14_3 := bf_ BK321.out 3; have hfz14_4 := bf_ BK321.out 4; have hfz14_5 := bf_ BK321.out 5; have hfz14_6 := bf_ BK321.out 6) | ((with_reducible refine gate_callee (f := 7) rfl ?_); refine goesL_ (some 27) rfl rfl Tryz.func7 (by kernel_rfl) rfl #[.agg #[.int .i64 a0_0, .int .i64 a0_1, .slice A0_2 l0_2.length c0_2, .slice A0_3 l0_3.length c0_3, .int .i64 a0_4, .string a0_5, .slice A0_6 l0_6.length c0_6], .slice A1 l1.length c1, .int .i64 a2, .string a3, .int .i64 a4] rfl (by (try simp only [List.map_toArray, List.map_cons, List.map_nil]); first | done | rfl | (simp only [List.length_drop, List.length_take]; rfl)) ?_; (with_reducible refine (offer_Offer.calls a0_0 a0_1 _ _ l0_2 _ _ l0_3 a0_4 a0_5 _ _ l0_6 _ _ l1 a2 a3 a4 t323 t326 t327 _ ?side1 ?side2 ?side3 ?side4 ?side5 ?side6 ?side7 ?side8 A8.out).mono ?_); (case side1 => repeat (first | exact (c4_ HR0_2.out HB.out) | (with_reducible refine c1_ ?_ _) | (with_reducible refine c2_ ?_ _) | (with_reducible refine c3_ ?_))); (case side2 => exact HC0_2.out); (case side3 => repeat (first | exact (c4_ HR0_3.out HB.out) | (with_reducible refine c1_ ?_ _) | (with_reducible refine c2_ ?_ _) | (with_reducible refine c3_ ?_))); (case side4 => exact HC0_3.out); (case side5 => repeat (first | exact (c4_ HR0_6.out HB.out) | (with_reducible refine c1_ ?_ _) | (with_reducible refine c2_ ?_ _) | (with_reducible refine c3_ ?_))); (case side6 => exact HC0_6.out); (case side7 => repeat (first | exact (c4_ HR1.out HB.out) | (with_reducible refine c1_ ?_ _) | (with_reducible refine c2_ ?_ _) | (with_reducible refine c3_ ?_))); (case side8 => exact HC1.out); rintro e w15 ⟨v324, rfl, ho0, hb⟩; refine ⟨_, rfl, ?_⟩; have n0_ := am_ (Kd.R_lower ho0 (bz_ (by repeat (with_reducible first | exact HB.out | apply p3_ | apply p1_ | apply p2_ | refine bs_ ?_ GE321.out)))); have n1_ := am_ (kb_ (g := gb321) (o := .cells #[.int .i64 a0_0, .int .i64 a0_1, .slice A0_2 l0_2.length c0_2, .slice A0_3 l0_3.length c0_3, .int .i64 a0_4, .string a0_5, .slice A0_6 l0_6.length c0_6] 26 (0, 0)) (by (with_reducible repeat (first | refine k2_ ?_ _ | refine k3_ ?_ | refine k1_ ?_ _)); exact BK321.out) hb); have n2_ := am_ (bt_ (by repeat (with_reducible first | exact HB.out | apply p3_ | apply p1_ | apply p2_ | refine bs_ ?_ GE321.out)) hb); clear BK321; clear HB; have HO325 := n0_; have BK321 := n1_; have HB := n2_; clear n0_ n1_ n2_; (try clear hb); (try clear ho0); have hcz16_0 : w15.cell? ⟨gb321, 0, none⟩ = some (.int .i64 a0_0) := (bc_ BK321.out 0).trans rfl; have hcz16_1 : w15.cell? ⟨gb321, 1, none⟩ = some (.int .i64 a0_1) := (bc_ BK321.out 1).trans rfl; have hcz16_2 : w15.cell? ⟨gb321, 2, none⟩ = some (.slice A0_2 l0_2.length c0_2) := (bc_ BK321.out 2).trans rfl; have hcz16_3 : w15.cell? ⟨gb321, 3, none⟩ = some (.slice A0_3 l0_3.length c0_3) := (bc_ BK321.out 3).trans rfl; have hcz16_4 : w15.cell? ⟨gb321, 4, none⟩ = some (.int .i64 a0_4) := (bc_ BK321.out 4).trans rfl; have hcz16_5 : w15.cell? ⟨gb321, 5, none⟩ = some (.string a0_5) := (bc_ BK321.out 5).trans rfl; have hcz16_6 : w15.cell? ⟨gb321, 6, none⟩ = some (.slice A0_6 l0_6.length c0_6) := (bc_ BK321.out 6).trans rfl; have hfz16_0 := bf_ BK321.out 0; have hfz16_1 := bf_ BK321.out 1; have hfz16_2 := bf_ BK321.out 2; have hfz16_3 := bf_ BK321.out 3; have hfz16_4 := bf_ BK321.out 4; have hfz16_5 := bf_ BK321.out 5; have hfz16_6 := bf_ BK321.out 6) | ((with_reducible refine gate_callee (f := 15) rfl ?_); refine goesL_ (some 37) rfl rfl Tryz.func15 (by kernel_rfl) rfl #[.agg #[.int .i64 a0_0, .int .i64 a0_1, .slice A0_2 l0_2.length c0_2, .slice A0_3 l0_3.length c0_3, .int .i64 a0_4, .string a0_5, .slice A0_6 l0_6.length c0_6], .slice A1 l1.length c1, .int .i64 a2, .string a3, .int .i64 a4] rfl (by (try simp only [List.map_toArray, List.map_cons, List.map_nil]); first | done | rfl | (simp only [List.length_drop, List.length_take]; rfl)) ?_; (with_reducible refine (pinfoldref11_Pick_c.calls a0_0 a0_1 _ _ l0_2 _ _ l0_3 a0_4 a0_5 _ _ l0_6 _ _ l1 a2 a3 a4 t328 t329 _ ?side1 ?side2 ?side3 ?side4 ?side5 ?side6 ?side7 ?side8 A9.out).mono ?_); (case side1 => repeat (first | exact (c4_ HR0_2.out HB.out) | (with_reducible refine c1_ ?_ _) | (with_reducible refine c2_ ?_ _) | (with_reducible refine c3_ ?_))); (case side2 => exact HC0_2.out); (case side3 => repeat (first | exact (c4_ HR0_3.out HB.out) | (with_reducible refine c1_ ?_ _) | (with_reducible refine c2_ ?_ _) | (with_reducible refine c3_ ?_))); (case side4 => exact HC0_3.out); (case side5 => repeat (first | exact (c4_ HR0_6.out HB.out) | (with_reducible refine c1_ ?_ _) | (with_reducible refine c2_ ?_ _) | (with_reducible refine c3_ ?_))); (case side6 => exact HC0_6.out); (case side7 => repeat (first | exact (c4_ HR1.out HB.out) | (with_reducible refine c1_ ?_ _) | (with_reducible refine c2_ ?_ _) | (with_reducible refine c3_ ?_))); (case side8 => exact HC1.out); rintro e w17 ⟨rfl, hb⟩; refine ⟨_, rfl, ?_⟩; have n0_ := am_ (Kd.R_below (by (with_reducible repeat (first | apply r1_ | apply r2_ | apply r3_)); exact HO325.out) hb); have n1_ := am_ (kb_ (g := gb321) (o := .cells #[.int .i64 a0_0, .int .i64 a0_1, .slice A0_2 l0_2.length c0_2, .slice A0_3 l0_3.length c0_3, .int .i64 a0_4, .string a0_5, .slice A0_6 l0_6.length c0_6] 26 (0, 0)) (by (with_reducible repeat (first | refine k2_ ?_ _ | refine k3_ ?_ | refine k1_ ?_ _)); exact BK321.out) hb); have n2_ := am_ (bt_ (by repeat (with_reducible first | exact HB.out | apply p3_ | apply p1_ | apply p2_ | refine bs_ ?_ GE321.out)) hb); clear HO325; clear BK321; clear HB; have HO325 := n0_; have BK321 := n1_; have HB := n2_; clear n0_ n1_ n2_; (try clear hb)) | ((with_reducible refine gate_callee (f := 10) rfl ?_); refine goesL_ (some 41) rfl rfl Tryz.func10 (by kernel_rfl) rfl #[.int .i64 t327] rfl (by (try simp only [List.map_toArray, List.map_cons, List.map_nil]); first | done | rfl | (simp only [List.length_drop, List.length_take]; rfl)) ?_; (with_reducible refine (pinfoldlaw0_Num.calls t327 t330 _ A10.out).mono ?_); rintro e w' ⟨rfl, ⟨nd, rfl⟩⟩; refine ⟨_, rfl, ?_⟩))
   go_loopg [16] k (fun kq v16 w' => ∃ (x16_1 : Int), v16 = .int .i64 x16_1 ∧ Aside0 (pinfoldlaw15_OfferPicks.l0 kq l1 a2 a3 t323 t326 t328 t329 x16_1 a0_0 a0_1 l0_2 l0_3 a0_4 a0_5 l0_6 = some r) ∧ Aside0 (kq ≤ k) ∧ Aside0 (Kd.R k44 44 w' w.heap.size (fun _ => True) v324 t323) ∧ Aside0 (w'.heap[gb321]? = some (.cells #[.int .i64 a0_0, .int .i64 a0_1, (.slice A0_2 l0_2.length c0_2), (.slice A0_3 l0_3.length c0_3), .int .i64 a0_4, .string a0_5, (.slice A0_6 l0_6.length c0_6)] 26 (0, 0))) ∧ Aside0 (Below w.heap.size w w'))
   case atStart => exact ⟨(0), (by first | rfl | (simp; done) | (simp [*]; done)), H', ⟨Nat.le_refl _⟩, ⟨by (with_reducible repeat (first | apply r1_ | apply r2_ | apply r3_)); exact HO325.out⟩, ⟨by (with_reducible repeat (first | refine k2_ ?_ _ | refine k3_ ?_ | refine k1_ ?_ _)); exact BK321.out⟩, ⟨by repeat (with_reducible first | exact HB.out | apply p3_ | apply p1_ | apply p2_ | refine bs_ ?_ GE321.out)⟩⟩
   case round =>
    clear H'
    (try clear c1); (try clear c7); (try clear c11); (try clear c11b0); (try clear c11b1); (try clear hcz14_0); (try clear hcz14_1); (try clear hcz14_2); (try clear hcz14_3); (try clear hcz14_4); (try clear hcz14_5); (try clear hcz14_6); (try clear hcz16_0); (try clear hcz16_1); (try clear hcz16_2); (try clear hcz16_3); (try clear hcz16_4); (try clear hcz16_5); (try clear hcz16_6); (try clear hfz14_0); (try clear hfz14_1); (try clear hfz14_2); (try clear hfz14_3); (try clear hfz14_4); (try clear hfz14_5); (try clear hfz14_6); (try clear hfz16_0); (try clear hfz16_1); (try clear hfz16_2); (try clear hfz16_3); (try clear hfz16_4); (try clear hfz16_5); (try clear hfz16_6)
    obtain ⟨x16_1, rfl, HA, HK1, HO_11, BK321, HB⟩ := hrel
    cases gk with
    | zero => exact absurd HA.out (by simp [pinfoldlaw15_OfferPicks.l0])
    | succ k1 =>
     have H := HA.out
     clear HA
     simp only [pinfoldlaw15_OfferPicks.l0] at H
     by_cases c18 : x16_1 < (l1.length : Int)
     ·rw [if_pos c18] at H
      have c18b0 : decide (x16_1 < (l1.length : Int)) = true := decide_eq_true c18
      clear c18
      by_cases c19 : 0 ≤ x16_1
      rotate_left
      ·rw [if_neg c19] at H
       exact absurd H (by simp)
      rw [if_pos c19] at H
      have c19b0 : decide (0 ≤ x16_1) = true := decide_eq_true c19
      clear c19
      by_cases c20 : ((rd_T44 l1 x16_1).f0) = t326
      ·rw [if_pos c20] at H
       have c20b0 : (((rd_T44 l1 x16_1).f0) == t326) = true := beq_iff_eq.mpr c20
       have c20b1 : (((rd_T44 l1 x16_1).f0) != t326) = false := e1_ c20
       clear c20
       have H' := am_ H
       clear H
       have p333 : 0 ≤ (x16_1 : Int) := of_decide_eq_true (by first | (with_reducible assumption) | assumption)
       have q333 : x16_1 < (l1.length : Int) := of_decide_eq_true (by first | (with_reducible assumption) | assumption)
       obtain ⟨ad333, e333, hx333_0, hx333_1, hx333_2, hx333_3, hx333_4, hx333_5⟩ := at_T44 HR1.out x16_1 p333 q333
       cases e333
       replace hx333_0 := (HB.out.cell (wb_ w _ hx333_0)).trans hx333_0
       replace hx333_1 := (HB.out.cell (wb_ w _ hx333_1)).trans hx333_1
       replace hx333_2 := (HB.out.cell (wb_ w _ hx333_2)).trans hx333_2
       replace hx333_3 := (HB.out.cell (wb_ w _ hx333_3)).trans hx333_3
       replace hx333_4 := (HB.out.cell (wb_ w _ hx333_4)).trans hx333_4
       replace hx333_5 := (HB.out.cell (wb_ w _ hx333_5)).trans hx333_5
       replace p333 := eq_true p333
       replace q333 := eq_true q333
       go_wp2
       go_roundg k1
       case measure => have := HK1.out; omega
       case rel => exact ⟨(wrap64 (x16_1 + 1)), (by first | rfl | (simp; done) | (simp [*]; done)), H', ⟨by have := HK1.out; omega⟩, ⟨by (with_reducible repeat (first | apply r1_ | apply r2_ | apply r3_)); exact HO_11.out⟩, ⟨by (with_reducible repeat (first | refine k2_ ?_ _ | refine k3_ ?_ | refine k1_ ?_ _)); exact BK321.out⟩, ⟨by repeat (with_reducible first | exact HB.out | apply p3_ | apply p1_ | apply p2_ | refine bs_ ?_ GE321.out)⟩⟩
      rw [if_neg c20] at H
      have c20b0 : (((rd_T44 l1 x16_1).f0) == t326) = false := e2_ c20
      have c20b1 : (((rd_T44 l1 x16_1).f0) != t326) = true := bne_iff_ne.mpr c20
      by_cases c21 : ((rd_T44 l1 x16_1).f2).toList = a3.toList
      ·rw [if_pos c21] at H
       have c21b0 : (((rd_T44 l1 x16_1).f2).toList == a3.toList) = true := beq_iff_eq.mpr c21
       have c21b1 : (((rd_T44 l1 x16_1).f2).toList != a3.toList) = false := e1_ c21
       clear c21
       by_cases c22 : ((rd_T44 l1 x16_1).f1) = 2
       ·rw [if_pos c22] at H
        have c22b0 : (((rd_T44 l1 x16_1).f1) == 2) = true := beq_iff_eq.mpr c22
        have c22b1 : (((rd_T44 l1 x16_1).f1) != 2) = false := e1_ c22
        clear c22
        replace H := e4_ H
        obtain ⟨t337, A230, H⟩ := H
        replace H : (if t337 = true then (if t329 = 0 then (some (t326 == t328)) else (none)) else (pinfoldlaw15_OfferPicks.l0 k1 l1 a2 a3 t323 t326 t328 t329 (wrap64 (x16_1 + 1)) a0_0 a0_1 l0_2 l0_3 a0_4 a0_5 l0_6)) = some r := H
        have A23 := am_ A230
        clear A230
        by_cases c24 : t337 = true
        ·subst c24
         have H1 : (if t329 = 0 then (some (t326 == t328)) else (none)) = some r := by rw [if_pos rfl] at H; exact H
         clear H
         have H := H1
         clear H1
         by_cases c25 : t329 = 0
         rotate_left
         ·rw [if_neg c25] at H
          exact absurd H (by simp)
         rw [if_pos c25] at H
         have c25b0 : (t329 == 0) = true := beq_iff_eq.mpr c25
         have c25b1 : (t329 != 0) = false := e1_ c25
         clear c25
         obtain rfl := e5_ H
         have p333 : 0 ≤ (x16_1 : Int) := of_decide_eq_true (by first | (with_reducible assumption) | assumption)
         have q333 : x16_1 < (l1.length : Int) := of_decide_eq_true (by first | (with_reducible assumption) | assumption)
         obtain ⟨ad333, e333, hx333_0, hx333_1, hx333_2, hx333_3, hx333_4, hx333_5⟩ := at_T44 HR1.out x16_1 p333 q333
         cases e333
         replace hx333_0 := (HB.out.cell (wb_ w _ hx333_0)).trans hx333_0
         replace hx333_1 := (HB.out.cell (wb_ w _ hx333_1)).trans hx333_1
         replace hx333_2 := (HB.out.cell (wb_ w _ hx333_2)).trans hx333_2
         replace hx333_3 := (HB.out.cell (wb_ w _ hx333_3)).trans hx333_3
         replace hx333_4 := (HB.out.cell (wb_ w _ hx333_4)).trans hx333_4
         replace hx333_5 := (HB.out.cell (wb_ w _ hx333_5)).trans hx333_5
         replace p333 := eq_true p333
         replace q333 := eq_true q333
         have p334 : 0 ≤ (x16_1 : Int) := of_decide_eq_true (by first | (with_reducible assumption) | assumption)
         have q334 : x16_1 < (l1.length : Int) := of_decide_eq_true (by first | (with_reducible assumption) | assumption)
         obtain ⟨ad334, e334, hx334_0, hx334_1, hx334_2, hx334_3, hx334_4, hx334_5⟩ := at_T44 HR1.out x16_1 p334 q334
         obtain rfl : ad333 = ad334 := (by injection e334)
         replace hx334_0 := (HB.out.cell (wb_ w _ hx334_0)).trans hx334_0
         replace hx334_1 := (HB.out.cell (wb_ w _ hx334_1)).trans hx334_1
         replace hx334_2 := (HB.out.cell (wb_ w _ hx334_2)).trans hx334_2
         replace hx334_3 := (HB.out.cell (wb_ w _ hx334_3)).trans hx334_3
         replace hx334_4 := (HB.out.cell (wb_ w _ hx334_4)).trans hx334_4
         replace hx334_5 := (HB.out.cell (wb_ w _ hx334_5)).trans hx334_5
         replace p334 := eq_true p334
         replace q334 := eq_true q334
         have p335 : 0 ≤ (x16_1 : Int) := of_decide_eq_true (by first | (with_reducible assumption) | assumption)
         have q335 : x16_1 < (l1.length : Int) := of_decide_eq_true (by first | (with_reducible assumption) | assumption)
         obtain ⟨ad335, e335, hx335_0, hx335_1, hx335_2, hx335_3, hx335_4, hx335_5⟩ := at_T44 HR1.out x16_1 p335 q335
         obtain rfl : ad333 = ad335 := (by injection e335)
         replace hx335_0 := (HB.out.cell (wb_ w _ hx335_0)).trans hx335_0
         replace hx335_1 := (HB.out.cell (wb_ w _ hx335_1)).trans hx335_1
         replace hx335_2 := (HB.out.cell (wb_ w _ hx335_2)).trans hx335_2
         replace hx335_3 := (HB.out.cell (wb_ w _ hx335_3)).trans hx335_3
         replace hx335_4 := (HB.out.cell (wb_ w _ hx335_4)).trans hx335_4
         replace hx335_5 := (HB.out.cell (wb_ w _ hx335_5)).trans hx335_5
         replace p335 := eq_true p335
         replace q335 := eq_true q335
         have p336 : 0 ≤ (x16_1 : Int) := of_decide_eq_true (by first | (with_reducible assumption) | assumption)
         have q336 : x16_1 < (l1.length : Int) := of_decide_eq_true (by first | (with_reducible assumption) | assumption)
         obtain ⟨ad336, e336, hx336_0, hx336_1, hx336_2, hx336_3, hx336_4, hx336_5⟩ := at_T44 HR1.out x16_1 p336 q336
         obtain rfl : ad333 = ad336 := (by injection e336)
         replace hx336_0 := (HB.out.cell (wb_ w _ hx336_0)).trans hx336_0
         replace hx336_1 := (HB.out.cell (wb_ w _ hx336_1)).trans hx336_1
         replace hx336_2 := (HB.out.cell (wb_ w _ hx336_2)).trans hx336_2
         replace hx336_3 := (HB.out.cell (wb_ w _ hx336_3)).trans hx336_3
         replace hx336_4 := (HB.out.cell (wb_ w _ hx336_4)).trans hx336_4
         replace hx336_5 := (HB.out.cell (wb_ w _ hx336_5)).trans hx336_5
         replace p336 := eq_true p336
         replace q336 := eq_true q336
         go_wp2_with (first | (go_at_call 16; (with_reducible refine (pinfoldref11_Live_c.calls ((rd_T44 l1 x16_1).f0) ((rd_T44 l1 x16_1).f1) ((rd_T44 l1 x16_1).f2) ((rd_T44 l1 x16_1).f3) ((rd_T44 l1 x16_1).f4) ((rd_T44 l1 x16_1).f5) a2 true _ A23.out).mono ?_); rintro e w26 ⟨rfl, hb⟩; have n0_ := am_ (Kd.R_below (by (with_reducible repeat (first | apply r1_ | apply r2_ | apply r3_)); exact HO_11.out) hb); have n1_ := am_ (kb_ (g := gb321) (o := .cells #[.int .i64 a0_0, .int .i64 a0_1, .slice A0_2 l0_2.length c0_2, .slice A0_3 l0_3.length c0_3, .int .i64 a0_4, .string a0_5, .slice A0_6 l0_6.length c0_6] 26 (0, 0)) (by (with_reducible repeat (first | refine k2_ ?_ _ | refine k3_ ?_ | refine k1_ ?_ _)); exact BK321.out) hb); have n2_ := am_ (bt_ (by repeat (with_reducible first | exact HB.out | apply p3_ | apply p1_ | apply p2_ | refine bs_ ?_ GE321.out)) hb); clear HO_11; clear BK321; clear HB; have HO_11 := n0_; have BK321 := n1_; have HB := n2_; clear n0_ n1_ n2_; (try clear hb)))
         go_ret
         exact ⟨by first | rfl | (simp [errW_none, errW_some] <;> rfl) | (simp [*, errW_none, errW_some] <;> rfl), by repeat (with_reducible first | exact HB.out | apply p3_ | apply p1_ | apply p2_ | refine bs_ ?_ GE321.out)⟩
        replace c24 := e3_ c24
        subst c24
        have H1 : (pinfoldlaw15_OfferPicks.l0 k1 l1 a2 a3 t323 t326 t328 t329 (wrap64 (x16_1 + 1)) a0_0 a0_1 l0_2 l0_3 a0_4 a0_5 l0_6) = some r := by rw [if_neg (show ¬ (false = true) by decide)] at H; exact H
        clear H
        have H := H1
        clear H1
        have H' := am_ H
        clear H
        have p333 : 0 ≤ (x16_1 : Int) := of_decide_eq_true (by first | (with_reducible assumption) | assumption)
        have q333 : x16_1 < (l1.length : Int) := of_decide_eq_true (by first | (with_reducible assumption) | assumption)
        obtain ⟨ad333, e333, hx333_0, hx333_1, hx333_2, hx333_3, hx333_4, hx333_5⟩ := at_T44 HR1.out x16_1 p333 q333
        cases e333
        replace hx333_0 := (HB.out.cell (wb_ w _ hx333_0)).trans hx333_0
        replace hx333_1 := (HB.out.cell (wb_ w _ hx333_1)).trans hx333_1
        replace hx333_2 := (HB.out.cell (wb_ w _ hx333_2)).trans hx333_2
        replace hx333_3 := (HB.out.cell (wb_ w _ hx333_3)).trans hx333_3
        replace hx333_4 := (HB.out.cell (wb_ w _ hx333_4)).trans hx333_4
        replace hx333_5 := (HB.out.cell (wb_ w _ hx333_5)).trans hx333_5
        replace p333 := eq_true p333
        replace q333 := eq_true q333
        have p334 : 0 ≤ (x16_1 : Int) := of_decide_eq_true (by first | (with_reducible assumption) | assumption)
        have q334 : x16_1 < (l1.length : Int) := of_decide_eq_true (by first | (with_reducible assumption) | assumption)
        obtain ⟨ad334, e334, hx334_0, hx334_1, hx334_2, hx334_3, hx334_4, hx334_5⟩ := at_T44 HR1.out x16_1 p334 q334
        obtain rfl : ad333 = ad334 := (by injection e334)
        replace hx334_0 := (HB.out.cell (wb_ w _ hx334_0)).trans hx334_0
        replace hx334_1 := (HB.out.cell (wb_ w _ hx334_1)).trans hx334_1
        replace hx334_2 := (HB.out.cell (wb_ w _ hx334_2)).trans hx334_2
        replace hx334_3 := (HB.out.cell (wb_ w _ hx334_3)).trans hx334_3
        replace hx334_4 := (HB.out.cell (wb_ w _ hx334_4)).trans hx334_4
        replace hx334_5 := (HB.out.cell (wb_ w _ hx334_5)).trans hx334_5
        replace p334 := eq_true p334
        replace q334 := eq_true q334
        have p335 : 0 ≤ (x16_1 : Int) := of_decide_eq_true (by first | (with_reducible assumption) | assumption)
        have q335 : x16_1 < (l1.length : Int) := of_decide_eq_true (by first | (with_reducible assumption) | assumption)
        obtain ⟨ad335, e335, hx335_0, hx335_1, hx335_2, hx335_3, hx335_4, hx335_5⟩ := at_T44 HR1.out x16_1 p335 q335
        obtain rfl : ad333 = ad335 := (by injection e335)
        replace hx335_0 := (HB.out.cell (wb_ w _ hx335_0)).trans hx335_0
        replace hx335_1 := (HB.out.cell (wb_ w _ hx335_1)).trans hx335_1
        replace hx335_2 := (HB.out.cell (wb_ w _ hx335_2)).trans hx335_2
        replace hx335_3 := (HB.out.cell (wb_ w _ hx335_3)).trans hx335_3
        replace hx335_4 := (HB.out.cell (wb_ w _ hx335_4)).trans hx335_4
        replace hx335_5 := (HB.out.cell (wb_ w _ hx335_5)).trans hx335_5
        replace p335 := eq_true p335
        replace q335 := eq_true q335
        have p336 : 0 ≤ (x16_1 : Int) := of_decide_eq_true (by first | (with_reducible assumption) | assumption)
        have q336 : x16_1 < (l1.length : Int) := of_decide_eq_true (by first | (with_reducible assumption) | assumption)
        obtain ⟨ad336, e336, hx336_0, hx336_1, hx336_2, hx336_3, hx336_4, hx336_5⟩ := at_T44 HR1.out x16_1 p336 q336
        obtain rfl : ad333 = ad336 := (by injection e336)
        replace hx336_0 := (HB.out.cell (wb_ w _ hx336_0)).trans hx336_0
        replace hx336_1 := (HB.out.cell (wb_ w _ hx336_1)).trans hx336_1
        replace hx336_2 := (HB.out.cell (wb_ w _ hx336_2)).trans hx336_2
        replace hx336_3 := (HB.out.cell (wb_ w _ hx336_3)).trans hx336_3
        replace hx336_4 := (HB.out.cell (wb_ w _ hx336_4)).trans hx336_4
        replace hx336_5 := (HB.out.cell (wb_ w _ hx336_5)).trans hx336_5
        replace p336 := eq_true p336
        replace q336 := eq_true q336
        go_wp2_with (first | (go_at_call 16; (with_reducible refine (pinfoldref11_Live_c.calls ((rd_T44 l1 x16_1).f0) ((rd_T44 l1 x16_1).f1) ((rd_T44 l1 x16_1).f2) ((rd_T44 l1 x16_1).f3) ((rd_T44 l1 x16_1).f4) ((rd_T44 l1 x16_1).f5) a2 false _ A23.out).mono ?_); rintro e w27 ⟨rfl, hb⟩; have n0_ := am_ (Kd.R_below (by (with_reducible repeat (first | apply r1_ | apply r2_ | apply r3_)); exact HO_11.out) hb); have n1_ := am_ (kb_ (g := gb321) (o := .cells #[.int .i64 a0_0, .int .i64 a0_1, .slice A0_2 l0_2.length c0_2, .slice A0_3 l0_3.length c0_3, .int .i64 a0_4, .string a0_5, .slice A0_6 l0_6.length c0_6] 26 (0, 0)) (by (with_reducible repeat (first | refine k2_ ?_ _ | refine k3_ ?_ | refine k1_ ?_ _)); exact BK321.out) hb); have n2_ := am_ (bt_ (by repeat (with_reducible first | exact HB.out | apply p3_ | apply p1_ | apply p2_ | refine bs_ ?_ GE321.out)) hb); clear HO_11; clear BK321; clear HB; have HO_11 := n0_; have BK321 := n1_; have HB := n2_; clear n0_ n1_ n2_; (try clear hb)))
        go_roundg k1
        case measure => have := HK1.out; omega
        case rel => exact ⟨(wrap64 (x16_1 + 1)), (by first | rfl | (simp; done) | (simp [*]; done)), H', ⟨by have := HK1.out; omega⟩, ⟨by (with_reducible repeat (first | apply r1_ | apply r2_ | apply r3_)); exact HO_11.out⟩, ⟨by (with_reducible repeat (first | refine k2_ ?_ _ | refine k3_ ?_ | refine k1_ ?_ _)); exact BK321.out⟩, ⟨by repeat (with_reducible first | exact HB.out | apply p3_ | apply p1_ | apply p2_ | refine bs_ ?_ GE321.out)⟩⟩
       rw [if_neg c22] at H
       have c22b0 : (((rd_T44 l1 x16_1).f1) == 2) = false := e2_ c22
       have c22b1 : (((rd_T44 l1 x16_1).f1) != 2) = true := bne_iff_ne.mpr c22
       have H' := am_ H
       clear H
       have p333 : 0 ≤ (x16_1 : Int) := of_decide_eq_true (by first | (with_reducible assumption) | assumption)
       have q333 : x16_1 < (l1.length : Int) := of_decide_eq_true (by first | (with_reducible assumption) | assumption)
       obtain ⟨ad333, e333, hx333_0, hx333_1, hx333_2, hx333_3, hx333_4, hx333_5⟩ := at_T44 HR1.out x16_1 p333 q333
       cases e333
       replace hx333_0 := (HB.out.cell (wb_ w _ hx333_0)).trans hx333_0
       replace hx333_1 := (HB.out.cell (wb_ w _ hx333_1)).trans hx333_1
       replace hx333_2 := (HB.out.cell (wb_ w _ hx333_2)).trans hx333_2
       replace hx333_3 := (HB.out.cell (wb_ w _ hx333_3)).trans hx333_3
       replace hx333_4 := (HB.out.cell (wb_ w _ hx333_4)).trans hx333_4
       replace hx333_5 := (HB.out.cell (wb_ w _ hx333_5)).trans hx333_5
       replace p333 := eq_true p333
       replace q333 := eq_true q333
       have p334 : 0 ≤ (x16_1 : Int) := of_decide_eq_true (by first | (with_reducible assumption) | assumption)
       have q334 : x16_1 < (l1.length : Int) := of_decide_eq_true (by first | (with_reducible assumption) | assumption)
       obtain ⟨ad334, e334, hx334_0, hx334_1, hx334_2, hx334_3, hx334_4, hx334_5⟩ := at_T44 HR1.out x16_1 p334 q334
       obtain rfl : ad333 = ad334 := (by injection e334)
       replace hx334_0 := (HB.out.cell (wb_ w _ hx334_0)).trans hx334_0
       replace hx334_1 := (HB.out.cell (wb_ w _ hx334_1)).trans hx334_1
       replace hx334_2 := (HB.out.cell (wb_ w _ hx334_2)).trans hx334_2
       replace hx334_3 := (HB.out.cell (wb_ w _ hx334_3)).trans hx334_3
       replace hx334_4 := (HB.out.cell (wb_ w _ hx334_4)).trans hx334_4
       replace hx334_5 := (HB.out.cell (wb_ w _ hx334_5)).trans hx334_5
       replace p334 := eq_true p334
       replace q334 := eq_true q334
       have p335 : 0 ≤ (x16_1 : Int) := of_decide_eq_true (by first | (with_reducible assumption) | assumption)
       have q335 : x16_1 < (l1.length : Int) := of_decide_eq_true (by first | (with_reducible assumption) | assumption)
       obtain ⟨ad335, e335, hx335_0, hx335_1, hx335_2, hx335_3, hx335_4, hx335_5⟩ := at_T44 HR1.out x16_1 p335 q335
       obtain rfl : ad333 = ad335 := (by injection e335)
       replace hx335_0 := (HB.out.cell (wb_ w _ hx335_0)).trans hx335_0
       replace hx335_1 := (HB.out.cell (wb_ w _ hx335_1)).trans hx335_1
       replace hx335_2 := (HB.out.cell (wb_ w _ hx335_2)).trans hx335_2
       replace hx335_3 := (HB.out.cell (wb_ w _ hx335_3)).trans hx335_3
       replace hx335_4 := (HB.out.cell (wb_ w _ hx335_4)).trans hx335_4
       replace hx335_5 := (HB.out.cell (wb_ w _ hx335_5)).trans hx335_5
       replace p335 := eq_true p335
       replace q335 := eq_true q335
       go_wp2
       go_roundg k1
       case measure => have := HK1.out; omega
       case rel => exact ⟨(wrap64 (x16_1 + 1)), (by first | rfl | (simp; done) | (simp [*]; done)), H', ⟨by have := HK1.out; omega⟩, ⟨by (with_reducible repeat (first | apply r1_ | apply r2_ | apply r3_)); exact HO_11.out⟩, ⟨by (with_reducible repeat (first | refine k2_ ?_ _ | refine k3_ ?_ | refine k1_ ?_ _)); exact BK321.out⟩, ⟨by repeat (with_reducible first | exact HB.out | apply p3_ | apply p1_ | apply p2_ | refine bs_ ?_ GE321.out)⟩⟩
      rw [if_neg c21] at H
      have c21b0 : (((rd_T44 l1 x16_1).f2).toList == a3.toList) = false := e2_ c21
      have c21b1 : (((rd_T44 l1 x16_1).f2).toList != a3.toList) = true := bne_iff_ne.mpr c21
      have H' := am_ H
      clear H
      have p333 : 0 ≤ (x16_1 : Int) := of_decide_eq_true (by first | (with_reducible assumption) | assumption)
      have q333 : x16_1 < (l1.length : Int) := of_decide_eq_true (by first | (with_reducible assumption) | assumption)
      obtain ⟨ad333, e333, hx333_0, hx333_1, hx333_2, hx333_3, hx333_4, hx333_5⟩ := at_T44 HR1.out x16_1 p333 q333
      cases e333
      replace hx333_0 := (HB.out.cell (wb_ w _ hx333_0)).trans hx333_0
      replace hx333_1 := (HB.out.cell (wb_ w _ hx333_1)).trans hx333_1
      replace hx333_2 := (HB.out.cell (wb_ w _ hx333_2)).trans hx333_2
      replace hx333_3 := (HB.out.cell (wb_ w _ hx333_3)).trans hx333_3
      replace hx333_4 := (HB.out.cell (wb_ w _ hx333_4)).trans hx333_4
      replace hx333_5 := (HB.out.cell (wb_ w _ hx333_5)).trans hx333_5
      replace p333 := eq_true p333
      replace q333 := eq_true q333
      have p334 : 0 ≤ (x16_1 : Int) := of_decide_eq_true (by first | (with_reducible assumption) | assumption)
      have q334 : x16_1 < (l1.length : Int) := of_decide_eq_true (by first | (with_reducible assumption) | assumption)
      obtain ⟨ad334, e334, hx334_0, hx334_1, hx334_2, hx334_3, hx334_4, hx334_5⟩ := at_T44 HR1.out x16_1 p334 q334
      obtain rfl : ad333 = ad334 := (by injection e334)
      replace hx334_0 := (HB.out.cell (wb_ w _ hx334_0)).trans hx334_0
      replace hx334_1 := (HB.out.cell (wb_ w _ hx334_1)).trans hx334_1
      replace hx334_2 := (HB.out.cell (wb_ w _ hx334_2)).trans hx334_2
      replace hx334_3 := (HB.out.cell (wb_ w _ hx334_3)).trans hx334_3
      replace hx334_4 := (HB.out.cell (wb_ w _ hx334_4)).trans hx334_4
      replace hx334_5 := (HB.out.cell (wb_ w _ hx334_5)).trans hx334_5
      replace p334 := eq_true p334
      replace q334 := eq_true q334
      go_wp2
      go_roundg k1
      case measure => have := HK1.out; omega
      case rel => exact ⟨(wrap64 (x16_1 + 1)), (by first | rfl | (simp; done) | (simp [*]; done)), H', ⟨by have := HK1.out; omega⟩, ⟨by (with_reducible repeat (first | apply r1_ | apply r2_ | apply r3_)); exact HO_11.out⟩, ⟨by (with_reducible repeat (first | refine k2_ ?_ _ | refine k3_ ?_ | refine k1_ ?_ _)); exact BK321.out⟩, ⟨by repeat (with_reducible first | exact HB.out | apply p3_ | apply p1_ | apply p2_ | refine bs_ ?_ GE321.out)⟩⟩
     rw [if_neg c18] at H
     have c18b0 : decide (x16_1 < (l1.length : Int)) = false := decide_eq_false c18
     clear c18
     replace H := e4_ H
     obtain ⟨⟨t338, t339⟩, A280, H⟩ := H
     replace H : (if t329 = 0 then (if t326 = t328 then (if t339 = 0 then (some (t338 == t326)) else (none)) else (none)) else (none)) = some r := H
     have A28 := am_ A280
     clear A280
     by_cases c29 : t329 = 0
     rotate_left
     ·rw [if_neg c29] at H
      exact absurd H (by simp)
     rw [if_pos c29] at H
     have c29b0 : (t329 == 0) = true := beq_iff_eq.mpr c29
     have c29b1 : (t329 != 0) = false := e1_ c29
     clear c29
     by_cases c30 : t326 = t328
     rotate_left
     ·rw [if_neg c30] at H
      exact absurd H (by simp)
     rw [if_pos c30] at H
     have c30b0 : (t326 == t328) = true := beq_iff_eq.mpr c30
     have c30b1 : (t326 != t328) = false := e1_ c30
     clear c30
     by_cases c31 : t339 = 0
     rotate_left
     ·rw [if_neg c31] at H
      exact absurd H (by simp)
     rw [if_pos c31] at H
     have c31b0 : (t339 == 0) = true := beq_iff_eq.mpr c31
     have c31b1 : (t339 != 0) = false := e1_ c31
     clear c31
     obtain rfl := e5_ H
     have hcz32_0 : wr.cell? ⟨gb321, 0, none⟩ = some (.int .i64 a0_0) := (bc_ BK321.out 0).trans rfl; have hcz32_1 : wr.cell? ⟨gb321, 1, none⟩ = some (.int .i64 a0_1) := (bc_ BK321.out 1).trans rfl; have hcz32_2 : wr.cell? ⟨gb321, 2, none⟩ = some (.slice A0_2 l0_2.length c0_2) := (bc_ BK321.out 2).trans rfl; have hcz32_3 : wr.cell? ⟨gb321, 3, none⟩ = some (.slice A0_3 l0_3.length c0_3) := (bc_ BK321.out 3).trans rfl; have hcz32_4 : wr.cell? ⟨gb321, 4, none⟩ = some (.int .i64 a0_4) := (bc_ BK321.out 4).trans rfl; have hcz32_5 : wr.cell? ⟨gb321, 5, none⟩ = some (.string a0_5) := (bc_ BK321.out 5).trans rfl; have hcz32_6 : wr.cell? ⟨gb321, 6, none⟩ = some (.slice A0_6 l0_6.length c0_6) := (bc_ BK321.out 6).trans rfl; have hfz32_0 := bf_ BK321.out 0; have hfz32_1 := bf_ BK321.out 1; have hfz32_2 := bf_ BK321.out 2; have hfz32_3 := bf_ BK321.out 3; have hfz32_4 := bf_ BK321.out 4; have hfz32_5 := bf_ BK321.out 5; have hfz32_6 := bf_ BK321.out 6
     obtain ⟨Ao33, co33, eo33⟩ := Kd.R_slice HO_11.out
     subst eo33
     go_wp2_with (first | ((with_reducible refine gate_callee (f := 15) rfl ?_); refine goesL_ (some 102) rfl rfl Tryz.func15 (by kernel_rfl) rfl #[.agg #[.int .i64 a0_0, .int .i64 a0_1, .slice A0_2 l0_2.length c0_2, .slice A0_3 l0_3.length c0_3, .int .i64 a0_4, .string a0_5, .slice A0_6 l0_6.length c0_6], .slice Ao33 t323.length co33, .int .i64 a2, .string a3, .int .i64 0] rfl (by (try simp only [List.map_toArray, List.map_cons, List.map_nil]); first | done | rfl | (simp only [List.length_drop, List.length_take]; rfl)) ?_; (with_reducible refine (pinfoldref11_Pick_c.calls a0_0 a0_1 _ _ l0_2 _ _ l0_3 a0_4 a0_5 _ _ l0_6 _ _ t323 a2 a3 0 t338 t339 _ ?side1 ?side2 ?side3 ?side4 ?side5 ?side6 ?side7 ?side8 A28.out).mono ?_); (case side1 => repeat (first | exact (c4_ HR0_2.out HB.out) | (with_reducible refine c1_ ?_ _) | (with_reducible refine c2_ ?_ _) | (with_reducible refine c3_ ?_))); (case side2 => exact HC0_2.out); (case side3 => repeat (first | exact (c4_ HR0_3.out HB.out) | (with_reducible refine c1_ ?_ _) | (with_reducible refine c2_ ?_ _) | (with_reducible refine c3_ ?_))); (case side4 => exact HC0_3.out); (case side5 => repeat (first | exact (c4_ HR0_6.out HB.out) | (with_reducible refine c1_ ?_ _) | (with_reducible refine c2_ ?_ _) | (with_reducible refine c3_ ?_))); (case side6 => exact HC0_6.out); (case side7 => repeat (first | exact (Kd.R_reads' HO_11.out).2.2 | (with_reducible refine c1_ ?_ _) | (with_reducible refine c2_ ?_ _) | (with_reducible refine c3_ ?_))); (case side8 => exact (Kd.R_reads' HO_11.out).2.1); rintro e w34 ⟨rfl, hb⟩; refine ⟨_, rfl, ?_⟩; have n0_ := am_ (Kd.R_below (by (with_reducible repeat (first | apply r1_ | apply r2_ | apply r3_)); exact HO_11.out) hb); have n1_ := am_ (kb_ (g := gb321) (o := .cells #[.int .i64 a0_0, .int .i64 a0_1, .slice A0_2 l0_2.length c0_2, .slice A0_3 l0_3.length c0_3, .int .i64 a0_4, .string a0_5, .slice A0_6 l0_6.length c0_6] 26 (0, 0)) (by (with_reducible repeat (first | refine k2_ ?_ _ | refine k3_ ?_ | refine k1_ ?_ _)); exact BK321.out) hb); have n2_ := am_ (bt_ (by repeat (with_reducible first | exact HB.out | apply p3_ | apply p1_ | apply p2_ | refine bs_ ?_ GE321.out)) hb); clear HO_11; clear BK321; clear HB; have HO_11 := n0_; have BK321 := n1_; have HB := n2_; clear n0_ n1_ n2_; (try clear hb)))
     go_ret
     exact ⟨by first | rfl | (simp [errW_none, errW_some] <;> rfl) | (simp [*, errW_none, errW_some] <;> rfl), by repeat (with_reducible first | exact HB.out | apply p3_ | apply p1_ | apply p2_ | refine bs_ ?_ GE321.out)⟩
  rw [if_neg c11] at H
  have c11b0 : (t330 == 0) = false := e2_ c11
  have c11b1 : (t330 != 0) = true := bne_iff_ne.mpr c11
  replace H := e4_ H
  obtain ⟨t331, A350, H⟩ := H
  replace H : (if t331 = 1500 then (some true) else ((pinfoldlaw0_Num.f t327).bind fun t332 => (some (t332 == t329)))) = some r := H
  have A35 := am_ A350
  clear A350
  by_cases c36 : t331 = 1500
  ·rw [if_pos c36] at H
   have c36b0 : (t331 == 1500) = true := beq_iff_eq.mpr c36
   have c36b1 : (t331 != 1500) = false := e1_ c36
   clear c36
   obtain rfl := e5_ H
   go_enter Tryz.func4, Tryz.ntmps4
   go_wp2_with (first | ((with_reducible refine gate_dst (N := 5) rfl ?_); refine box_event ?hg (N := 5) ?hd (cs := #[.int .i64 a0_0, .int .i64 a0_1, .slice A0_2 l0_2.length c0_2, .slice A0_3 l0_3.length c0_3, .int .i64 a0_4, .string a0_5, .slice A0_6 l0_6.length c0_6]) (t := 26) ?hr ?_; (case hd => rfl); (case hg => rfl); (case hr => first | (go_simp; done) | (go_simp; rfl)); intro gb321 hg w37 hbox hb; have n0_ := am_ (bt_ (by repeat (with_reducible first | exact HB.out | apply p3_ | apply p1_ | apply p2_)) hb); have n1_ := am_ (hbox); have n2_ := am_ ((by rw [hg]; exact (bz_ (by repeat (with_reducible first | exact HB.out | apply p3_ | apply p1_ | apply p2_))) : w.heap.size ≤ gb321)); have n3_ := am_ ((by rw [hg]; exact (bz_ (by repeat (with_reducible first | exact HB.out | apply p3_ | apply p1_ | apply p2_))) : w.heap.size ≤ gb321)); clear HB; have HB := n0_; have BK321 := n1_; have GW321 := n2_; have GE321 := n3_; clear n0_ n1_ n2_ n3_; clear hb hbox hg) | ((with_reducible refine gate_callee (f := 14) rfl ?_); refine goesL_ (some 19) rfl rfl Tryz.func14 (by kernel_rfl) rfl #[] rfl (by (try simp only [List.map_toArray, List.map_cons, List.map_nil]); first | done | rfl | (simp only [List.length_drop, List.length_take]; rfl)) ?_; (with_reducible refine (pinfoldlaw15_awake.calls k  true _ A6.out).mono ?_); rintro e w38 ⟨rfl, hb⟩; refine ⟨_, rfl, ?_⟩; have n0_ := am_ (kb_ (g := gb321) (o := .cells #[.int .i64 a0_0, .int .i64 a0_1, .slice A0_2 l0_2.length c0_2, .slice A0_3 l0_3.length c0_3, .int .i64 a0_4, .string a0_5, .slice A0_6 l0_6.length c0_6] 26 (0, 0)) (by (with_reducible repeat (first | refine k2_ ?_ _ | refine k3_ ?_ | refine k1_ ?_ _)); exact BK321.out) hb); have n1_ := am_ (bt_ (by repeat (with_reducible first | exact HB.out | apply p3_ | apply p1_ | apply p2_ | refine bs_ ?_ GE321.out)) hb); clear BK321; clear HB; have BK321 := n0_; have HB := n1_; clear n0_ n1_; (try clear hb); have hcz39_0 : w38.cell? ⟨gb321, 0, none⟩ = some (.int .i64 a0_0) := (bc_ BK321.out 0).trans rfl; have hcz39_1 : w38.cell? ⟨gb321, 1, none⟩ = some (.int .i64 a0_1) := (bc_ BK321.out 1).trans rfl; have hcz39_2 : w38.cell? ⟨gb321, 2, none⟩ = some (.slice A0_2 l0_2.length c0_2) := (bc_ BK321.out 2).trans rfl; have hcz39_3 : w38.cell? ⟨gb321, 3, none⟩ = some (.slice A0_3 l0_3.length c0_3) := (bc_ BK321.out 3).trans rfl; have hcz39_4 : w38.cell? ⟨gb321, 4, none⟩ = some (.int .i64 a0_4) := (bc_ BK321.out 4).trans rfl; have hcz39_5 : w38.cell? ⟨gb321, 5, none⟩ = some (.string a0_5) := (bc_ BK321.out 5).trans rfl; have hcz39_6 : w38.cell? ⟨gb321, 6, none⟩ = some (.slice A0_6 l0_6.length c0_6) := (bc_ BK321.out 6).trans rfl; have hfz39_0 := bf_ BK321.out 0; have hfz39_1 := bf_ BK321.out 1; have hfz39_2 := bf_ BK321.out 2; have hfz39_3 := bf_ BK321.out 3; have hfz39_4 := bf_ BK321.out 4; have hfz39_5 := bf_ BK321.out 5; have hfz39_6 := bf_ BK321.out 6) | ((with_reducible refine gate_callee (f := 7) rfl ?_); refine goesL_ (some 27) rfl rfl Tryz.func7 (by kernel_rfl) rfl #[.agg #[.int .i64 a0_0, .int .i64 a0_1, .slice A0_2 l0_2.length c0_2, .slice A0_3 l0_3.length c0_3, .int .i64 a0_4, .string a0_5, .slice A0_6 l0_6.length c0_6], .slice A1 l1.length c1, .int .i64 a2, .string a3, .int .i64 a4] rfl (by (try simp only [List.map_toArray, List.map_cons, List.map_nil]); first | done | rfl | (simp only [List.length_drop, List.length_take]; rfl)) ?_; (with_reducible refine (offer_Offer.calls a0_0 a0_1 _ _ l0_2 _ _ l0_3 a0_4 a0_5 _ _ l0_6 _ _ l1 a2 a3 a4 t323 t326 t327 _ ?side1 ?side2 ?side3 ?side4 ?side5 ?side6 ?side7 ?side8 A8.out).mono ?_); (case side1 => repeat (first | exact (c4_ HR0_2.out HB.out) | (with_reducible refine c1_ ?_ _) | (with_reducible refine c2_ ?_ _) | (with_reducible refine c3_ ?_))); (case side2 => exact HC0_2.out); (case side3 => repeat (first | exact (c4_ HR0_3.out HB.out) | (with_reducible refine c1_ ?_ _) | (with_reducible refine c2_ ?_ _) | (with_reducible refine c3_ ?_))); (case side4 => exact HC0_3.out); (case side5 => repeat (first | exact (c4_ HR0_6.out HB.out) | (with_reducible refine c1_ ?_ _) | (with_reducible refine c2_ ?_ _) | (with_reducible refine c3_ ?_))); (case side6 => exact HC0_6.out); (case side7 => repeat (first | exact (c4_ HR1.out HB.out) | (with_reducible refine c1_ ?_ _) | (with_reducible refine c2_ ?_ _) | (with_reducible refine c3_ ?_))); (case side8 => exact HC1.out); rintro e w40 ⟨v324, rfl, ho0, hb⟩; refine ⟨_, rfl, ?_⟩; have n0_ := am_ (Kd.R_lower ho0 (bz_ (by repeat (with_reducible first | exact HB.out | apply p3_ | apply p1_ | apply p2_ | refine bs_ ?_ GE321.out)))); have n1_ := am_ (kb_ (g := gb321) (o := .cells #[.int .i64 a0_0, .int .i64 a0_1, .slice A0_2 l0_2.length c0_2, .slice A0_3 l0_3.length c0_3, .int .i64 a0_4, .string a0_5, .slice A0_6 l0_6.length c0_6] 26 (0, 0)) (by (with_reducible repeat (first | refine k2_ ?_ _ | refine k3_ ?_ | refine k1_ ?_ _)); exact BK321.out) hb); have n2_ := am_ (bt_ (by repeat (with_reducible first | exact HB.out | apply p3_ | apply p1_ | apply p2_ | refine bs_ ?_ GE321.out)) hb); clear BK321; clear HB; have HO325 := n0_; have BK321 := n1_; have HB := n2_; clear n0_ n1_ n2_; (try clear hb); (try clear ho0); have hcz41_0 : w40.cell? ⟨gb321, 0, none⟩ = some (.int .i64 a0_0) := (bc_ BK321.out 0).trans rfl; have hcz41_1 : w40.cell? ⟨gb321, 1, none⟩ = some (.int .i64 a0_1) := (bc_ BK321.out 1).trans rfl; have hcz41_2 : w40.cell? ⟨gb321, 2, none⟩ = some (.slice A0_2 l0_2.length c0_2) := (bc_ BK321.out 2).trans rfl; have hcz41_3 : w40.cell? ⟨gb321, 3, none⟩ = some (.slice A0_3 l0_3.length c0_3) := (bc_ BK321.out 3).trans rfl; have hcz41_4 : w40.cell? ⟨gb321, 4, none⟩ = some (.int .i64 a0_4) := (bc_ BK321.out 4).trans rfl; have hcz41_5 : w40.cell? ⟨gb321, 5, none⟩ = some (.string a0_5) := (bc_ BK321.out 5).trans rfl; have hcz41_6 : w40.cell? ⟨gb321, 6, none⟩ = some (.slice A0_6 l0_6.length c0_6) := (bc_ BK321.out 6).trans rfl; have hfz41_0 := bf_ BK321.out 0; have hfz41_1 := bf_ BK321.out 1; have hfz41_2 := bf_ BK321.out 2; have hfz41_3 := bf_ BK321.out 3; have hfz41_4 := bf_ BK321.out 4; have hfz41_5 := bf_ BK321.out 5; have hfz41_6 := bf_ BK321.out 6) | ((with_reducible refine gate_callee (f := 15) rfl ?_); refine goesL_ (some 37) rfl rfl Tryz.func15 (by kernel_rfl) rfl #[.agg #[.int .i64 a0_0, .int .i64 a0_1, .slice A0_2 l0_2.length c0_2, .slice A0_3 l0_3.length c0_3, .int .i64 a0_4, .string a0_5, .slice A0_6 l0_6.length c0_6], .slice A1 l1.length c1, .int .i64 a2, .string a3, .int .i64 a4] rfl (by (try simp only [List.map_toArray, List.map_cons, List.map_nil]); first | done | rfl | (simp only [List.length_drop, List.length_take]; rfl)) ?_; (with_reducible refine (pinfoldref11_Pick_c.calls a0_0 a0_1 _ _ l0_2 _ _ l0_3 a0_4 a0_5 _ _ l0_6 _ _ l1 a2 a3 a4 t328 t329 _ ?side1 ?side2 ?side3 ?side4 ?side5 ?side6 ?side7 ?side8 A9.out).mono ?_); (case side1 => repeat (first | exact (c4_ HR0_2.out HB.out) | (with_reducible refine c1_ ?_ _) | (with_reducible refine c2_ ?_ _) | (with_reducible refine c3_ ?_))); (case side2 => exact HC0_2.out); (case side3 => repeat (first | exact (c4_ HR0_3.out HB.out) | (with_reducible refine c1_ ?_ _) | (with_reducible refine c2_ ?_ _) | (with_reducible refine c3_ ?_))); (case side4 => exact HC0_3.out); (case side5 => repeat (first | exact (c4_ HR0_6.out HB.out) | (with_reducible refine c1_ ?_ _) | (with_reducible refine c2_ ?_ _) | (with_reducible refine c3_ ?_))); (case side6 => exact HC0_6.out); (case side7 => repeat (first | exact (c4_ HR1.out HB.out) | (with_reducible refine c1_ ?_ _) | (with_reducible refine c2_ ?_ _) | (with_reducible refine c3_ ?_))); (case side8 => exact HC1.out); rintro e w42 ⟨rfl, hb⟩; refine ⟨_, rfl, ?_⟩; have n0_ := am_ (Kd.R_below (by (with_reducible repeat (first | apply r1_ | apply r2_ | apply r3_)); exact HO325.out) hb); have n1_ := am_ (kb_ (g := gb321) (o := .cells #[.int .i64 a0_0, .int .i64 a0_1, .slice A0_2 l0_2.length c0_2, .slice A0_3 l0_3.length c0_3, .int .i64 a0_4, .string a0_5, .slice A0_6 l0_6.length c0_6] 26 (0, 0)) (by (with_reducible repeat (first | refine k2_ ?_ _ | refine k3_ ?_ | refine k1_ ?_ _)); exact BK321.out) hb); have n2_ := am_ (bt_ (by repeat (with_reducible first | exact HB.out | apply p3_ | apply p1_ | apply p2_ | refine bs_ ?_ GE321.out)) hb); clear HO325; clear BK321; clear HB; have HO325 := n0_; have BK321 := n1_; have HB := n2_; clear n0_ n1_ n2_; (try clear hb)) | ((with_reducible refine gate_callee (f := 10) rfl ?_); refine goesL_ (some 41) rfl rfl Tryz.func10 (by kernel_rfl) rfl #[.int .i64 t327] rfl (by (try simp only [List.map_toArray, List.map_cons, List.map_nil]); first | done | rfl | (simp only [List.length_drop, List.length_take]; rfl)) ?_; (with_reducible refine (pinfoldlaw0_Num.calls t327 t330 _ A10.out).mono ?_); rintro e w' ⟨rfl, ⟨nd, rfl⟩⟩; refine ⟨_, rfl, ?_⟩) | ((with_reducible refine gate_callee (f := 10) rfl ?_); refine goesL_ (some 44) rfl rfl Tryz.func10 (by kernel_rfl) rfl #[.int .i64 t327] rfl (by (try simp only [List.map_toArray, List.map_cons, List.map_nil]); first | done | rfl | (simp only [List.length_drop, List.length_take]; rfl)) ?_; (with_reducible refine (pinfoldlaw0_Num.calls t327 t331 _ A35.out).mono ?_); rintro e w' ⟨rfl, ⟨nd, rfl⟩⟩; refine ⟨_, rfl, ?_⟩))
   go_ret
   exact ⟨by first | rfl | (simp [errW_none, errW_some] <;> rfl) | (simp [*, errW_none, errW_some] <;> rfl), by repeat (with_reducible first | exact HB.out | apply p3_ | apply p1_ | apply p2_ | refine bs_ ?_ GE321.out)⟩
  rw [if_neg c36] at H
  have c36b0 : (t331 == 1500) = false := e2_ c36
  have c36b1 : (t331 != 1500) = true := bne_iff_ne.mpr c36
  replace H := e4_ H
  obtain ⟨t332, A430, H⟩ := H
  replace H : (some (t332 == t329)) = some r := H
  have A43 := am_ A430
  clear A430
  obtain rfl := e5_ H
  go_enter Tryz.func4, Tryz.ntmps4
  go_wp2_with (first | ((with_reducible refine gate_dst (N := 5) rfl ?_); refine box_event ?hg (N := 5) ?hd (cs := #[.int .i64 a0_0, .int .i64 a0_1, .slice A0_2 l0_2.length c0_2, .slice A0_3 l0_3.length c0_3, .int .i64 a0_4, .string a0_5, .slice A0_6 l0_6.length c0_6]) (t := 26) ?hr ?_; (case hd => rfl); (case hg => rfl); (case hr => first | (go_simp; done) | (go_simp; rfl)); intro gb321 hg w44 hbox hb; have n0_ := am_ (bt_ (by repeat (with_reducible first | exact HB.out | apply p3_ | apply p1_ | apply p2_)) hb); have n1_ := am_ (hbox); have n2_ := am_ ((by rw [hg]; exact (bz_ (by repeat (with_reducible first | exact HB.out | apply p3_ | apply p1_ | apply p2_))) : w.heap.size ≤ gb321)); have n3_ := am_ ((by rw [hg]; exact (bz_ (by repeat (with_reducible first | exact HB.out | apply p3_ | apply p1_ | apply p2_))) : w.heap.size ≤ gb321)); clear HB; have HB := n0_; have BK321 := n1_; have GW321 := n2_; have GE321 := n3_; clear n0_ n1_ n2_ n3_; clear hb hbox hg) | ((with_reducible refine gate_callee (f := 14) rfl ?_); refine goesL_ (some 19) rfl rfl Tryz.func14 (by kernel_rfl) rfl #[] rfl (by (try simp only [List.map_toArray, List.map_cons, List.map_nil]); first | done | rfl | (simp only [List.length_drop, List.length_take]; rfl)) ?_; (with_reducible refine (pinfoldlaw15_awake.calls k  true _ A6.out).mono ?_); rintro e w45 ⟨rfl, hb⟩; refine ⟨_, rfl, ?_⟩; have n0_ := am_ (kb_ (g := gb321) (o := .cells #[.int .i64 a0_0, .int .i64 a0_1, .slice A0_2 l0_2.length c0_2, .slice A0_3 l0_3.length c0_3, .int .i64 a0_4, .string a0_5, .slice A0_6 l0_6.length c0_6] 26 (0, 0)) (by (with_reducible repeat (first | refine k2_ ?_ _ | refine k3_ ?_ | refine k1_ ?_ _)); exact BK321.out) hb); have n1_ := am_ (bt_ (by repeat (with_reducible first | exact HB.out | apply p3_ | apply p1_ | apply p2_ | refine bs_ ?_ GE321.out)) hb); clear BK321; clear HB; have BK321 := n0_; have HB := n1_; clear n0_ n1_; (try clear hb); have hcz46_0 : w45.cell? ⟨gb321, 0, none⟩ = some (.int .i64 a0_0) := (bc_ BK321.out 0).trans rfl; have hcz46_1 : w45.cell? ⟨gb321, 1, none⟩ = some (.int .i64 a0_1) := (bc_ BK321.out 1).trans rfl; have hcz46_2 : w45.cell? ⟨gb321, 2, none⟩ = some (.slice A0_2 l0_2.length c0_2) := (bc_ BK321.out 2).trans rfl; have hcz46_3 : w45.cell? ⟨gb321, 3, none⟩ = some (.slice A0_3 l0_3.length c0_3) := (bc_ BK321.out 3).trans rfl; have hcz46_4 : w45.cell? ⟨gb321, 4, none⟩ = some (.int .i64 a0_4) := (bc_ BK321.out 4).trans rfl; have hcz46_5 : w45.cell? ⟨gb321, 5, none⟩ = some (.string a0_5) := (bc_ BK321.out 5).trans rfl; have hcz46_6 : w45.cell? ⟨gb321, 6, none⟩ = some (.slice A0_6 l0_6.length c0_6) := (bc_ BK321.out 6).trans rfl; have hfz46_0 := bf_ BK321.out 0; have hfz46_1 := bf_ BK321.out 1; have hfz46_2 := bf_ BK321.out 2; have hfz46_3 := bf_ BK321.out 3; have hfz46_4 := bf_ BK321.out 4; have hfz46_5 := bf_ BK321.out 5; have hfz46_6 := bf_ BK321.out 6) | ((with_reducible refine gate_callee (f := 7) rfl ?_); refine goesL_ (some 27) rfl rfl Tryz.func7 (by kernel_rfl) rfl #[.agg #[.int .i64 a0_0, .int .i64 a0_1, .slice A0_2 l0_2.length c0_2, .slice A0_3 l0_3.length c0_3, .int .i64 a0_4, .string a0_5, .slice A0_6 l0_6.length c0_6], .slice A1 l1.length c1, .int .i64 a2, .string a3, .int .i64 a4] rfl (by (try simp only [List.map_toArray, List.map_cons, List.map_nil]); first | done | rfl | (simp only [List.length_drop, List.length_take]; rfl)) ?_; (with_reducible refine (offer_Offer.calls a0_0 a0_1 _ _ l0_2 _ _ l0_3 a0_4 a0_5 _ _ l0_6 _ _ l1 a2 a3 a4 t323 t326 t327 _ ?side1 ?side2 ?side3 ?side4 ?side5 ?side6 ?side7 ?side8 A8.out).mono ?_); (case side1 => repeat (first | exact (c4_ HR0_2.out HB.out) | (with_reducible refine c1_ ?_ _) | (with_reducible refine c2_ ?_ _) | (with_reducible refine c3_ ?_))); (case side2 => exact HC0_2.out); (case side3 => repeat (first | exact (c4_ HR0_3.out HB.out) | (with_reducible refine c1_ ?_ _) | (with_reducible refine c2_ ?_ _) | (with_reducible refine c3_ ?_))); (case side4 => exact HC0_3.out); (case side5 => repeat (first | exact (c4_ HR0_6.out HB.out) | (with_reducible refine c1_ ?_ _) | (with_reducible refine c2_ ?_ _) | (with_reducible refine c3_ ?_))); (case side6 => exact HC0_6.out); (case side7 => repeat (first | exact (c4_ HR1.out HB.out) | (with_reducible refine c1_ ?_ _) | (with_reducible refine c2_ ?_ _) | (with_reducible refine c3_ ?_))); (case side8 => exact HC1.out); rintro e w47 ⟨v324, rfl, ho0, hb⟩; refine ⟨_, rfl, ?_⟩; have n0_ := am_ (Kd.R_lower ho0 (bz_ (by repeat (with_reducible first | exact HB.out | apply p3_ | apply p1_ | apply p2_ | refine bs_ ?_ GE321.out)))); have n1_ := am_ (kb_ (g := gb321) (o := .cells #[.int .i64 a0_0, .int .i64 a0_1, .slice A0_2 l0_2.length c0_2, .slice A0_3 l0_3.length c0_3, .int .i64 a0_4, .string a0_5, .slice A0_6 l0_6.length c0_6] 26 (0, 0)) (by (with_reducible repeat (first | refine k2_ ?_ _ | refine k3_ ?_ | refine k1_ ?_ _)); exact BK321.out) hb); have n2_ := am_ (bt_ (by repeat (with_reducible first | exact HB.out | apply p3_ | apply p1_ | apply p2_ | refine bs_ ?_ GE321.out)) hb); clear BK321; clear HB; have HO325 := n0_; have BK321 := n1_; have HB := n2_; clear n0_ n1_ n2_; (try clear hb); (try clear ho0); have hcz48_0 : w47.cell? ⟨gb321, 0, none⟩ = some (.int .i64 a0_0) := (bc_ BK321.out 0).trans rfl; have hcz48_1 : w47.cell? ⟨gb321, 1, none⟩ = some (.int .i64 a0_1) := (bc_ BK321.out 1).trans rfl; have hcz48_2 : w47.cell? ⟨gb321, 2, none⟩ = some (.slice A0_2 l0_2.length c0_2) := (bc_ BK321.out 2).trans rfl; have hcz48_3 : w47.cell? ⟨gb321, 3, none⟩ = some (.slice A0_3 l0_3.length c0_3) := (bc_ BK321.out 3).trans rfl; have hcz48_4 : w47.cell? ⟨gb321, 4, none⟩ = some (.int .i64 a0_4) := (bc_ BK321.out 4).trans rfl; have hcz48_5 : w47.cell? ⟨gb321, 5, none⟩ = some (.string a0_5) := (bc_ BK321.out 5).trans rfl; have hcz48_6 : w47.cell? ⟨gb321, 6, none⟩ = some (.slice A0_6 l0_6.length c0_6) := (bc_ BK321.out 6).trans rfl; have hfz48_0 := bf_ BK321.out 0; have hfz48_1 := bf_ BK321.out 1; have hfz48_2 := bf_ BK321.out 2; have hfz48_3 := bf_ BK321.out 3; have hfz48_4 := bf_ BK321.out 4; have hfz48_5 := bf_ BK321.out 5; have hfz48_6 := bf_ BK321.out 6) | ((with_reducible refine gate_callee (f := 15) rfl ?_); refine goesL_ (some 37) rfl rfl Tryz.func15 (by kernel_rfl) rfl #[.agg #[.int .i64 a0_0, .int .i64 a0_1, .slice A0_2 l0_2.length c0_2, .slice A0_3 l0_3.length c0_3, .int .i64 a0_4, .string a0_5, .slice A0_6 l0_6.length c0_6], .slice A1 l1.length c1, .int .i64 a2, .string a3, .int .i64 a4] rfl (by (try simp only [List.map_toArray, List.map_cons, List.map_nil]); first | done | rfl | (simp only [List.length_drop, List.length_take]; rfl)) ?_; (with_reducible refine (pinfoldref11_Pick_c.calls a0_0 a0_1 _ _ l0_2 _ _ l0_3 a0_4 a0_5 _ _ l0_6 _ _ l1 a2 a3 a4 t328 t329 _ ?side1 ?side2 ?side3 ?side4 ?side5 ?side6 ?side7 ?side8 A9.out).mono ?_); (case side1 => repeat (first | exact (c4_ HR0_2.out HB.out) | (with_reducible refine c1_ ?_ _) | (with_reducible refine c2_ ?_ _) | (with_reducible refine c3_ ?_))); (case side2 => exact HC0_2.out); (case side3 => repeat (first | exact (c4_ HR0_3.out HB.out) | (with_reducible refine c1_ ?_ _) | (with_reducible refine c2_ ?_ _) | (with_reducible refine c3_ ?_))); (case side4 => exact HC0_3.out); (case side5 => repeat (first | exact (c4_ HR0_6.out HB.out) | (with_reducible refine c1_ ?_ _) | (with_reducible refine c2_ ?_ _) | (with_reducible refine c3_ ?_))); (case side6 => exact HC0_6.out); (case side7 => repeat (first | exact (c4_ HR1.out HB.out) | (with_reducible refine c1_ ?_ _) | (with_reducible refine c2_ ?_ _) | (with_reducible refine c3_ ?_))); (case side8 => exact HC1.out); rintro e w49 ⟨rfl, hb⟩; refine ⟨_, rfl, ?_⟩; have n0_ := am_ (Kd.R_below (by (with_reducible repeat (first | apply r1_ | apply r2_ | apply r3_)); exact HO325.out) hb); have n1_ := am_ (kb_ (g := gb321) (o := .cells #[.int .i64 a0_0, .int .i64 a0_1, .slice A0_2 l0_2.length c0_2, .slice A0_3 l0_3.length c0_3, .int .i64 a0_4, .string a0_5, .slice A0_6 l0_6.length c0_6] 26 (0, 0)) (by (with_reducible repeat (first | refine k2_ ?_ _ | refine k3_ ?_ | refine k1_ ?_ _)); exact BK321.out) hb); have n2_ := am_ (bt_ (by repeat (with_reducible first | exact HB.out | apply p3_ | apply p1_ | apply p2_ | refine bs_ ?_ GE321.out)) hb); clear HO325; clear BK321; clear HB; have HO325 := n0_; have BK321 := n1_; have HB := n2_; clear n0_ n1_ n2_; (try clear hb)) | ((with_reducible refine gate_callee (f := 10) rfl ?_); refine goesL_ (some 41) rfl rfl Tryz.func10 (by kernel_rfl) rfl #[.int .i64 t327] rfl (by (try simp only [List.map_toArray, List.map_cons, List.map_nil]); first | done | rfl | (simp only [List.length_drop, List.length_take]; rfl)) ?_; (with_reducible refine (pinfoldlaw0_Num.calls t327 t330 _ A10.out).mono ?_); rintro e w' ⟨rfl, ⟨nd, rfl⟩⟩; refine ⟨_, rfl, ?_⟩) | ((with_reducible refine gate_callee (f := 10) rfl ?_); refine goesL_ (some 44) rfl rfl Tryz.func10 (by kernel_rfl) rfl #[.int .i64 t327] rfl (by (try simp only [List.map_toArray, List.map_cons, List.map_nil]); first | done | rfl | (simp only [List.length_drop, List.length_take]; rfl)) ?_; (with_reducible refine (pinfoldlaw0_Num.calls t327 t331 _ A35.out).mono ?_); rintro e w' ⟨rfl, ⟨nd, rfl⟩⟩; refine ⟨_, rfl, ?_⟩) | (go_at_call 10; (with_reducible refine (pinfoldlaw0_Num.calls t327 t332 _ A43.out).mono ?_); rintro e w' ⟨rfl, ⟨nd, rfl⟩⟩))
  go_ret
  exact ⟨by first | rfl | (simp [errW_none, errW_some] <;> rfl) | (simp [*, errW_none, errW_some] <;> rfl), by repeat (with_reducible first | exact HB.out | apply p3_ | apply p1_ | apply p2_ | refine bs_ ?_ GE321.out)⟩
 replace c7 := e3_ c7
 subst c7
 have H1 : (none) = some r := by rw [if_neg (show ¬ (false = true) by decide)] at H; exact H
 clear H
 have H := H1
 clear H1
 exact absurd H (by simp)

/-- THE ONE PURE STATEMENT of pinfoldlaw15_OfferPicks. -/
def pinfoldlaw15_OfferPicks.Pure : Prop := ∀ (a0_0 : Int) (a0_1 : Int) (l0_2 : List Int) (l0_3 : List (S81)) (a0_4 : Int) (a0_5 : ByteArray) (l0_6 : List (S83)) (l1 : List (S44)) (a2 : Int) (a3 : ByteArray) (a4 : Int), (Lit.int .i64 a0_0).wf = true → (Lit.int .i64 a0_1).wf = true → (l0_2.length ≤ 1048576 ∧ ∀ y0_ ∈ l0_2, (Lit.int .i64 y0_).wf = true) → (l0_3.length ≤ 1048576 ∧ ∀ y0_ ∈ l0_3, (y0_.f0.size ≤ 1048576 ∧ (Lit.int .i64 y0_.f1).wf = true)) → (Lit.int .i64 a0_4).wf = true → a0_5.size ≤ 1048576 → (l0_6.length ≤ 1048576 ∧ ∀ y0_ ∈ l0_6, (y0_.f0.size ≤ 1048576 ∧ ((Lit.int .i64 y0_.f1).wf = true ∧ ((Lit.int .i64 y0_.f2).wf = true ∧ ((Lit.int .i64 y0_.f3).wf = true ∧ (y0_.f4.size ≤ 1048576 ∧ (y0_.f5.size ≤ 1048576 ∧ (Lit.int .i64 y0_.f6).wf = true))))))) → (l1.length ≤ 1048576 ∧ ∀ y0_ ∈ l1, ((Lit.int .i64 y0_.f0).wf = true ∧ ((Lit.int .i64 y0_.f1).wf = true ∧ (y0_.f2.size ≤ 1048576 ∧ ((Lit.int .i64 y0_.f3).wf = true ∧ (y0_.f4.size ≤ 1048576 ∧ True)))))) → (Lit.int .i64 a2).wf = true → a3.size ≤ 1048576 → (Lit.int .i64 a4).wf = true → ∃ k, pinfoldlaw15_OfferPicks.f k a0_0 a0_1 l0_2 l0_3 a0_4 a0_5 l0_6 l1 a2 a3 a4 = some true
theorem pinfoldlaw15_OfferPicks.walk (P : pinfoldlaw15_OfferPicks.Pure) (a0_0 : Int) (a0_1 : Int) (A0_2 : Option Addr) (c0_2 : Nat) (l0_2 : List Int) (A0_3 : Option Addr) (c0_3 : Nat) (l0_3 : List (S81)) (a0_4 : Int) (a0_5 : ByteArray) (A0_6 : Option Addr) (c0_6 : Nat) (l0_6 : List (S83)) (A1 : Option Addr) (c1 : Nat) (l1 : List (S44)) (a2 : Int) (a3 : ByteArray) (a4 : Int) (w : World) (hr0_2 : Kd.C (Kd.int .i64) w A0_2 l0_2.length l0_2) (hc0_2 : l0_2.length ≤ c0_2) (hr0_3 : Kd.C k81 w A0_3 l0_3.length l0_3) (hc0_3 : l0_3.length ≤ c0_3) (hr0_6 : Kd.C k83 w A0_6 l0_6.length l0_6) (hc0_6 : l0_6.length ≤ c0_6) (hr1 : Kd.C k44 w A1 l1.length l1) (hc1 : l1.length ≤ c1) (w0_0 : (Lit.int .i64 a0_0).wf = true) (w0_1 : (Lit.int .i64 a0_1).wf = true) (w0_2 : (l0_2.length ≤ 1048576 ∧ ∀ y0_ ∈ l0_2, (Lit.int .i64 y0_).wf = true)) (w0_3 : (l0_3.length ≤ 1048576 ∧ ∀ y0_ ∈ l0_3, (y0_.f0.size ≤ 1048576 ∧ (Lit.int .i64 y0_.f1).wf = true))) (w0_4 : (Lit.int .i64 a0_4).wf = true) (w0_5 : a0_5.size ≤ 1048576) (w0_6 : (l0_6.length ≤ 1048576 ∧ ∀ y0_ ∈ l0_6, (y0_.f0.size ≤ 1048576 ∧ ((Lit.int .i64 y0_.f1).wf = true ∧ ((Lit.int .i64 y0_.f2).wf = true ∧ ((Lit.int .i64 y0_.f3).wf = true ∧ (y0_.f4.size ≤ 1048576 ∧ (y0_.f5.size ≤ 1048576 ∧ (Lit.int .i64 y0_.f6).wf = true)))))))) (w1 : (l1.length ≤ 1048576 ∧ ∀ y0_ ∈ l1, ((Lit.int .i64 y0_.f0).wf = true ∧ ((Lit.int .i64 y0_.f1).wf = true ∧ (y0_.f2.size ≤ 1048576 ∧ ((Lit.int .i64 y0_.f3).wf = true ∧ (y0_.f4.size ≤ 1048576 ∧ True))))))) (w2 : (Lit.int .i64 a2).wf = true) (w3 : a3.size ≤ 1048576) (w4 : (Lit.int .i64 a4).wf = true) :
  Calls Tryz.prog 4 #[.agg #[.int .i64 a0_0, .int .i64 a0_1, .slice A0_2 l0_2.length c0_2, .slice A0_3 l0_3.length c0_3, .int .i64 a0_4, .string a0_5, .slice A0_6 l0_6.length c0_6], .slice A1 l1.length c1, .int .i64 a2, .string a3, .int .i64 a4] w fun e w' => e = .returned (.bool true) ∧ Below w.heap.size w w' := by
 obtain ⟨k, h⟩ := P a0_0 a0_1 l0_2 l0_3 a0_4 a0_5 l0_6 l1 a2 a3 a4 w0_0 w0_1 w0_2 w0_3 w0_4 w0_5 w0_6 w1 w2 w3 w4
 refine (pinfoldlaw15_OfferPicks.calls k a0_0 a0_1 _ _ l0_2 _ _ l0_3 a0_4 a0_5 _ _ l0_6 _ _ l1 a2 a3 a4 true w hr0_2 hc0_2 hr0_3 hc0_3 hr0_6 hc0_6 hr1 hc1 h).mono ?_
 rintro e w' ⟨rfl, hd⟩
 exact ⟨rfl, hd⟩

end Go.Proofs.YtdhckibkljafgaaGreatDoor.PI
