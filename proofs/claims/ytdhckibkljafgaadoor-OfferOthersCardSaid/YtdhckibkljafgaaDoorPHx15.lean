-- Made by wip/pr.py out of the translation (a turned copy of the kit's print; contracts by hand where said).
import Derived.Test.YtdhckibkljafgaaDoorPHx0
import Derived.Test.YtdhckibkljafgaaDoorPHx1
import Derived.Test.YtdhckibkljafgaaDoorPHx2
import Derived.Test.YtdhckibkljafgaaDoorPHx10
import Derived.Test.YtdhckibkljafgaaDoorPHx13
import Derived.Test.YtdhckibkljafgaaDoorPHx14
namespace Go.Proofs.YtdhckibkljafgaaDoor.PH
open Go.RowKit Go.Proofs.YtdhckibkljafgaaDoorW.PrintWords Go.Proofs.YtdhckibkljafgaaDoorW.PrintLast Go.Proofs.YtdhckibkljafgaaDoorW.PrintMore
-- shrunk
attribute [local go_sem] max2_int min2_int max_two min_two max_three min_three max_four min_four   -- for this text's walks alone
set_option linter.unusedVariables false
set_option linter.unusedSimpArgs false

attribute [local go_sem high] eqA35
/-! ### pinfoldlaw15_OfferOthers: function 3 -/
mutual
def pinfoldlaw15_OfferOthers.l0 : Nat → List (S35) → Int → ByteArray → List (S35) → Int → Int → Int → Option (Bool)
 | 0, _, _, _, _, _, _, _ => none
 | k + 1, x1, x2, x3, x11, x12, x14, x15 => if x15 < (x11.length : Int) then (if 0 ≤ x15 then ((pinfoldref11_Live_c.f ((rd_T35 x11 x15).f0) ((rd_T35 x11 x15).f1) ((rd_T35 x11 x15).f2) ((rd_T35 x11 x15).f3) ((rd_T35 x11 x15).f4) ((rd_T35 x11 x15).f5) x2).bind fun t274 => (if t274 = true then (if ((rd_T35 x11 x15).f1) = 1 then (if ((rd_T35 x11 x15).f2).toList = x3.toList then (pinfoldlaw15_OfferOthers.l0 k x1 x2 x3 x11 x12 (wrap64 (x14 + 1)) (wrap64 (x15 + 1))) else (pinfoldlaw15_OfferOthers.l0 k x1 x2 x3 x11 x12 x14 (wrap64 (x15 + 1)))) else (pinfoldlaw15_OfferOthers.l0 k x1 x2 x3 x11 x12 x14 (wrap64 (x15 + 1)))) else (pinfoldlaw15_OfferOthers.l0 k x1 x2 x3 x11 x12 x14 (wrap64 (x15 + 1))))) else (none)) else (pinfoldlaw15_OfferOthers.l1 k x1 x2 x3 x11 x12 x14 0)
def pinfoldlaw15_OfferOthers.l1 : Nat → List (S35) → Int → ByteArray → List (S35) → Int → Int → Int → Option (Bool)
 | 0, _, _, _, _, _, _, _ => none
 | k + 1, x1, x2, x3, x11, x12, x14, x16 => if x16 < (x1.length : Int) then (if 0 ≤ x16 then ((pinfoldref11_FindLease_c.f x11 ((rd_T35 x1 x16).f0)).bind fun bt288 => (if bt288.2.2.2.2.2.2 = true then ((pinfoldref11_Live_c.f ((rd_T35 x1 x16).f0) ((rd_T35 x1 x16).f1) ((rd_T35 x1 x16).f2) ((rd_T35 x1 x16).f3) ((rd_T35 x1 x16).f4) ((rd_T35 x1 x16).f5) x2).bind fun t297 => (if t297 = true then (if ((rd_T35 x1 x16).f2).toList = x3.toList then (pinfoldlaw15_OfferOthers.j2 k x1 x2 x3 x11 x12 x14 x16 false bt288.1 bt288.2.1 bt288.2.2.1 bt288.2.2.2.1 bt288.2.2.2.2.1 bt288.2.2.2.2.2.1) else (pinfoldlaw15_OfferOthers.j2 k x1 x2 x3 x11 x12 x14 x16 (!(bt288.1 == ((rd_T35 x1 x16).f0)) || (!(bt288.2.1 == ((rd_T35 x1 x16).f1)) || (!(bt288.2.2.1.toList == (((rd_T35 x1 x16).f2).toList)) || (!(bt288.2.2.2.1 == ((rd_T35 x1 x16).f3)) || (!(bt288.2.2.2.2.1.toList == (((rd_T35 x1 x16).f4).toList)) || (!(bt288.2.2.2.2.2.1 == ((rd_T35 x1 x16).f5)))))))) bt288.1 bt288.2.1 bt288.2.2.1 bt288.2.2.2.1 bt288.2.2.2.2.1 bt288.2.2.2.2.2.1)) else (pinfoldlaw15_OfferOthers.j2 k x1 x2 x3 x11 x12 x14 x16 false bt288.1 bt288.2.1 bt288.2.2.1 bt288.2.2.2.1 bt288.2.2.2.2.1 bt288.2.2.2.2.2.1))) else (pinfoldlaw15_OfferOthers.j2 k x1 x2 x3 x11 x12 x14 x16 true bt288.1 bt288.2.1 bt288.2.2.1 bt288.2.2.2.1 bt288.2.2.2.2.1 bt288.2.2.2.2.2.1))) else (none)) else ((pinfoldref11_FindLease_c.f x11 x12).bind fun bt277 => (if x14 ≤ 1 then (if bt277.2.2.2.2.2.2 = true then ((pinfoldref11_Live_c.f bt277.1 bt277.2.1 bt277.2.2.1 bt277.2.2.2.1 bt277.2.2.2.2.1 bt277.2.2.2.2.2.1 x2).bind fun t285 => (if t285 = true then (if bt277.2.2.1.toList = x3.toList then ((pinfoldref11_TableMay_c.f x11).bind fun t286 => (some t286)) else (none)) else (none))) else (none)) else (none)))
def pinfoldlaw15_OfferOthers.j2 : Nat → List (S35) → Int → ByteArray → List (S35) → Int → Int → Int → Bool → Int → Int → ByteArray → Int → ByteArray → Bool → Option (Bool)
 | 0, _, _, _, _, _, _, _, _, _, _, _, _, _, _ => none
 | k + 1, x1, x2, x3, x11, x12, x14, x16, x116, x296000, x296001, x296002, x296003, x296004, x296005 => if x116 = true then (none) else (if 0 ≤ x16 then (if x16 < (x1.length : Int) then ((pinfoldref11_Live_c.f ((rd_T35 x1 x16).f0) ((rd_T35 x1 x16).f1) ((rd_T35 x1 x16).f2) ((rd_T35 x1 x16).f3) ((rd_T35 x1 x16).f4) ((rd_T35 x1 x16).f5) x2).bind fun t301 => (if t301 = true then (if ((rd_T35 x1 x16).f1) = 2 then (if (!(x296000 == ((rd_T35 x1 x16).f0)) || (!(x296001 == ((rd_T35 x1 x16).f1)) || (!(x296002.toList == (((rd_T35 x1 x16).f2).toList)) || (!(x296003 == ((rd_T35 x1 x16).f3)) || (!(x296004.toList == (((rd_T35 x1 x16).f4).toList)) || (!(x296005 == ((rd_T35 x1 x16).f5)))))))) = true then (none) else (pinfoldlaw15_OfferOthers.l1 k x1 x2 x3 x11 x12 x14 (wrap64 (x16 + 1)))) else (pinfoldlaw15_OfferOthers.l1 k x1 x2 x3 x11 x12 x14 (wrap64 (x16 + 1)))) else (pinfoldlaw15_OfferOthers.l1 k x1 x2 x3 x11 x12 x14 (wrap64 (x16 + 1))))) else (none)) else (none))
end
def pinfoldlaw15_OfferOthers.f (k : Nat) (a0_0 : Int) (a0_1 : Int) (l0_2 : List Int) (l0_3 : List (S56)) (a0_4 : Int) (a0_5 : ByteArray) (l0_6 : List (S58)) (l1 : List (S35)) (a2 : Int) (a3 : ByteArray) (a4 : Int) : Option (Bool) := (pinfoldlaw15_awake.f k).bind fun t266 => (if t266 = true then ((offer_Offer.f a0_0 a0_1 l0_2 l0_3 a0_4 a0_5 l0_6 l1 a2 a3 a4).bind fun bt267 => ((pinfoldlaw0_Num.f bt267.2.2).bind fun t272 => (if t272 = 0 then (pinfoldlaw15_OfferOthers.l0 k l1 a2 a3 bt267.1 bt267.2.1 0 0) else (if (bt267.1.length : Int) = 0 then (some (bt267.2.1 == 0)) else (none))))) else (none))
theorem pinfoldlaw15_OfferOthers.mono_l : ∀ k, (∀ y0 y1 y2 y3 y4 y5 y6, LeO (pinfoldlaw15_OfferOthers.l0 k y0 y1 y2 y3 y4 y5 y6) (pinfoldlaw15_OfferOthers.l0 (k + 1) y0 y1 y2 y3 y4 y5 y6)) ∧ (∀ y0 y1 y2 y3 y4 y5 y6, LeO (pinfoldlaw15_OfferOthers.l1 k y0 y1 y2 y3 y4 y5 y6) (pinfoldlaw15_OfferOthers.l1 (k + 1) y0 y1 y2 y3 y4 y5 y6)) ∧ (∀ y0 y1 y2 y3 y4 y5 y6 y7 y8 y9 y10 y11 y12 y13, LeO (pinfoldlaw15_OfferOthers.j2 k y0 y1 y2 y3 y4 y5 y6 y7 y8 y9 y10 y11 y12 y13) (pinfoldlaw15_OfferOthers.j2 (k + 1) y0 y1 y2 y3 y4 y5 y6 y7 y8 y9 y10 y11 y12 y13))
 | 0 => ⟨fun _ _ _ _ _ _ _ r h => by simp [pinfoldlaw15_OfferOthers.l0] at h, fun _ _ _ _ _ _ _ r h => by simp [pinfoldlaw15_OfferOthers.l1] at h, fun _ _ _ _ _ _ _ _ _ _ _ _ _ _ r h => by simp [pinfoldlaw15_OfferOthers.j2] at h⟩
 | k + 1 => by
  obtain ⟨ih0, ih1, ih2⟩ := pinfoldlaw15_OfferOthers.mono_l k
  refine ⟨?_, ?_, ?_⟩
  ·intro y0 y1 y2 y3 y4 y5 y6
   unfold pinfoldlaw15_OfferOthers.l0
   repeat' first
   | (with_reducible exact ih0 _ _ _ _ _ _ _)
   | (with_reducible exact ih1 _ _ _ _ _ _ _)
   | (with_reducible exact ih2 _ _ _ _ _ _ _ _ _ _ _ _ _ _)
   | (with_reducible exact pinfoldlaw15_awake.mono _)
   | (with_reducible exact LeO.refl _)
   | (with_reducible exact LeO.none _)
   | (with_reducible refine LeO.ite ?_ ?_)
   | (with_reducible refine LeO.bind ?_ (fun _ => ?_))
   | exact ih0 _ _ _ _ _ _ _
   | exact ih1 _ _ _ _ _ _ _
   | exact ih2 _ _ _ _ _ _ _ _ _ _ _ _ _ _
   | exact pinfoldlaw15_awake.mono _
   | exact LeO.none _
   | refine LeO.ite ?_ ?_
   | refine LeO.bind ?_ (fun _ => ?_)
  ·intro y0 y1 y2 y3 y4 y5 y6
   unfold pinfoldlaw15_OfferOthers.l1
   repeat' first
   | (with_reducible exact ih0 _ _ _ _ _ _ _)
   | (with_reducible exact ih1 _ _ _ _ _ _ _)
   | (with_reducible exact ih2 _ _ _ _ _ _ _ _ _ _ _ _ _ _)
   | (with_reducible exact pinfoldlaw15_awake.mono _)
   | (with_reducible exact LeO.refl _)
   | (with_reducible exact LeO.none _)
   | (with_reducible refine LeO.ite ?_ ?_)
   | (with_reducible refine LeO.bind ?_ (fun _ => ?_))
   | exact ih0 _ _ _ _ _ _ _
   | exact ih1 _ _ _ _ _ _ _
   | exact ih2 _ _ _ _ _ _ _ _ _ _ _ _ _ _
   | exact pinfoldlaw15_awake.mono _
   | exact LeO.none _
   | refine LeO.ite ?_ ?_
   | refine LeO.bind ?_ (fun _ => ?_)
  ·intro y0 y1 y2 y3 y4 y5 y6 y7 y8 y9 y10 y11 y12 y13
   unfold pinfoldlaw15_OfferOthers.j2
   repeat' first
   | (with_reducible exact ih0 _ _ _ _ _ _ _)
   | (with_reducible exact ih1 _ _ _ _ _ _ _)
   | (with_reducible exact ih2 _ _ _ _ _ _ _ _ _ _ _ _ _ _)
   | (with_reducible exact pinfoldlaw15_awake.mono _)
   | (with_reducible exact LeO.refl _)
   | (with_reducible exact LeO.none _)
   | (with_reducible refine LeO.ite ?_ ?_)
   | (with_reducible refine LeO.bind ?_ (fun _ => ?_))
   | exact ih0 _ _ _ _ _ _ _
   | exact ih1 _ _ _ _ _ _ _
   | exact ih2 _ _ _ _ _ _ _ _ _ _ _ _ _ _
   | exact pinfoldlaw15_awake.mono _
   | exact LeO.none _
   | refine LeO.ite ?_ ?_
   | refine LeO.bind ?_ (fun _ => ?_)
theorem pinfoldlaw15_OfferOthers.mono : ∀ a0 a1 a2 a3 a4 a5 a6 a7 a8 a9 a10 k, LeO (pinfoldlaw15_OfferOthers.f k a0 a1 a2 a3 a4 a5 a6 a7 a8 a9 a10) (pinfoldlaw15_OfferOthers.f (k + 1) a0 a1 a2 a3 a4 a5 a6 a7 a8 a9 a10) := by
 intro a0 a1 a2 a3 a4 a5 a6 a7 a8 a9 a10 k
 obtain ⟨ih0, ih1, ih2⟩ := pinfoldlaw15_OfferOthers.mono_l k
 unfold pinfoldlaw15_OfferOthers.f
 repeat' first
   | (with_reducible exact ih0 _ _ _ _ _ _ _)
   | (with_reducible exact ih1 _ _ _ _ _ _ _)
   | (with_reducible exact ih2 _ _ _ _ _ _ _ _ _ _ _ _ _ _)
   | (with_reducible exact pinfoldlaw15_awake.mono _)
   | (with_reducible exact LeO.refl _)
   | (with_reducible exact LeO.none _)
   | (with_reducible refine LeO.ite ?_ ?_)
   | (with_reducible refine LeO.bind ?_ (fun _ => ?_))
   | exact ih0 _ _ _ _ _ _ _
   | exact ih1 _ _ _ _ _ _ _
   | exact ih2 _ _ _ _ _ _ _ _ _ _ _ _ _ _
   | exact pinfoldlaw15_awake.mono _
   | exact LeO.none _
   | refine LeO.ite ?_ ?_
   | refine LeO.bind ?_ (fun _ => ?_)
def pinfoldlaw15_OfferOthers.T16 : Bool × List (List Nat × List Nat) := (true, [([], []), ([0], [0]), ([1], [1]), ([2], [2]), ([2], [2]), ([3, 4, 2], [2, 3, 4]), ([5, 2], [2, 5]), ([2], [2]), ([6, 7, 2, 2], [2, 6, 7]), ([8, 8, 2], [2, 8]), ([9], [9]), ([9], [9]), ([10, 11, 9], [9, 10, 11]), ([12, 9], [9, 12]), ([13, 9], [9, 13]), ([9], [9]), ([14, 15, 9], [9, 14, 15]), ([9, 16, 2], [2, 9, 16]), ([17, 9, 2], [2, 17]), ([18], [18]), ([18], [18]), ([18], [18]), ([20, 21, 18], [18, 20, 21]), ([22, 18], [18, 22]), ([19, 23, 18], [18, 19, 23]), ([18, 24, 2], [2, 18, 24]), ([2, 25], [2, 25])])
def pinfoldlaw15_OfferOthers.B16 : List Nat := [0, 1, 3, 7, 7, 31, 63, 7, 255, 511, 1023, 1023, 4095, 8191, 16383, 1023, 65535, 131071, 262143, 524287, 524287, 524287, 3670015, 7864319, 16777215, 33554431, 67108863]
theorem pinfoldlaw15_OfferOthers.tab16 : rtab .any (opsOf Tryd.f3 16) = pinfoldlaw15_OfferOthers.T16 := by kernel_rfl
theorem pinfoldlaw15_OfferOthers.bits16 : waitsOk pinfoldlaw15_OfferOthers.T16.2 pinfoldlaw15_OfferOthers.B16 = true := by kernel_rfl
def pinfoldlaw15_OfferOthers.T18 : Bool × List (List Nat × List Nat) := (true, [([], []), ([], []), ([0, 1], [0, 1]), ([2], [2]), ([], []), ([3, 4], [3, 4]), ([5, 5], [5]), ([6], [6]), ([6], [6]), ([7, 8, 6], [6, 7, 8]), ([9, 6], [6, 9]), ([10, 6], [6, 10]), ([11, 6], [6, 11]), ([6, 12], [6, 12]), ([13, 6], [13]), ([14], [14]), ([14], [14]), ([14], [14]), ([16, 17, 14], [14, 16, 17]), ([18, 14], [14, 18]), ([15, 19, 14], [14, 15, 19]), ([14, 20], [14, 20])])
def pinfoldlaw15_OfferOthers.B18 : List Nat := [0, 0, 3, 7, 0, 31, 63, 127, 127, 511, 1023, 2047, 4095, 8191, 16383, 32767, 32767, 32767, 229375, 491519, 1048575, 2097151]
theorem pinfoldlaw15_OfferOthers.tab18 : rtab .any (opsOf Tryd.f3 18) = pinfoldlaw15_OfferOthers.T18 := by kernel_rfl
theorem pinfoldlaw15_OfferOthers.bits18 : waitsOk pinfoldlaw15_OfferOthers.T18.2 pinfoldlaw15_OfferOthers.B18 = true := by kernel_rfl
set_option maxHeartbeats 8000000 in
set_option maxRecDepth 100000 in
theorem pinfoldlaw15_OfferOthers.calls (k : Nat) (a0_0 : Int) (a0_1 : Int) (A0_2 : Option Addr) (c0_2 : Nat) (l0_2 : List Int) (A0_3 : Option Addr) (c0_3 : Nat) (l0_3 : List (S56)) (a0_4 : Int) (a0_5 : ByteArray) (A0_6 : Option Addr) (c0_6 : Nat) (l0_6 : List (S58)) (A1 : Option Addr) (c1 : Nat) (l1 : List (S35)) (a2 : Int) (a3 : ByteArray) (a4 : Int) (r : Bool) (w : World) (hr0_2 : Kd.C (Kd.int .i64) w A0_2 l0_2.length l0_2) (hc0_2 : l0_2.length ≤ c0_2) (hr0_3 : Kd.C k56 w A0_3 l0_3.length l0_3) (hc0_3 : l0_3.length ≤ c0_3) (hr0_6 : Kd.C k58 w A0_6 l0_6.length l0_6) (hc0_6 : l0_6.length ≤ c0_6) (hr1 : Kd.C k35 w A1 l1.length l1) (hc1 : l1.length ≤ c1) (h : pinfoldlaw15_OfferOthers.f k a0_0 a0_1 l0_2 l0_3 a0_4 a0_5 l0_6 l1 a2 a3 a4 = some r) :
  Calls Tryd.prog 3 #[.agg #[.int .i64 a0_0, .int .i64 a0_1, .slice A0_2 l0_2.length c0_2, .slice A0_3 l0_3.length c0_3, .int .i64 a0_4, .string a0_5, .slice A0_6 l0_6.length c0_6], .slice A1 l1.length c1, .int .i64 a2, .string a3, .int .i64 a4] w fun e w' => e = .returned (.bool r) ∧ Below w.heap.size w w' := by
 have hu26 := Tryd.underlying26
 have hu35 := Tryd.underlying35
 have HR0_2 := am_ hr0_2
 have HC0_2 := am_ hc0_2
 clear hr0_2 hc0_2
 have HR0_3 := am_ hr0_3
 have HC0_3 := am_ hc0_3
 clear hr0_3 hc0_3
 have HR0_6 := am_ hr0_6
 have HC0_6 := am_ hc0_6
 clear hr0_6 hc0_6
 have HR1 := am_ hr1
 have HC1 := am_ hc1
 clear hr1 hc1
 have HB := am_ (Below.refl w.heap.size w)
 have H : ((pinfoldlaw15_awake.f k).bind fun t266 => (if t266 = true then ((offer_Offer.f a0_0 a0_1 l0_2 l0_3 a0_4 a0_5 l0_6 l1 a2 a3 a4).bind fun bt267 => ((pinfoldlaw0_Num.f bt267.2.2).bind fun t272 => (if t272 = 0 then (pinfoldlaw15_OfferOthers.l0 k l1 a2 a3 bt267.1 bt267.2.1 0 0) else (if (bt267.1.length : Int) = 0 then (some (bt267.2.1 == 0)) else (none))))) else (none))) = some r := h
 clear h
 replace H := e4_ H
 obtain ⟨t266, A60, H⟩ := H
 replace H : (if t266 = true then ((offer_Offer.f a0_0 a0_1 l0_2 l0_3 a0_4 a0_5 l0_6 l1 a2 a3 a4).bind fun bt267 => ((pinfoldlaw0_Num.f bt267.2.2).bind fun t272 => (if t272 = 0 then (pinfoldlaw15_OfferOthers.l0 k l1 a2 a3 bt267.1 bt267.2.1 0 0) else (if (bt267.1.length : Int) = 0 then (some (bt267.2.1 == 0)) else (none))))) else (none)) = some r := H
 have A6 := am_ A60
 clear A60
 by_cases c7 : t266 = true
 ·subst c7
  have H1 : ((offer_Offer.f a0_0 a0_1 l0_2 l0_3 a0_4 a0_5 l0_6 l1 a2 a3 a4).bind fun bt267 => ((pinfoldlaw0_Num.f bt267.2.2).bind fun t272 => (if t272 = 0 then (pinfoldlaw15_OfferOthers.l0 k l1 a2 a3 bt267.1 bt267.2.1 0 0) else (if (bt267.1.length : Int) = 0 then (some (bt267.2.1 == 0)) else (none))))) = some r := by rw [if_pos rfl] at H; exact H
  clear H
  have H := H1
  clear H1
  replace H := e4_ H
  obtain ⟨⟨t267, t270, t271⟩, A80, H⟩ := H
  replace H : ((pinfoldlaw0_Num.f t271).bind fun t272 => (if t272 = 0 then (pinfoldlaw15_OfferOthers.l0 k l1 a2 a3 t267 t270 0 0) else (if (t267.length : Int) = 0 then (some (t270 == 0)) else (none)))) = some r := H
  have A8 := am_ A80
  clear A80
  replace H := e4_ H
  obtain ⟨t272, A90, H⟩ := H
  replace H : (if t272 = 0 then (pinfoldlaw15_OfferOthers.l0 k l1 a2 a3 t267 t270 0 0) else (if (t267.length : Int) = 0 then (some (t270 == 0)) else (none))) = some r := H
  have A9 := am_ A90
  clear A90
  by_cases c10 : t272 = 0
  ·rw [if_pos c10] at H
   have c10b0 : (t272 == 0) = true := beq_iff_eq.mpr c10
   have c10b1 : (t272 != 0) = false := e1_ c10
   clear c10
   have H' := am_ H
   clear H
   go_enter Tryd.func3, Tryd.ntmps3
   go_wp2_with (first | ((with_reducible refine gate_dst (N := 5) rfl ?_); refine box_event ?hg (N := 5) ?hd (cs := #[.int .i64 a0_0, .int .i64 a0_1, .slice A0_2 l0_2.length c0_2, .slice A0_3 l0_3.length c0_3, .int .i64 a0_4, .string a0_5, .slice A0_6 l0_6.length c0_6]) (t := 26) ?hr ?_; (case hd => rfl); (case hg => rfl); (case hr => first | (go_simp; done) | (go_simp; rfl)); intro gb265 hg w11 hbox hb; have n0_ := am_ (bt_ (by repeat (with_reducible first | exact HB.out | apply p3_ | apply p1_ | apply p2_)) hb); have n1_ := am_ (hbox); have n2_ := am_ ((by rw [hg]; exact (bz_ (by repeat (with_reducible first | exact HB.out | apply p3_ | apply p1_ | apply p2_))) : w.heap.size ≤ gb265)); have n3_ := am_ ((by rw [hg]; exact (bz_ (by repeat (with_reducible first | exact HB.out | apply p3_ | apply p1_ | apply p2_))) : w.heap.size ≤ gb265)); clear HB; have HB := n0_; have BK265 := n1_; have GW265 := n2_; have GE265 := n3_; clear n0_ n1_ n2_ n3_; clear hb hbox hg) | ((with_reducible refine gate_callee (f := 6) rfl ?_); refine goesL_ (some 21) rfl rfl Tryd.func6 (by kernel_rfl) rfl #[] rfl (by (try simp only [List.map_toArray, List.map_cons, List.map_nil]); first | done | rfl | (simp only [List.length_drop, List.length_take]; rfl)) ?_; (with_reducible refine (pinfoldlaw15_awake.calls k  true _ A6.out).mono ?_); rintro e w12 ⟨rfl, hb⟩; refine ⟨_, rfl, ?_⟩; have n0_ := am_ (kb_ (g := gb265) (o := .cells #[.int .i64 a0_0, .int .i64 a0_1, .slice A0_2 l0_2.length c0_2, .slice A0_3 l0_3.length c0_3, .int .i64 a0_4, .string a0_5, .slice A0_6 l0_6.length c0_6] 26 (0, 0)) (by (with_reducible repeat (first | refine k2_ ?_ _ | refine k3_ ?_ | refine k1_ ?_ _)); exact BK265.out) hb); have n1_ := am_ (bt_ (by repeat (with_reducible first | exact HB.out | apply p3_ | apply p1_ | apply p2_ | refine bs_ ?_ GE265.out)) hb); clear BK265; clear HB; have BK265 := n0_; have HB := n1_; clear n0_ n1_; (try clear hb); have hcz13_0 : w12.cell? ⟨gb265, 0, none⟩ = some (.int .i64 a0_0) := (bc_ BK265.out 0).trans rfl; have hcz13_1 : w12.cell? ⟨gb265, 1, none⟩ = some (.int .i64 a0_1) := (bc_ BK265.out 1).trans rfl; have hcz13_2 : w12.cell? ⟨gb265, 2, none⟩ = some (.slice A0_2 l0_2.length c0_2) := (bc_ BK265.out 2).trans rfl; have hcz13_3 : w12.cell? ⟨gb265, 3, none⟩ = some (.slice A0_3 l0_3.length c0_3) := (bc_ BK265.out 3).trans rfl; have hcz13_4 : w12.cell? ⟨gb265, 4, none⟩ = some (.int .i64 a0_4) := (bc_ BK265.out 4).trans rfl; have hcz13_5 : w12.cell? ⟨gb265, 5, none⟩ = some (.string a0_5) := (bc_ BK265.out 5).trans rfl; have hcz13_6 : w12.cell? ⟨gb265, 6, none⟩ = some (.slice A0_6 l0_6.length c0_6) := (bc_ BK265.out 6).trans rfl; have hfz13_0 := bf_ BK265.out 0; have hfz13_1 := bf_ BK265.out 1; have hfz13_2 := bf_ BK265.out 2; have hfz13_3 := bf_ BK265.out 3; have hfz13_4 := bf_ BK265.out 4; have hfz13_5 := bf_ BK265.out 5; have hfz13_6 := bf_ BK265.out 6) | ((with_reducible refine gate_callee (f := 7) rfl ?_); refine goesL_ (some 29) rfl rfl Tryd.func7 (by kernel_rfl) rfl #[.agg #[.int .i64 a0_0, .int .i64 a0_1, .slice A0_2 l0_2.length c0_2, .slice A0_3 l0_3.length c0_3, .int .i64 a0_4, .string a0_5, .slice A0_6 l0_6.length c0_6], .slice A1 l1.length c1, .int .i64 a2, .string a3, .int .i64 a4] rfl (by (try simp only [List.map_toArray, List.map_cons, List.map_nil]); first | done | rfl | (simp only [List.length_drop, List.length_take]; rfl)) ?_; (with_reducible refine (offer_Offer.calls a0_0 a0_1 _ _ l0_2 _ _ l0_3 a0_4 a0_5 _ _ l0_6 _ _ l1 a2 a3 a4 t267 t270 t271 _ ?side1 ?side2 ?side3 ?side4 ?side5 ?side6 ?side7 ?side8 A8.out).mono ?_); (case side1 => repeat (first | exact (c4_ HR0_2.out HB.out) | (with_reducible refine c1_ ?_ _) | (with_reducible refine c2_ ?_ _) | (with_reducible refine c3_ ?_))); (case side2 => exact HC0_2.out); (case side3 => repeat (first | exact (c4_ HR0_3.out HB.out) | (with_reducible refine c1_ ?_ _) | (with_reducible refine c2_ ?_ _) | (with_reducible refine c3_ ?_))); (case side4 => exact HC0_3.out); (case side5 => repeat (first | exact (c4_ HR0_6.out HB.out) | (with_reducible refine c1_ ?_ _) | (with_reducible refine c2_ ?_ _) | (with_reducible refine c3_ ?_))); (case side6 => exact HC0_6.out); (case side7 => repeat (first | exact (c4_ HR1.out HB.out) | (with_reducible refine c1_ ?_ _) | (with_reducible refine c2_ ?_ _) | (with_reducible refine c3_ ?_))); (case side8 => exact HC1.out); rintro e w14 ⟨v268, rfl, ho0, hb⟩; refine ⟨_, rfl, ?_⟩; have n0_ := am_ (Kd.R_lower ho0 (bz_ (by repeat (with_reducible first | exact HB.out | apply p3_ | apply p1_ | apply p2_ | refine bs_ ?_ GE265.out)))); have n1_ := am_ (kb_ (g := gb265) (o := .cells #[.int .i64 a0_0, .int .i64 a0_1, .slice A0_2 l0_2.length c0_2, .slice A0_3 l0_3.length c0_3, .int .i64 a0_4, .string a0_5, .slice A0_6 l0_6.length c0_6] 26 (0, 0)) (by (with_reducible repeat (first | refine k2_ ?_ _ | refine k3_ ?_ | refine k1_ ?_ _)); exact BK265.out) hb); have n2_ := am_ (bt_ (by repeat (with_reducible first | exact HB.out | apply p3_ | apply p1_ | apply p2_ | refine bs_ ?_ GE265.out)) hb); clear BK265; clear HB; have HO269 := n0_; have BK265 := n1_; have HB := n2_; clear n0_ n1_ n2_; (try clear hb); (try clear ho0)) | ((with_reducible refine gate_callee (f := 8) rfl ?_); refine goesL_ (some 34) rfl rfl Tryd.func8 (by kernel_rfl) rfl #[.int .i64 t271] rfl (by (try simp only [List.map_toArray, List.map_cons, List.map_nil]); first | done | rfl | (simp only [List.length_drop, List.length_take]; rfl)) ?_; (with_reducible refine (pinfoldlaw0_Num.calls t271 t272 _ A9.out).mono ?_); rintro e w' ⟨rfl, ⟨nd, rfl⟩⟩; refine ⟨_, rfl, ?_⟩))
   go_loopg [14, 15] k (fun kq v14 v15 w' => ∃ (x14_1 : Int) (x15_1 : Int), v14 = .int .i64 x14_1 ∧ v15 = .int .i64 x15_1 ∧ Aside0 (pinfoldlaw15_OfferOthers.l0 kq l1 a2 a3 t267 t270 x14_1 x15_1 = some r) ∧ Aside0 (kq ≤ k) ∧ Aside0 (Kd.R k35 35 w' w.heap.size (fun _ => True) v268 t267) ∧ Aside0 (w'.heap[gb265]? = some (.cells #[.int .i64 a0_0, .int .i64 a0_1, (.slice A0_2 l0_2.length c0_2), (.slice A0_3 l0_3.length c0_3), .int .i64 a0_4, .string a0_5, (.slice A0_6 l0_6.length c0_6)] 26 (0, 0))) ∧ Aside0 (Below w.heap.size w w'))
   case atStart => exact ⟨(0), (0), (by first | rfl | (simp; done) | (simp [*]; done)), (by first | rfl | (simp; done) | (simp [*]; done)), H', ⟨Nat.le_refl _⟩, ⟨by (with_reducible repeat (first | apply r1_ | apply r2_ | apply r3_)); exact HO269.out⟩, ⟨by (with_reducible repeat (first | refine k2_ ?_ _ | refine k3_ ?_ | refine k1_ ?_ _)); exact BK265.out⟩, ⟨by repeat (with_reducible first | exact HB.out | apply p3_ | apply p1_ | apply p2_ | refine bs_ ?_ GE265.out)⟩⟩
   case round =>
    clear H'
    (try clear c1); (try clear c7); (try clear c10); (try clear c10b0); (try clear c10b1); (try clear hcz13_0); (try clear hcz13_1); (try clear hcz13_2); (try clear hcz13_3); (try clear hcz13_4); (try clear hcz13_5); (try clear hcz13_6); (try clear hfz13_0); (try clear hfz13_1); (try clear hfz13_2); (try clear hfz13_3); (try clear hfz13_4); (try clear hfz13_5); (try clear hfz13_6)
    obtain ⟨x14_1, x15_1, rfl, rfl, HA, HK1, HO_11, BK265, HB⟩ := hrel
    cases gk with
    | zero => exact absurd HA.out (by simp [pinfoldlaw15_OfferOthers.l0])
    | succ k1 =>
     have H := HA.out
     clear HA
     simp only [pinfoldlaw15_OfferOthers.l0] at H
     by_cases c15 : x15_1 < (t267.length : Int)
     ·rw [if_pos c15] at H
      have c15b0 : decide (x15_1 < (t267.length : Int)) = true := decide_eq_true c15
      clear c15
      by_cases c16 : 0 ≤ x15_1
      rotate_left
      ·rw [if_neg c16] at H
       exact absurd H (by simp)
      rw [if_pos c16] at H
      have c16b0 : decide (0 ≤ x15_1) = true := decide_eq_true c16
      clear c16
      replace H := e4_ H
      obtain ⟨t274, A170, H⟩ := H
      replace H : (if t274 = true then (if ((rd_T35 t267 x15_1).f1) = 1 then (if ((rd_T35 t267 x15_1).f2).toList = a3.toList then (pinfoldlaw15_OfferOthers.l0 k1 l1 a2 a3 t267 t270 (wrap64 (x14_1 + 1)) (wrap64 (x15_1 + 1))) else (pinfoldlaw15_OfferOthers.l0 k1 l1 a2 a3 t267 t270 x14_1 (wrap64 (x15_1 + 1)))) else (pinfoldlaw15_OfferOthers.l0 k1 l1 a2 a3 t267 t270 x14_1 (wrap64 (x15_1 + 1)))) else (pinfoldlaw15_OfferOthers.l0 k1 l1 a2 a3 t267 t270 x14_1 (wrap64 (x15_1 + 1)))) = some r := H
      have A17 := am_ A170
      clear A170
      by_cases c18 : t274 = true
      ·subst c18
       have H1 : (if ((rd_T35 t267 x15_1).f1) = 1 then (if ((rd_T35 t267 x15_1).f2).toList = a3.toList then (pinfoldlaw15_OfferOthers.l0 k1 l1 a2 a3 t267 t270 (wrap64 (x14_1 + 1)) (wrap64 (x15_1 + 1))) else (pinfoldlaw15_OfferOthers.l0 k1 l1 a2 a3 t267 t270 x14_1 (wrap64 (x15_1 + 1)))) else (pinfoldlaw15_OfferOthers.l0 k1 l1 a2 a3 t267 t270 x14_1 (wrap64 (x15_1 + 1)))) = some r := by rw [if_pos rfl] at H; exact H
       clear H
       have H := H1
       clear H1
       by_cases c19 : ((rd_T35 t267 x15_1).f1) = 1
       ·rw [if_pos c19] at H
        have c19b0 : (((rd_T35 t267 x15_1).f1) == 1) = true := beq_iff_eq.mpr c19
        have c19b1 : (((rd_T35 t267 x15_1).f1) != 1) = false := e1_ c19
        clear c19
        by_cases c20 : ((rd_T35 t267 x15_1).f2).toList = a3.toList
        ·rw [if_pos c20] at H
         have c20b0 : (((rd_T35 t267 x15_1).f2).toList == a3.toList) = true := beq_iff_eq.mpr c20
         have c20b1 : (((rd_T35 t267 x15_1).f2).toList != a3.toList) = false := e1_ c20
         clear c20
         have H' := am_ H
         clear H
         obtain ⟨Ao21, co21, eo21⟩ := Kd.R_slice HO_11.out
         subst eo21
         have p273 : 0 ≤ (x15_1 : Int) := of_decide_eq_true (by first | (with_reducible assumption) | assumption)
         have q273 : x15_1 < (t267.length : Int) := of_decide_eq_true (by first | (with_reducible assumption) | assumption)
         obtain ⟨ad273, e273, hx273_0, hx273_1, hx273_2, hx273_3, hx273_4, hx273_5⟩ := at_T35 (Kd.R_reads' HO_11.out).2.2 x15_1 p273 q273
         cases e273
         replace p273 := eq_true p273
         replace q273 := eq_true q273
         go_wp2_with (first | ((with_reducible refine gate_callee (f := 9) rfl ?_); refine goesL_ (some 54) rfl rfl Tryd.func9 (by kernel_rfl) rfl #[.agg #[.int .i64 ((rd_T35 t267 x15_1).f0), .int .i64 ((rd_T35 t267 x15_1).f1), .string ((rd_T35 t267 x15_1).f2), .int .i64 ((rd_T35 t267 x15_1).f3), .string ((rd_T35 t267 x15_1).f4), .bool ((rd_T35 t267 x15_1).f5)], .int .i64 a2] rfl (by (try simp only [List.map_toArray, List.map_cons, List.map_nil]); first | done | rfl | (simp only [List.length_drop, List.length_take]; rfl)) ?_; (with_reducible refine (pinfoldref11_Live_c.calls ((rd_T35 t267 x15_1).f0) ((rd_T35 t267 x15_1).f1) ((rd_T35 t267 x15_1).f2) ((rd_T35 t267 x15_1).f3) ((rd_T35 t267 x15_1).f4) ((rd_T35 t267 x15_1).f5) a2 true _ A17.out).mono ?_); rintro e w22 ⟨rfl, hb⟩; refine ⟨_, rfl, ?_⟩; have n0_ := am_ (Kd.R_below (by (with_reducible repeat (first | apply r1_ | apply r2_ | apply r3_)); exact HO_11.out) hb); have n1_ := am_ (kb_ (g := gb265) (o := .cells #[.int .i64 a0_0, .int .i64 a0_1, .slice A0_2 l0_2.length c0_2, .slice A0_3 l0_3.length c0_3, .int .i64 a0_4, .string a0_5, .slice A0_6 l0_6.length c0_6] 26 (0, 0)) (by (with_reducible repeat (first | refine k2_ ?_ _ | refine k3_ ?_ | refine k1_ ?_ _)); exact BK265.out) hb); have n2_ := am_ (bt_ (by repeat (with_reducible first | exact HB.out | apply p3_ | apply p1_ | apply p2_ | refine bs_ ?_ GE265.out)) hb); clear HO_11; clear BK265; clear HB; have HO_11 := n0_; have BK265 := n1_; have HB := n2_; clear n0_ n1_ n2_; (try clear hb); have p275 : 0 ≤ (x15_1 : Int) := of_decide_eq_true (by first | (with_reducible assumption) | assumption); have q275 : x15_1 < (t267.length : Int) := of_decide_eq_true (by first | (with_reducible assumption) | assumption); obtain ⟨ad275, e275, hx275_0, hx275_1, hx275_2, hx275_3, hx275_4, hx275_5⟩ := at_T35 (Kd.R_reads' HO_11.out).2.2 x15_1 p275 q275; obtain rfl : ad273 = ad275 := (by injection e275); replace p275 := eq_true p275; replace q275 := eq_true q275; have p276 : 0 ≤ (x15_1 : Int) := of_decide_eq_true (by first | (with_reducible assumption) | assumption); have q276 : x15_1 < (t267.length : Int) := of_decide_eq_true (by first | (with_reducible assumption) | assumption); obtain ⟨ad276, e276, hx276_0, hx276_1, hx276_2, hx276_3, hx276_4, hx276_5⟩ := at_T35 (Kd.R_reads' HO_11.out).2.2 x15_1 p276 q276; obtain rfl : ad273 = ad276 := (by injection e276); replace p276 := eq_true p276; replace q276 := eq_true q276))
         go_roundg k1
         case measure => have := HK1.out; omega
         case rel => exact ⟨(wrap64 (x14_1 + 1)), (wrap64 (x15_1 + 1)), (by first | rfl | (simp; done) | (simp [*]; done)), (by first | rfl | (simp; done) | (simp [*]; done)), H', ⟨by have := HK1.out; omega⟩, ⟨by (with_reducible repeat (first | apply r1_ | apply r2_ | apply r3_)); exact HO_11.out⟩, ⟨by (with_reducible repeat (first | refine k2_ ?_ _ | refine k3_ ?_ | refine k1_ ?_ _)); exact BK265.out⟩, ⟨by repeat (with_reducible first | exact HB.out | apply p3_ | apply p1_ | apply p2_ | refine bs_ ?_ GE265.out)⟩⟩
        rw [if_neg c20] at H
        have c20b0 : (((rd_T35 t267 x15_1).f2).toList == a3.toList) = false := e2_ c20
        have c20b1 : (((rd_T35 t267 x15_1).f2).toList != a3.toList) = true := bne_iff_ne.mpr c20
        have H' := am_ H
        clear H
        obtain ⟨Ao23, co23, eo23⟩ := Kd.R_slice HO_11.out
        subst eo23
        have p273 : 0 ≤ (x15_1 : Int) := of_decide_eq_true (by first | (with_reducible assumption) | assumption)
        have q273 : x15_1 < (t267.length : Int) := of_decide_eq_true (by first | (with_reducible assumption) | assumption)
        obtain ⟨ad273, e273, hx273_0, hx273_1, hx273_2, hx273_3, hx273_4, hx273_5⟩ := at_T35 (Kd.R_reads' HO_11.out).2.2 x15_1 p273 q273
        cases e273
        replace p273 := eq_true p273
        replace q273 := eq_true q273
        go_wp2_with (first | ((with_reducible refine gate_callee (f := 9) rfl ?_); refine goesL_ (some 54) rfl rfl Tryd.func9 (by kernel_rfl) rfl #[.agg #[.int .i64 ((rd_T35 t267 x15_1).f0), .int .i64 ((rd_T35 t267 x15_1).f1), .string ((rd_T35 t267 x15_1).f2), .int .i64 ((rd_T35 t267 x15_1).f3), .string ((rd_T35 t267 x15_1).f4), .bool ((rd_T35 t267 x15_1).f5)], .int .i64 a2] rfl (by (try simp only [List.map_toArray, List.map_cons, List.map_nil]); first | done | rfl | (simp only [List.length_drop, List.length_take]; rfl)) ?_; (with_reducible refine (pinfoldref11_Live_c.calls ((rd_T35 t267 x15_1).f0) ((rd_T35 t267 x15_1).f1) ((rd_T35 t267 x15_1).f2) ((rd_T35 t267 x15_1).f3) ((rd_T35 t267 x15_1).f4) ((rd_T35 t267 x15_1).f5) a2 true _ A17.out).mono ?_); rintro e w24 ⟨rfl, hb⟩; refine ⟨_, rfl, ?_⟩; have n0_ := am_ (Kd.R_below (by (with_reducible repeat (first | apply r1_ | apply r2_ | apply r3_)); exact HO_11.out) hb); have n1_ := am_ (kb_ (g := gb265) (o := .cells #[.int .i64 a0_0, .int .i64 a0_1, .slice A0_2 l0_2.length c0_2, .slice A0_3 l0_3.length c0_3, .int .i64 a0_4, .string a0_5, .slice A0_6 l0_6.length c0_6] 26 (0, 0)) (by (with_reducible repeat (first | refine k2_ ?_ _ | refine k3_ ?_ | refine k1_ ?_ _)); exact BK265.out) hb); have n2_ := am_ (bt_ (by repeat (with_reducible first | exact HB.out | apply p3_ | apply p1_ | apply p2_ | refine bs_ ?_ GE265.out)) hb); clear HO_11; clear BK265; clear HB; have HO_11 := n0_; have BK265 := n1_; have HB := n2_; clear n0_ n1_ n2_; (try clear hb); have p275 : 0 ≤ (x15_1 : Int) := of_decide_eq_true (by first | (with_reducible assumption) | assumption); have q275 : x15_1 < (t267.length : Int) := of_decide_eq_true (by first | (with_reducible assumption) | assumption); obtain ⟨ad275, e275, hx275_0, hx275_1, hx275_2, hx275_3, hx275_4, hx275_5⟩ := at_T35 (Kd.R_reads' HO_11.out).2.2 x15_1 p275 q275; obtain rfl : ad273 = ad275 := (by injection e275); replace p275 := eq_true p275; replace q275 := eq_true q275; have p276 : 0 ≤ (x15_1 : Int) := of_decide_eq_true (by first | (with_reducible assumption) | assumption); have q276 : x15_1 < (t267.length : Int) := of_decide_eq_true (by first | (with_reducible assumption) | assumption); obtain ⟨ad276, e276, hx276_0, hx276_1, hx276_2, hx276_3, hx276_4, hx276_5⟩ := at_T35 (Kd.R_reads' HO_11.out).2.2 x15_1 p276 q276; obtain rfl : ad273 = ad276 := (by injection e276); replace p276 := eq_true p276; replace q276 := eq_true q276))
        go_roundg k1
        case measure => have := HK1.out; omega
        case rel => exact ⟨(x14_1), (wrap64 (x15_1 + 1)), (by first | rfl | (simp; done) | (simp [*]; done)), (by first | rfl | (simp; done) | (simp [*]; done)), H', ⟨by have := HK1.out; omega⟩, ⟨by (with_reducible repeat (first | apply r1_ | apply r2_ | apply r3_)); exact HO_11.out⟩, ⟨by (with_reducible repeat (first | refine k2_ ?_ _ | refine k3_ ?_ | refine k1_ ?_ _)); exact BK265.out⟩, ⟨by repeat (with_reducible first | exact HB.out | apply p3_ | apply p1_ | apply p2_ | refine bs_ ?_ GE265.out)⟩⟩
       rw [if_neg c19] at H
       have c19b0 : (((rd_T35 t267 x15_1).f1) == 1) = false := e2_ c19
       have c19b1 : (((rd_T35 t267 x15_1).f1) != 1) = true := bne_iff_ne.mpr c19
       have H' := am_ H
       clear H
       obtain ⟨Ao25, co25, eo25⟩ := Kd.R_slice HO_11.out
       subst eo25
       have p273 : 0 ≤ (x15_1 : Int) := of_decide_eq_true (by first | (with_reducible assumption) | assumption)
       have q273 : x15_1 < (t267.length : Int) := of_decide_eq_true (by first | (with_reducible assumption) | assumption)
       obtain ⟨ad273, e273, hx273_0, hx273_1, hx273_2, hx273_3, hx273_4, hx273_5⟩ := at_T35 (Kd.R_reads' HO_11.out).2.2 x15_1 p273 q273
       cases e273
       replace p273 := eq_true p273
       replace q273 := eq_true q273
       go_wp2_with (first | ((with_reducible refine gate_callee (f := 9) rfl ?_); refine goesL_ (some 54) rfl rfl Tryd.func9 (by kernel_rfl) rfl #[.agg #[.int .i64 ((rd_T35 t267 x15_1).f0), .int .i64 ((rd_T35 t267 x15_1).f1), .string ((rd_T35 t267 x15_1).f2), .int .i64 ((rd_T35 t267 x15_1).f3), .string ((rd_T35 t267 x15_1).f4), .bool ((rd_T35 t267 x15_1).f5)], .int .i64 a2] rfl (by (try simp only [List.map_toArray, List.map_cons, List.map_nil]); first | done | rfl | (simp only [List.length_drop, List.length_take]; rfl)) ?_; (with_reducible refine (pinfoldref11_Live_c.calls ((rd_T35 t267 x15_1).f0) ((rd_T35 t267 x15_1).f1) ((rd_T35 t267 x15_1).f2) ((rd_T35 t267 x15_1).f3) ((rd_T35 t267 x15_1).f4) ((rd_T35 t267 x15_1).f5) a2 true _ A17.out).mono ?_); rintro e w26 ⟨rfl, hb⟩; refine ⟨_, rfl, ?_⟩; have n0_ := am_ (Kd.R_below (by (with_reducible repeat (first | apply r1_ | apply r2_ | apply r3_)); exact HO_11.out) hb); have n1_ := am_ (kb_ (g := gb265) (o := .cells #[.int .i64 a0_0, .int .i64 a0_1, .slice A0_2 l0_2.length c0_2, .slice A0_3 l0_3.length c0_3, .int .i64 a0_4, .string a0_5, .slice A0_6 l0_6.length c0_6] 26 (0, 0)) (by (with_reducible repeat (first | refine k2_ ?_ _ | refine k3_ ?_ | refine k1_ ?_ _)); exact BK265.out) hb); have n2_ := am_ (bt_ (by repeat (with_reducible first | exact HB.out | apply p3_ | apply p1_ | apply p2_ | refine bs_ ?_ GE265.out)) hb); clear HO_11; clear BK265; clear HB; have HO_11 := n0_; have BK265 := n1_; have HB := n2_; clear n0_ n1_ n2_; (try clear hb); have p275 : 0 ≤ (x15_1 : Int) := of_decide_eq_true (by first | (with_reducible assumption) | assumption); have q275 : x15_1 < (t267.length : Int) := of_decide_eq_true (by first | (with_reducible assumption) | assumption); obtain ⟨ad275, e275, hx275_0, hx275_1, hx275_2, hx275_3, hx275_4, hx275_5⟩ := at_T35 (Kd.R_reads' HO_11.out).2.2 x15_1 p275 q275; obtain rfl : ad273 = ad275 := (by injection e275); replace p275 := eq_true p275; replace q275 := eq_true q275))
       go_roundg k1
       case measure => have := HK1.out; omega
       case rel => exact ⟨(x14_1), (wrap64 (x15_1 + 1)), (by first | rfl | (simp; done) | (simp [*]; done)), (by first | rfl | (simp; done) | (simp [*]; done)), H', ⟨by have := HK1.out; omega⟩, ⟨by (with_reducible repeat (first | apply r1_ | apply r2_ | apply r3_)); exact HO_11.out⟩, ⟨by (with_reducible repeat (first | refine k2_ ?_ _ | refine k3_ ?_ | refine k1_ ?_ _)); exact BK265.out⟩, ⟨by repeat (with_reducible first | exact HB.out | apply p3_ | apply p1_ | apply p2_ | refine bs_ ?_ GE265.out)⟩⟩
      replace c18 := e3_ c18
      subst c18
      have H1 : (pinfoldlaw15_OfferOthers.l0 k1 l1 a2 a3 t267 t270 x14_1 (wrap64 (x15_1 + 1))) = some r := by rw [if_neg (show ¬ (false = true) by decide)] at H; exact H
      clear H
      have H := H1
      clear H1
      have H' := am_ H
      clear H
      obtain ⟨Ao27, co27, eo27⟩ := Kd.R_slice HO_11.out
      subst eo27
      have p273 : 0 ≤ (x15_1 : Int) := of_decide_eq_true (by first | (with_reducible assumption) | assumption)
      have q273 : x15_1 < (t267.length : Int) := of_decide_eq_true (by first | (with_reducible assumption) | assumption)
      obtain ⟨ad273, e273, hx273_0, hx273_1, hx273_2, hx273_3, hx273_4, hx273_5⟩ := at_T35 (Kd.R_reads' HO_11.out).2.2 x15_1 p273 q273
      cases e273
      replace p273 := eq_true p273
      replace q273 := eq_true q273
      go_wp2_with (first | ((with_reducible refine gate_callee (f := 9) rfl ?_); refine goesL_ (some 54) rfl rfl Tryd.func9 (by kernel_rfl) rfl #[.agg #[.int .i64 ((rd_T35 t267 x15_1).f0), .int .i64 ((rd_T35 t267 x15_1).f1), .string ((rd_T35 t267 x15_1).f2), .int .i64 ((rd_T35 t267 x15_1).f3), .string ((rd_T35 t267 x15_1).f4), .bool ((rd_T35 t267 x15_1).f5)], .int .i64 a2] rfl (by (try simp only [List.map_toArray, List.map_cons, List.map_nil]); first | done | rfl | (simp only [List.length_drop, List.length_take]; rfl)) ?_; (with_reducible refine (pinfoldref11_Live_c.calls ((rd_T35 t267 x15_1).f0) ((rd_T35 t267 x15_1).f1) ((rd_T35 t267 x15_1).f2) ((rd_T35 t267 x15_1).f3) ((rd_T35 t267 x15_1).f4) ((rd_T35 t267 x15_1).f5) a2 false _ A17.out).mono ?_); rintro e w28 ⟨rfl, hb⟩; refine ⟨_, rfl, ?_⟩; have n0_ := am_ (Kd.R_below (by (with_reducible repeat (first | apply r1_ | apply r2_ | apply r3_)); exact HO_11.out) hb); have n1_ := am_ (kb_ (g := gb265) (o := .cells #[.int .i64 a0_0, .int .i64 a0_1, .slice A0_2 l0_2.length c0_2, .slice A0_3 l0_3.length c0_3, .int .i64 a0_4, .string a0_5, .slice A0_6 l0_6.length c0_6] 26 (0, 0)) (by (with_reducible repeat (first | refine k2_ ?_ _ | refine k3_ ?_ | refine k1_ ?_ _)); exact BK265.out) hb); have n2_ := am_ (bt_ (by repeat (with_reducible first | exact HB.out | apply p3_ | apply p1_ | apply p2_ | refine bs_ ?_ GE265.out)) hb); clear HO_11; clear BK265; clear HB; have HO_11 := n0_; have BK265 := n1_; have HB := n2_; clear n0_ n1_ n2_; (try clear hb)))
      go_roundg k1
      case measure => have := HK1.out; omega
      case rel => exact ⟨(x14_1), (wrap64 (x15_1 + 1)), (by first | rfl | (simp; done) | (simp [*]; done)), (by first | rfl | (simp; done) | (simp [*]; done)), H', ⟨by have := HK1.out; omega⟩, ⟨by (with_reducible repeat (first | apply r1_ | apply r2_ | apply r3_)); exact HO_11.out⟩, ⟨by (with_reducible repeat (first | refine k2_ ?_ _ | refine k3_ ?_ | refine k1_ ?_ _)); exact BK265.out⟩, ⟨by repeat (with_reducible first | exact HB.out | apply p3_ | apply p1_ | apply p2_ | refine bs_ ?_ GE265.out)⟩⟩
     rw [if_neg c15] at H
     have c15b0 : decide (x15_1 < (t267.length : Int)) = false := decide_eq_false c15
     clear c15
     have H' := am_ H
     clear H
     obtain ⟨Ao29, co29, eo29⟩ := Kd.R_slice HO_11.out
     subst eo29
     go_wp2
     go_loopg [16] k1 (fun kq v16 w' => ∃ (x16_2 : Int), v16 = .int .i64 x16_2 ∧ Aside0 (pinfoldlaw15_OfferOthers.l1 kq l1 a2 a3 t267 t270 x14_1 x16_2 = some r) ∧ Aside0 (kq ≤ k1) ∧ Aside0 (Kd.R k35 35 w' w.heap.size (fun _ => True) (.slice Ao29 t267.length co29) t267) ∧ Aside0 (w'.heap[gb265]? = some (.cells #[.int .i64 a0_0, .int .i64 a0_1, (.slice A0_2 l0_2.length c0_2), (.slice A0_3 l0_3.length c0_3), .int .i64 a0_4, .string a0_5, (.slice A0_6 l0_6.length c0_6)] 26 (0, 0))) ∧ Aside0 (Below w.heap.size w w'))
     case atStart => exact ⟨(0), (by first | rfl | (simp; done) | (simp [*]; done)), H', ⟨Nat.le_refl _⟩, ⟨by (with_reducible repeat (first | apply r1_ | apply r2_ | apply r3_)); exact HO_11.out⟩, ⟨by (with_reducible repeat (first | refine k2_ ?_ _ | refine k3_ ?_ | refine k1_ ?_ _)); exact BK265.out⟩, ⟨by repeat (with_reducible first | exact HB.out | apply p3_ | apply p1_ | apply p2_ | refine bs_ ?_ GE265.out)⟩⟩
     case round =>
      clear H'
      (try clear c1); (try clear c7); (try clear c10); (try clear c10b0); (try clear c10b1); (try clear c15); (try clear c15b0); (try clear hcz13_0); (try clear hcz13_1); (try clear hcz13_2); (try clear hcz13_3); (try clear hcz13_4); (try clear hcz13_5); (try clear hcz13_6); (try clear hfz13_0); (try clear hfz13_1); (try clear hfz13_2); (try clear hfz13_3); (try clear hfz13_4); (try clear hfz13_5); (try clear hfz13_6)
      obtain ⟨x16_2, rfl, HA, HK2, HO_11, BK265, HB⟩ := hrel
      cases gk with
      | zero => exact absurd HA.out (by simp [pinfoldlaw15_OfferOthers.l1])
      | succ k2 =>
       have H := HA.out
       clear HA
       simp only [pinfoldlaw15_OfferOthers.l1] at H
       by_cases c30 : x16_2 < (l1.length : Int)
       ·rw [if_pos c30] at H
        have c30b0 : decide (x16_2 < (l1.length : Int)) = true := decide_eq_true c30
        clear c30
        by_cases c31 : 0 ≤ x16_2
        rotate_left
        ·rw [if_neg c31] at H
         exact absurd H (by simp)
        rw [if_pos c31] at H
        have c31b0 : decide (0 ≤ x16_2) = true := decide_eq_true c31
        clear c31
        replace H := e4_ H
        obtain ⟨⟨t288, t289, t290, t291, t292, t293, t294⟩, A320, H⟩ := H
        replace H : (if t294 = true then ((pinfoldref11_Live_c.f ((rd_T35 l1 x16_2).f0) ((rd_T35 l1 x16_2).f1) ((rd_T35 l1 x16_2).f2) ((rd_T35 l1 x16_2).f3) ((rd_T35 l1 x16_2).f4) ((rd_T35 l1 x16_2).f5) a2).bind fun t297 => (if t297 = true then (if ((rd_T35 l1 x16_2).f2).toList = a3.toList then (pinfoldlaw15_OfferOthers.j2 k2 l1 a2 a3 t267 t270 x14_1 x16_2 false t288 t289 t290 t291 t292 t293) else (pinfoldlaw15_OfferOthers.j2 k2 l1 a2 a3 t267 t270 x14_1 x16_2 (!(t288 == ((rd_T35 l1 x16_2).f0)) || (!(t289 == ((rd_T35 l1 x16_2).f1)) || (!(t290.toList == (((rd_T35 l1 x16_2).f2).toList)) || (!(t291 == ((rd_T35 l1 x16_2).f3)) || (!(t292.toList == (((rd_T35 l1 x16_2).f4).toList)) || (!(t293 == ((rd_T35 l1 x16_2).f5)))))))) t288 t289 t290 t291 t292 t293)) else (pinfoldlaw15_OfferOthers.j2 k2 l1 a2 a3 t267 t270 x14_1 x16_2 false t288 t289 t290 t291 t292 t293))) else (pinfoldlaw15_OfferOthers.j2 k2 l1 a2 a3 t267 t270 x14_1 x16_2 true t288 t289 t290 t291 t292 t293)) = some r := H
        have A32 := am_ A320
        clear A320
        have HC33 := am_ H
        clear H
        have p287 : 0 ≤ (x16_2 : Int) := of_decide_eq_true (by first | (with_reducible assumption) | assumption)
        have q287 : x16_2 < (l1.length : Int) := of_decide_eq_true (by first | (with_reducible assumption) | assumption)
        obtain ⟨ad287, e287, hx287_0, hx287_1, hx287_2, hx287_3, hx287_4, hx287_5⟩ := at_T35 HR1.out x16_2 p287 q287
        cases e287
        replace hx287_0 := (HB.out.cell (wb_ w _ hx287_0)).trans hx287_0
        replace hx287_1 := (HB.out.cell (wb_ w _ hx287_1)).trans hx287_1
        replace hx287_2 := (HB.out.cell (wb_ w _ hx287_2)).trans hx287_2
        replace hx287_3 := (HB.out.cell (wb_ w _ hx287_3)).trans hx287_3
        replace hx287_4 := (HB.out.cell (wb_ w _ hx287_4)).trans hx287_4
        replace hx287_5 := (HB.out.cell (wb_ w _ hx287_5)).trans hx287_5
        replace p287 := eq_true p287
        replace q287 := eq_true q287
        go_upto_region 16 with (first | ((with_reducible refine gate_callee (f := 10) rfl ?_); refine goesL_ (some 87) rfl rfl Tryd.func10 (by kernel_rfl) rfl #[.slice Ao29 t267.length co29, .int .i64 ((rd_T35 l1 x16_2).f0)] rfl (by (try simp only [List.map_toArray, List.map_cons, List.map_nil]); first | done | rfl | (simp only [List.length_drop, List.length_take]; rfl)) ?_; (with_reducible refine (pinfoldref11_FindLease_c.calls _ _ t267 ((rd_T35 l1 x16_2).f0) t288 t289 t290 t291 t292 t293 t294 _ ?side1 ?side2 A32.out).mono ?_); (case side1 => repeat (first | exact (Kd.R_reads' HO_11.out).2.2 | (with_reducible refine c1_ ?_ _) | (with_reducible refine c2_ ?_ _) | (with_reducible refine c3_ ?_))); (case side2 => exact (Kd.R_reads' HO_11.out).2.1); rintro e w34 ⟨rfl, hb⟩; refine ⟨_, rfl, ?_⟩; have n0_ := am_ (Kd.R_below (by (with_reducible repeat (first | apply r1_ | apply r2_ | apply r3_)); exact HO_11.out) hb); have n1_ := am_ (kb_ (g := gb265) (o := .cells #[.int .i64 a0_0, .int .i64 a0_1, .slice A0_2 l0_2.length c0_2, .slice A0_3 l0_3.length c0_3, .int .i64 a0_4, .string a0_5, .slice A0_6 l0_6.length c0_6] 26 (0, 0)) (by (with_reducible repeat (first | refine k2_ ?_ _ | refine k3_ ?_ | refine k1_ ?_ _)); exact BK265.out) hb); have n2_ := am_ (bt_ (by repeat (with_reducible first | exact HB.out | apply p3_ | apply p1_ | apply p2_ | refine bs_ ?_ GE265.out)) hb); clear HO_11; clear BK265; clear HB; have HO_11 := n0_; have BK265 := n1_; have HB := n2_; clear n0_ n1_ n2_; (try clear hb)) | ((with_reducible refine gate_dst (N := 17) rfl ?_); refine box_event ?hg (N := 17) ?hd (cs := #[.int .i64 0, .int .i64 0, .string (⟨#[]⟩ : ByteArray), .int .i64 0, .string (⟨#[]⟩ : ByteArray), .bool false]) (t := 35) ?hr ?_; (case hd => rfl); (case hg => rfl); (case hr => first | (go_simp; done) | (go_simp; rfl)); intro gb295 hg w35 hbox hb; have n0_ := am_ (Kd.R_below (Kd.R_elderB (by (with_reducible repeat (first | apply r1_ | apply r2_ | apply r3_)); exact HO_11.out) gb295 (Nat.le_of_eq hg.symm)) hb); have n1_ := am_ (kb_ (g := gb265) (o := .cells #[.int .i64 a0_0, .int .i64 a0_1, .slice A0_2 l0_2.length c0_2, .slice A0_3 l0_3.length c0_3, .int .i64 a0_4, .string a0_5, .slice A0_6 l0_6.length c0_6] 26 (0, 0)) (by (with_reducible repeat (first | refine k2_ ?_ _ | refine k3_ ?_ | refine k1_ ?_ _)); exact BK265.out) hb); have n2_ := am_ (bt_ (by repeat (with_reducible first | exact HB.out | apply p3_ | apply p1_ | apply p2_ | refine bs_ ?_ GE265.out)) hb); have n3_ := am_ (hbox); have n4_ := am_ ((by rw [hg]; exact (bz_ (by repeat (with_reducible first | exact HB.out | apply p3_ | apply p1_ | apply p2_ | refine bs_ ?_ GE265.out))) : w.heap.size ≤ gb295)); have n5_ := am_ ((by rw [hg]; exact (bz_ (by repeat (with_reducible first | exact HB.out | apply p3_ | apply p1_ | apply p2_ | refine bs_ ?_ GE265.out))) : w.heap.size ≤ gb295)); have n6_ := am_ ((by rw [hg]; exact Nat.ne_of_lt (blk_lt (g := gb265) (o := .cells #[.int .i64 a0_0, .int .i64 a0_1, .slice A0_2 l0_2.length c0_2, .slice A0_3 l0_3.length c0_3, .int .i64 a0_4, .string a0_5, .slice A0_6 l0_6.length c0_6] 26 (0, 0)) (by (with_reducible repeat (first | refine k2_ ?_ _ | refine k3_ ?_ | refine k1_ ?_ _)); exact BK265.out)) : gb265 ≠ gb295)); have n7_ := am_ ((by rw [hg]; exact Nat.ne_of_gt (blk_lt (g := gb265) (o := .cells #[.int .i64 a0_0, .int .i64 a0_1, .slice A0_2 l0_2.length c0_2, .slice A0_3 l0_3.length c0_3, .int .i64 a0_4, .string a0_5, .slice A0_6 l0_6.length c0_6] 26 (0, 0)) (by (with_reducible repeat (first | refine k2_ ?_ _ | refine k3_ ?_ | refine k1_ ?_ _)); exact BK265.out)) : gb295 ≠ gb265)); clear HO_11; clear BK265; clear HB; have HO_11 := n0_; have BK265 := n1_; have HB := n2_; have BK295 := n3_; have GW295 := n4_; have GE295 := n5_; have NB265_295 := n6_; have NB295_265 := n7_; clear n0_ n1_ n2_ n3_ n4_ n5_ n6_ n7_; clear hb hbox hg; have hnb36 := NB295_265.out; have hnc36 := NB265_295.out; have hcz37_0 : w35.cell? ⟨gb295, 0, none⟩ = some (.int .i64 0) := (bc_ BK295.out 0).trans rfl; have hcz37_1 : w35.cell? ⟨gb295, 1, none⟩ = some (.int .i64 0) := (bc_ BK295.out 1).trans rfl; have hcz37_2 : w35.cell? ⟨gb295, 2, none⟩ = some (.string (⟨#[]⟩ : ByteArray)) := (bc_ BK295.out 2).trans rfl; have hcz37_3 : w35.cell? ⟨gb295, 3, none⟩ = some (.int .i64 0) := (bc_ BK295.out 3).trans rfl; have hcz37_4 : w35.cell? ⟨gb295, 4, none⟩ = some (.string (⟨#[]⟩ : ByteArray)) := (bc_ BK295.out 4).trans rfl; have hcz37_5 : w35.cell? ⟨gb295, 5, none⟩ = some (.bool false) := (bc_ BK295.out 5).trans rfl; have hfz37_0 := bf_ BK295.out 0; have hfz37_1 := bf_ BK295.out 1; have hfz37_2 := bf_ BK295.out 2; have hfz37_3 := bf_ BK295.out 3; have hfz37_4 := bf_ BK295.out 4; have hfz37_5 := bf_ BK295.out 5))
        (try simp only [Act.put, sa_, sb_, sc_])
        go_cut [116] (fun v116 wc => ∃ (kq : Nat) (x116_32 : Bool), v116 = .bool x116_32 ∧ Aside0 (pinfoldlaw15_OfferOthers.j2 kq l1 a2 a3 t267 t270 x14_1 x16_2 x116_32 t288 t289 t290 t291 t292 t293 = some r) ∧ Aside0 (kq ≤ k2) ∧ Aside0 (Kd.R k35 35 wc w.heap.size (fun k_ => k_ ≠ gb295) (.slice Ao29 t267.length co29) t267) ∧ Aside0 (wc.heap[gb265]? = some (.cells #[.int .i64 a0_0, .int .i64 a0_1, (.slice A0_2 l0_2.length c0_2), (.slice A0_3 l0_3.length c0_3), .int .i64 a0_4, .string a0_5, (.slice A0_6 l0_6.length c0_6)] 26 (0, 0))) ∧ Aside0 (wc.heap[gb295]? = some (.cells #[.int .i64 t288, .int .i64 t289, .string t290, .int .i64 t291, .string t292, .bool t293] 35 (0, 0))) ∧ Aside0 (Below w.heap.size w wc))
        case first =>
         have H := HC33.out
         clear HC33
         by_cases c38 : t294 = true
         ·subst c38
          have H1 : ((pinfoldref11_Live_c.f ((rd_T35 l1 x16_2).f0) ((rd_T35 l1 x16_2).f1) ((rd_T35 l1 x16_2).f2) ((rd_T35 l1 x16_2).f3) ((rd_T35 l1 x16_2).f4) ((rd_T35 l1 x16_2).f5) a2).bind fun t297 => (if t297 = true then (if ((rd_T35 l1 x16_2).f2).toList = a3.toList then (pinfoldlaw15_OfferOthers.j2 k2 l1 a2 a3 t267 t270 x14_1 x16_2 false t288 t289 t290 t291 t292 t293) else (pinfoldlaw15_OfferOthers.j2 k2 l1 a2 a3 t267 t270 x14_1 x16_2 (!(t288 == ((rd_T35 l1 x16_2).f0)) || (!(t289 == ((rd_T35 l1 x16_2).f1)) || (!(t290.toList == (((rd_T35 l1 x16_2).f2).toList)) || (!(t291 == ((rd_T35 l1 x16_2).f3)) || (!(t292.toList == (((rd_T35 l1 x16_2).f4).toList)) || (!(t293 == ((rd_T35 l1 x16_2).f5)))))))) t288 t289 t290 t291 t292 t293)) else (pinfoldlaw15_OfferOthers.j2 k2 l1 a2 a3 t267 t270 x14_1 x16_2 false t288 t289 t290 t291 t292 t293))) = some r := by rw [if_pos rfl] at H; exact H
          clear H
          have H := H1
          clear H1
          replace H := e4_ H
          obtain ⟨t297, A390, H⟩ := H
          replace H : (if t297 = true then (if ((rd_T35 l1 x16_2).f2).toList = a3.toList then (pinfoldlaw15_OfferOthers.j2 k2 l1 a2 a3 t267 t270 x14_1 x16_2 false t288 t289 t290 t291 t292 t293) else (pinfoldlaw15_OfferOthers.j2 k2 l1 a2 a3 t267 t270 x14_1 x16_2 (!(t288 == ((rd_T35 l1 x16_2).f0)) || (!(t289 == ((rd_T35 l1 x16_2).f1)) || (!(t290.toList == (((rd_T35 l1 x16_2).f2).toList)) || (!(t291 == ((rd_T35 l1 x16_2).f3)) || (!(t292.toList == (((rd_T35 l1 x16_2).f4).toList)) || (!(t293 == ((rd_T35 l1 x16_2).f5)))))))) t288 t289 t290 t291 t292 t293)) else (pinfoldlaw15_OfferOthers.j2 k2 l1 a2 a3 t267 t270 x14_1 x16_2 false t288 t289 t290 t291 t292 t293)) = some r := H
          have A39 := am_ A390
          clear A390
          by_cases c40 : t297 = true
          ·subst c40
           have H1 : (if ((rd_T35 l1 x16_2).f2).toList = a3.toList then (pinfoldlaw15_OfferOthers.j2 k2 l1 a2 a3 t267 t270 x14_1 x16_2 false t288 t289 t290 t291 t292 t293) else (pinfoldlaw15_OfferOthers.j2 k2 l1 a2 a3 t267 t270 x14_1 x16_2 (!(t288 == ((rd_T35 l1 x16_2).f0)) || (!(t289 == ((rd_T35 l1 x16_2).f1)) || (!(t290.toList == (((rd_T35 l1 x16_2).f2).toList)) || (!(t291 == ((rd_T35 l1 x16_2).f3)) || (!(t292.toList == (((rd_T35 l1 x16_2).f4).toList)) || (!(t293 == ((rd_T35 l1 x16_2).f5)))))))) t288 t289 t290 t291 t292 t293)) = some r := by rw [if_pos rfl] at H; exact H
           clear H
           have H := H1
           clear H1
           by_cases c41 : ((rd_T35 l1 x16_2).f2).toList = a3.toList
           ·rw [if_pos c41] at H
            have c41b0 : (((rd_T35 l1 x16_2).f2).toList == a3.toList) = true := beq_iff_eq.mpr c41
            have c41b1 : (((rd_T35 l1 x16_2).f2).toList != a3.toList) = false := e1_ c41
            clear c41
            (first | rw [c41b0] | (simp only [i64_w, i32_w]; rw [c41b0]) | skip)
            have H' := am_ H
            clear H
            try go_wp2
            have n0_ : Aside0 (Kd.R k35 35 ((((((w35.setCell ⟨gb295, 0, none⟩ (.int .i64 t288)).setCell ⟨gb295, 1, none⟩ (.int .i64 t289)).setCell ⟨gb295, 2, none⟩ (.string t290)).setCell ⟨gb295, 3, none⟩ (.int .i64 t291)).setCell ⟨gb295, 4, none⟩ (.string t292)).setCell ⟨gb295, 5, none⟩ (.bool t293)) w.heap.size (fun k_ => k_ ≠ gb295) (.slice Ao29 t267.length co29) t267) := ⟨by (with_reducible repeat (first | apply r1_ | apply r2_ | apply r3_)); exact Kd.R_mono (Kd.R_far (p := ⟨gb295, 5, none⟩) (Kd.R_far (p := ⟨gb295, 4, none⟩) (Kd.R_far (p := ⟨gb295, 3, none⟩) (Kd.R_far (p := ⟨gb295, 2, none⟩) (Kd.R_far (p := ⟨gb295, 1, none⟩) (Kd.R_far (p := ⟨gb295, 0, none⟩) (Kd.R_mono HO_11.out (fun k_ hk => (⟨hk, hk.2⟩ : _ ∧ k_ ≠ gb295))) (fun _ hk => hk.2) (.int .i64 t288)) (fun _ hk => hk.2) (.int .i64 t289)) (fun _ hk => hk.2) (.string t290)) (fun _ hk => hk.2) (.int .i64 t291)) (fun _ hk => hk.2) (.string t292)) (fun _ hk => hk.2) (.bool t293)) (fun _ hk => hk.1.2)⟩
            have n1_ : Aside0 (((((((w35.setCell ⟨gb295, 0, none⟩ (.int .i64 t288)).setCell ⟨gb295, 1, none⟩ (.int .i64 t289)).setCell ⟨gb295, 2, none⟩ (.string t290)).setCell ⟨gb295, 3, none⟩ (.int .i64 t291)).setCell ⟨gb295, 4, none⟩ (.string t292)).setCell ⟨gb295, 5, none⟩ (.bool t293)).heap[gb265]? = some (.cells #[.int .i64 a0_0, .int .i64 a0_1, .slice A0_2 l0_2.length c0_2, .slice A0_3 l0_3.length c0_3, .int .i64 a0_4, .string a0_5, .slice A0_6 l0_6.length c0_6] 26 (0, 0))) := ⟨by (with_reducible repeat (first | refine k2_ ?_ _ | refine k3_ ?_ | refine k1_ ?_ _)); refine blk_far ?_ NB265_295.out _; (with_reducible repeat (first | refine k2_ ?_ _ | refine k3_ ?_ | refine k1_ ?_ _)); refine blk_far ?_ NB265_295.out _; (with_reducible repeat (first | refine k2_ ?_ _ | refine k3_ ?_ | refine k1_ ?_ _)); refine blk_far ?_ NB265_295.out _; (with_reducible repeat (first | refine k2_ ?_ _ | refine k3_ ?_ | refine k1_ ?_ _)); refine blk_far ?_ NB265_295.out _; (with_reducible repeat (first | refine k2_ ?_ _ | refine k3_ ?_ | refine k1_ ?_ _)); refine blk_far ?_ NB265_295.out _; (with_reducible repeat (first | refine k2_ ?_ _ | refine k3_ ?_ | refine k1_ ?_ _)); refine blk_far ?_ NB265_295.out _; (with_reducible repeat (first | refine k2_ ?_ _ | refine k3_ ?_ | refine k1_ ?_ _)); exact BK265.out⟩
            have n2_ : Aside0 (((((((w35.setCell ⟨gb295, 0, none⟩ (.int .i64 t288)).setCell ⟨gb295, 1, none⟩ (.int .i64 t289)).setCell ⟨gb295, 2, none⟩ (.string t290)).setCell ⟨gb295, 3, none⟩ (.int .i64 t291)).setCell ⟨gb295, 4, none⟩ (.string t292)).setCell ⟨gb295, 5, none⟩ (.bool t293)).heap[gb295]? = some (.cells #[.int .i64 t288, .int .i64 t289, .string t290, .int .i64 t291, .string t292, .bool t293] 35 (0, 0))) := ⟨by (with_reducible repeat (first | refine k2_ ?_ _ | refine k3_ ?_ | refine k1_ ?_ _)); refine blk_put (cs := #[.int .i64 t288, .int .i64 t289, .string t290, .int .i64 t291, .string t292, .bool false]) ?_ 5 _ rfl; (with_reducible repeat (first | refine k2_ ?_ _ | refine k3_ ?_ | refine k1_ ?_ _)); refine blk_put (cs := #[.int .i64 t288, .int .i64 t289, .string t290, .int .i64 t291, .string (⟨#[]⟩ : ByteArray), .bool false]) ?_ 4 _ rfl; (with_reducible repeat (first | refine k2_ ?_ _ | refine k3_ ?_ | refine k1_ ?_ _)); refine blk_put (cs := #[.int .i64 t288, .int .i64 t289, .string t290, .int .i64 0, .string (⟨#[]⟩ : ByteArray), .bool false]) ?_ 3 _ rfl; (with_reducible repeat (first | refine k2_ ?_ _ | refine k3_ ?_ | refine k1_ ?_ _)); refine blk_put (cs := #[.int .i64 t288, .int .i64 t289, .string (⟨#[]⟩ : ByteArray), .int .i64 0, .string (⟨#[]⟩ : ByteArray), .bool false]) ?_ 2 _ rfl; (with_reducible repeat (first | refine k2_ ?_ _ | refine k3_ ?_ | refine k1_ ?_ _)); refine blk_put (cs := #[.int .i64 t288, .int .i64 0, .string (⟨#[]⟩ : ByteArray), .int .i64 0, .string (⟨#[]⟩ : ByteArray), .bool false]) ?_ 1 _ rfl; (with_reducible repeat (first | refine k2_ ?_ _ | refine k3_ ?_ | refine k1_ ?_ _)); refine blk_put (cs := #[.int .i64 0, .int .i64 0, .string (⟨#[]⟩ : ByteArray), .int .i64 0, .string (⟨#[]⟩ : ByteArray), .bool false]) ?_ 0 _ rfl; (with_reducible repeat (first | refine k2_ ?_ _ | refine k3_ ?_ | refine k1_ ?_ _)); exact BK295.out⟩
            have n3_ : Aside0 (Below w.heap.size w ((((((w35.setCell ⟨gb295, 0, none⟩ (.int .i64 t288)).setCell ⟨gb295, 1, none⟩ (.int .i64 t289)).setCell ⟨gb295, 2, none⟩ (.string t290)).setCell ⟨gb295, 3, none⟩ (.int .i64 t291)).setCell ⟨gb295, 4, none⟩ (.string t292)).setCell ⟨gb295, 5, none⟩ (.bool t293))) := ⟨by repeat (with_reducible first | exact HB.out | apply p3_ | apply p1_ | apply p2_ | refine bs_ ?_ GE265.out | refine bs_ ?_ GE295.out)⟩
            (try clear HO_11)
            (try clear BK265)
            (try clear BK295)
            (try clear HB)
            generalize ((((((w35.setCell ⟨gb295, 0, none⟩ (.int .i64 t288)).setCell ⟨gb295, 1, none⟩ (.int .i64 t289)).setCell ⟨gb295, 2, none⟩ (.string t290)).setCell ⟨gb295, 3, none⟩ (.int .i64 t291)).setCell ⟨gb295, 4, none⟩ (.string t292)).setCell ⟨gb295, 5, none⟩ (.bool t293)) = w42 at n0_ n1_ n2_ n3_ ⊢
            have HO_11 := n0_
            have BK265 := n1_
            have BK295 := n2_
            have HB := n3_
            clear n0_ n1_ n2_ n3_
            have n0_ := am_ (r3_ HO_11.out)
            have n1_ := am_ (k3_ BK265.out)
            have n2_ := am_ (k3_ BK295.out)
            have n3_ := am_ (p2_ HB.out)
            clear HO_11
            clear BK265
            clear BK295
            clear HB
            have HO_11 := n0_
            have BK265 := n1_
            have BK295 := n2_
            have HB := n3_
            clear n0_ n1_ n2_ n3_
            have p296 : 0 ≤ (x16_2 : Int) := of_decide_eq_true (by first | (with_reducible assumption) | assumption)
            have q296 : x16_2 < (l1.length : Int) := of_decide_eq_true (by first | (with_reducible assumption) | assumption)
            obtain ⟨ad296, e296, hx296_0, hx296_1, hx296_2, hx296_3, hx296_4, hx296_5⟩ := at_T35 HR1.out x16_2 p296 q296
            have hw296_5 := hx296_5
            have hw296_4 := hx296_4
            have hw296_3 := hx296_3
            have hw296_2 := hx296_2
            have hw296_1 := hx296_1
            have hw296_0 := hx296_0
            obtain rfl : ad287 = ad296 := (by injection e296)
            replace hx296_0 := (HB.out.cell (wb_ w _ hx296_0)).trans hx296_0
            replace hx296_1 := (HB.out.cell (wb_ w _ hx296_1)).trans hx296_1
            replace hx296_2 := (HB.out.cell (wb_ w _ hx296_2)).trans hx296_2
            replace hx296_3 := (HB.out.cell (wb_ w _ hx296_3)).trans hx296_3
            replace hx296_4 := (HB.out.cell (wb_ w _ hx296_4)).trans hx296_4
            replace hx296_5 := (HB.out.cell (wb_ w _ hx296_5)).trans hx296_5
            replace p296 := eq_true p296
            replace q296 := eq_true q296
            have p298 : 0 ≤ (x16_2 : Int) := of_decide_eq_true (by first | (with_reducible assumption) | assumption)
            have q298 : x16_2 < (l1.length : Int) := of_decide_eq_true (by first | (with_reducible assumption) | assumption)
            obtain ⟨ad298, e298, hx298_0, hx298_1, hx298_2, hx298_3, hx298_4, hx298_5⟩ := at_T35 HR1.out x16_2 p298 q298
            have hw298_5 := hx298_5
            have hw298_4 := hx298_4
            have hw298_3 := hx298_3
            have hw298_2 := hx298_2
            have hw298_1 := hx298_1
            have hw298_0 := hx298_0
            obtain rfl : ad287 = ad298 := (by injection e298)
            replace hx298_0 := (HB.out.cell (wb_ w _ hx298_0)).trans hx298_0
            replace hx298_1 := (HB.out.cell (wb_ w _ hx298_1)).trans hx298_1
            replace hx298_2 := (HB.out.cell (wb_ w _ hx298_2)).trans hx298_2
            replace hx298_3 := (HB.out.cell (wb_ w _ hx298_3)).trans hx298_3
            replace hx298_4 := (HB.out.cell (wb_ w _ hx298_4)).trans hx298_4
            replace hx298_5 := (HB.out.cell (wb_ w _ hx298_5)).trans hx298_5
            replace p298 := eq_true p298
            replace q298 := eq_true q298
            refine start_ (n := 27) (S := fun w' => w'.cell? (ad287.add ((x16_2).toNat * 6)) = some (.int .i64 ((rd_T35 l1 x16_2).f0)) ∧ w'.cell? ⟨(ad287.add ((x16_2).toNat * 6)).block, (ad287.add ((x16_2).toNat * 6)).off + 1, none⟩ = some (.int .i64 ((rd_T35 l1 x16_2).f1)) ∧ w'.cell? ⟨(ad287.add ((x16_2).toNat * 6)).block, (ad287.add ((x16_2).toNat * 6)).off + 2, none⟩ = some (.string ((rd_T35 l1 x16_2).f2)) ∧ w'.cell? ⟨(ad287.add ((x16_2).toNat * 6)).block, (ad287.add ((x16_2).toNat * 6)).off + 3, none⟩ = some (.int .i64 ((rd_T35 l1 x16_2).f3)) ∧ w'.cell? ⟨(ad287.add ((x16_2).toNat * 6)).block, (ad287.add ((x16_2).toNat * 6)).off + 4, none⟩ = some (.string ((rd_T35 l1 x16_2).f4)) ∧ w'.cell? ⟨(ad287.add ((x16_2).toNat * 6)).block, (ad287.add ((x16_2).toNat * 6)).off + 5, none⟩ = some (.bool ((rd_T35 l1 x16_2).f5)) ∧ w'.cell? (ad287.add ((x16_2).toNat * 6)) = some (.int .i64 ((rd_T35 l1 x16_2).f0)) ∧ w'.cell? ⟨(ad287.add ((x16_2).toNat * 6)).block, (ad287.add ((x16_2).toNat * 6)).off + 1, none⟩ = some (.int .i64 ((rd_T35 l1 x16_2).f1)) ∧ w'.cell? ⟨(ad287.add ((x16_2).toNat * 6)).block, (ad287.add ((x16_2).toNat * 6)).off + 2, none⟩ = some (.string ((rd_T35 l1 x16_2).f2)) ∧ w'.cell? ⟨(ad287.add ((x16_2).toNat * 6)).block, (ad287.add ((x16_2).toNat * 6)).off + 3, none⟩ = some (.int .i64 ((rd_T35 l1 x16_2).f3)) ∧ w'.cell? ⟨(ad287.add ((x16_2).toNat * 6)).block, (ad287.add ((x16_2).toNat * 6)).off + 4, none⟩ = some (.string ((rd_T35 l1 x16_2).f4)) ∧ w'.cell? ⟨(ad287.add ((x16_2).toNat * 6)).block, (ad287.add ((x16_2).toNat * 6)).off + 5, none⟩ = some (.bool ((rd_T35 l1 x16_2).f5))) (ds := []) #[false, false, false, false, false, false, false, false, false, false, false, false, false, false, false, false, false, false, false, false, false, false, false, false, false, false, false] (by kernel_rfl) rfl rfl ⟨((HB.out.cell (wb_ w _ hw296_0)).trans hw296_0), ((HB.out.cell (wb_ w _ hw296_1)).trans hw296_1), ((HB.out.cell (wb_ w _ hw296_2)).trans hw296_2), ((HB.out.cell (wb_ w _ hw296_3)).trans hw296_3), ((HB.out.cell (wb_ w _ hw296_4)).trans hw296_4), ((HB.out.cell (wb_ w _ hw296_5)).trans hw296_5), ((HB.out.cell (wb_ w _ hw298_0)).trans hw298_0), ((HB.out.cell (wb_ w _ hw298_1)).trans hw298_1), ((HB.out.cell (wb_ w _ hw298_2)).trans hw298_2), ((HB.out.cell (wb_ w _ hw298_3)).trans hw298_3), ((HB.out.cell (wb_ w _ hw298_4)).trans hw298_4), ((HB.out.cell (wb_ w _ hw298_5)).trans hw298_5)⟩ (fun hHeld => ?_); refine with_tabW pinfoldlaw15_OfferOthers.tab16 pinfoldlaw15_OfferOthers.bits16 (fun HT_ HW_ => ?_)
            generalize w42.drew = w43 at HO_11 BK265 BK295 HB hx296_0 hx296_1 hx296_2 hx296_3 hx296_4 hx296_5 hx298_0 hx298_1 hx298_2 hx298_3 hx298_4 hx298_5 hHeld ⊢
            refine pure_ (i := 0) (N := some 90) (v := ?_) (a' := ?_) #[true, false, false, false, false, false, false, false, false, false, false, false, false, false, false, false, false, false, false, false, false, false, false, false, false, false, false] rfl rfl (any_of HT_.out (by kernel_rfl)) (fun _ _ _ h => h) (Or.inl ⟨by rfl, ?_⟩) ?_ ?_
            rotate_left
            ·intro w'
             go_simp
             with_reducible rfl
            rotate_left
            ·simp only [Act.put, sa_, sb_, sc_, i64_w, i32_w]
             rfl
            refine pure_ (i := 1) (N := some 91) (v := ?_) (a' := ?_) #[true, true, false, false, false, false, false, false, false, false, false, false, false, false, false, false, false, false, false, false, false, false, false, false, false, false, false] rfl rfl (any_of HT_.out (by kernel_rfl)) (fun _ _ _ h => h) (Or.inl ⟨by rfl, ?_⟩) ?_ ?_
            rotate_left
            ·intro w'
             go_simp
             with_reducible rfl
            rotate_left
            ·simp only [Act.put, sa_, sb_, sc_, i64_w, i32_w]
             rfl
            refine pure_ (i := 2) (N := some 92) (v := ?_) (a' := ?_) #[true, true, true, false, false, false, false, false, false, false, false, false, false, false, false, false, false, false, false, false, false, false, false, false, false, false, false] rfl rfl (any_of HT_.out (by kernel_rfl)) (fun _ _ _ h => h) (Or.inl ⟨by rfl, ?_⟩) ?_ ?_
            rotate_left
            ·intro w'
             go_simp
             with_reducible rfl
            rotate_left
            ·simp only [Act.put, sa_, sb_, sc_, i64_w, i32_w]
             rfl
            refine pure_ (i := 3) (N := some 93) (v := ?_) (a' := ?_) #[true, true, true, true, false, false, false, false, false, false, false, false, false, false, false, false, false, false, false, false, false, false, false, false, false, false, false] rfl rfl (any_of HT_.out (by kernel_rfl)) (fun _ _ _ h => h) (Or.inl ⟨by rfl, ?_⟩) ?_ ?_
            rotate_left
            ·intro w'
             go_simp
             with_reducible rfl
            rotate_left
            ·simp only [Act.put, sa_, sb_, sc_, i64_w, i32_w]
             rfl
            refine pure_ (i := 4) (N := some 94) (v := ?_) (a' := ?_) #[true, true, true, true, true, false, false, false, false, false, false, false, false, false, false, false, false, false, false, false, false, false, false, false, false, false, false] rfl rfl (any_of HT_.out (by kernel_rfl)) (fun _ _ _ h => h) (Or.inl ⟨by rfl, ?_⟩) ?_ ?_
            rotate_left
            ·intro w'
             go_simp
             with_reducible rfl
            rotate_left
            ·simp only [Act.put, sa_, sb_, sc_, i64_w, i32_w]
             rfl
            refine pure_ (i := 5) (N := some 95) (v := ?_) (a' := ?_) #[true, true, true, true, true, true, false, false, false, false, false, false, false, false, false, false, false, false, false, false, false, false, false, false, false, false, false] rfl rfl (any_of HT_.out (by kernel_rfl)) (fun _ _ _ h => h) (Or.inl ⟨by rfl, ?_⟩) ?_ ?_
            rotate_left
            ·intro w'
             go_simp
             with_reducible rfl
            rotate_left
            ·simp only [Act.put, sa_, sb_, sc_, i64_w, i32_w]
             rfl
            refine pure_ (i := 7) (N := some 97) (v := ?_) (a' := ?_) #[true, true, true, true, true, true, false, true, false, false, false, false, false, false, false, false, false, false, false, false, false, false, false, false, false, false, false] rfl rfl (any_of HT_.out (by kernel_rfl)) (fun _ _ _ h => h) (Or.inl ⟨by rfl, ?_⟩) ?_ ?_
            rotate_left
            ·intro w'
             go_simp
             with_reducible rfl
            rotate_left
            ·simp only [Act.put, sa_, sb_, sc_, i64_w, i32_w]
             rfl
            refine take_ (i := 6) (N := some 96) (v := ?_) (a' := ?_) #[true, true, true, true, true, true, true, true, false, false, false, false, false, false, false, false, false, false, false, false, false, false, false, false, false, false, false] rfl rfl (take_ofW HT_.out HW_.out (by kernel_rfl)) (fun _ _ _ h => h) (Or.inl ⟨by rfl, ?_⟩) hHeld ?_ ?_
            rotate_left
            ·rintro w' ⟨s0, s1, s2, s3, s4, s5, s6, s7, s8, s9, s10, s11⟩
             go_simp
             with_reducible rfl
            rotate_left
            ·simp only [Act.put, sa_, sb_, sc_, i64_w, i32_w]
             rfl
            refine one_ (i := 8) (N := some 98) #[true, true, true, true, true, true, true, true, true, false, false, false, false, false, false, false, false, false, false, false, false, false, false, false, false, false, false] rfl rfl (one_of HT_.out (by kernel_rfl)) (by decide) (fun K hK => ?_)
            refine goes_ Tryd.func9 (by kernel_rfl) rfl #[.agg #[.int .i64 ((rd_T35 l1 x16_2).f0), .int .i64 ((rd_T35 l1 x16_2).f1), .string ((rd_T35 l1 x16_2).f2), .int .i64 ((rd_T35 l1 x16_2).f3), .string ((rd_T35 l1 x16_2).f4), .bool ((rd_T35 l1 x16_2).f5)], .int .i64 a2] (by rfl) rfl rfl (by (try simp only [List.map_toArray, List.map_cons, List.map_nil]); first | done | rfl | (simp only [List.length_drop, List.length_take]; rfl)) ?_
            with_reducible refine (pinfoldref11_Live_c.calls ((rd_T35 l1 x16_2).f0) ((rd_T35 l1 x16_2).f1) ((rd_T35 l1 x16_2).f2) ((rd_T35 l1 x16_2).f3) ((rd_T35 l1 x16_2).f4) ((rd_T35 l1 x16_2).f5) a2 true _ A39.out).mono ?_
            rintro e w44 ⟨rfl, hb⟩
            refine ⟨_, rfl, ?_⟩
            have n0_ := am_ (Kd.R_below (by (with_reducible repeat (first | apply r1_ | apply r2_ | apply r3_)); exact HO_11.out) hb)
            have n1_ := am_ (kb_ (g := gb265) (o := .cells #[.int .i64 a0_0, .int .i64 a0_1, .slice A0_2 l0_2.length c0_2, .slice A0_3 l0_3.length c0_3, .int .i64 a0_4, .string a0_5, .slice A0_6 l0_6.length c0_6] 26 (0, 0)) (by (with_reducible repeat (first | refine k2_ ?_ _ | refine k3_ ?_ | refine k1_ ?_ _)); exact BK265.out) hb)
            have n2_ := am_ (kb_ (g := gb295) (o := .cells #[.int .i64 t288, .int .i64 t289, .string t290, .int .i64 t291, .string t292, .bool t293] 35 (0, 0)) (by (with_reducible repeat (first | refine k2_ ?_ _ | refine k3_ ?_ | refine k1_ ?_ _)); exact BK295.out) hb)
            have n3_ := am_ (bt_ (by repeat (with_reducible first | exact HB.out | apply p3_ | apply p1_ | apply p2_ | refine bs_ ?_ GE265.out | refine bs_ ?_ GE295.out)) hb)
            clear HO_11
            clear BK265
            clear BK295
            clear HB
            have HO_11 := n0_
            have BK265 := n1_
            have BK295 := n2_
            have HB := n3_
            clear n0_ n1_ n2_ n3_
            (try clear hb)
            (try clear hb2)
            (try clear hk)
            (try clear hi)
            refine hK.out _ _ ⟨((HB.out.cell (wb_ w _ hw296_0)).trans hw296_0), ((HB.out.cell (wb_ w _ hw296_1)).trans hw296_1), ((HB.out.cell (wb_ w _ hw296_2)).trans hw296_2), ((HB.out.cell (wb_ w _ hw296_3)).trans hw296_3), ((HB.out.cell (wb_ w _ hw296_4)).trans hw296_4), ((HB.out.cell (wb_ w _ hw296_5)).trans hw296_5), ((HB.out.cell (wb_ w _ hw298_0)).trans hw298_0), ((HB.out.cell (wb_ w _ hw298_1)).trans hw298_1), ((HB.out.cell (wb_ w _ hw298_2)).trans hw298_2), ((HB.out.cell (wb_ w _ hw298_3)).trans hw298_3), ((HB.out.cell (wb_ w _ hw298_4)).trans hw298_4), ((HB.out.cell (wb_ w _ hw298_5)).trans hw298_5)⟩ (fun hHeld => ?_)
            clear hK K
            refine norm_ (a' := ?_) ?_ ?_
            rotate_left
            ·show Act.put _ (some 98) _ = _
             simp only [Act.put, sa_, sb_, sc_, i64_w, i32_w]
             rfl
            refine pure_ (i := 9) (N := some 99) (v := ?_) (a' := ?_) #[true, true, true, true, true, true, true, true, true, true, false, false, false, false, false, false, false, false, false, false, false, false, false, false, false, false, false] rfl rfl (any_of HT_.out (by kernel_rfl)) (fun _ _ _ h => h) (Or.inl ⟨by rfl, ?_⟩) ?_ ?_
            rotate_left
            ·intro w'
             go_simp
             with_reducible rfl
            rotate_left
            ·simp only [Act.put, sa_, sb_, sc_, i64_w, i32_w]
             rfl
            refine pure_ (i := 10) (N := some 100) (v := ?_) (a' := ?_) #[true, true, true, true, true, true, true, true, true, true, true, false, false, false, false, false, false, false, false, false, false, false, false, false, false, false, false] rfl rfl (any_of HT_.out (by kernel_rfl)) (fun _ _ _ h => h) (Or.inl ⟨by rfl, ?_⟩) ?_ ?_
            rotate_left
            ·intro w'
             go_simp
             with_reducible rfl
            rotate_left
            ·simp only [Act.put, sa_, sb_, sc_, i64_w, i32_w]
             rfl
            refine pure_ (i := 11) (N := some 101) (v := ?_) (a' := ?_) #[true, true, true, true, true, true, true, true, true, true, true, true, false, false, false, false, false, false, false, false, false, false, false, false, false, false, false] rfl rfl (any_of HT_.out (by kernel_rfl)) (fun _ _ _ h => h) (Or.inl ⟨by rfl, ?_⟩) ?_ ?_
            rotate_left
            ·intro w'
             go_simp
             with_reducible rfl
            rotate_left
            ·simp only [Act.put, sa_, sb_, sc_, i64_w, i32_w]
             rfl
            refine pure_ (i := 12) (N := some 102) (v := ?_) (a' := ?_) #[true, true, true, true, true, true, true, true, true, true, true, true, true, false, false, false, false, false, false, false, false, false, false, false, false, false, false] rfl rfl (any_of HT_.out (by kernel_rfl)) (fun _ _ _ h => h) (Or.inl ⟨by rfl, ?_⟩) ?_ ?_
            rotate_left
            ·intro w'
             go_simp
             with_reducible rfl
            rotate_left
            ·simp only [Act.put, sa_, sb_, sc_, i64_w, i32_w]
             rfl
            refine pure_ (i := 13) (N := some 103) (v := ?_) (a' := ?_) #[true, true, true, true, true, true, true, true, true, true, true, true, true, true, false, false, false, false, false, false, false, false, false, false, false, false, false] rfl rfl (any_of HT_.out (by kernel_rfl)) (fun _ _ _ h => h) (Or.inl ⟨by rfl, ?_⟩) ?_ ?_
            rotate_left
            ·intro w'
             go_simp
             with_reducible rfl
            rotate_left
            ·simp only [Act.put, sa_, sb_, sc_, i64_w, i32_w]
             rfl
            refine pure_ (i := 15) (N := some 105) (v := ?_) (a' := ?_) #[true, true, true, true, true, true, true, true, true, true, true, true, true, true, false, true, false, false, false, false, false, false, false, false, false, false, false] rfl rfl (any_of HT_.out (by kernel_rfl)) (fun _ _ _ h => h) (Or.inl ⟨by rfl, ?_⟩) ?_ ?_
            rotate_left
            ·intro w'
             go_simp
             with_reducible rfl
            rotate_left
            ·simp only [Act.put, sa_, sb_, sc_, i64_w, i32_w]
             rfl
            refine take_ (i := 14) (N := some 104) (v := ?_) (a' := ?_) #[true, true, true, true, true, true, true, true, true, true, true, true, true, true, true, true, false, false, false, false, false, false, false, false, false, false, false] rfl rfl (take_ofW HT_.out HW_.out (by kernel_rfl)) (fun _ _ _ h => h) (Or.inl ⟨by rfl, ?_⟩) hHeld ?_ ?_
            rotate_left
            ·rintro w' ⟨s0, s1, s2, s3, s4, s5, s6, s7, s8, s9, s10, s11⟩
             go_simp
             with_reducible rfl
            rotate_left
            ·simp only [Act.put, sa_, sb_, sc_, i64_w, i32_w]
             rfl
            refine pure_ (i := 16) (N := some 106) (v := ?_) (a' := ?_) #[true, true, true, true, true, true, true, true, true, true, true, true, true, true, true, true, true, false, false, false, false, false, false, false, false, false, false] rfl rfl (any_of HT_.out (by kernel_rfl)) (fun _ _ _ h => h) (Or.inl ⟨by rfl, ?_⟩) ?_ ?_
            rotate_left
            ·intro w'
             go_simp
             with_reducible rfl
            rotate_left
            ·simp only [Act.put, sa_, sb_, sc_, i64_w, i32_w]
             rfl
            refine pure_ (i := 17) (N := some 107) (v := ?_) (a' := ?_) #[true, true, true, true, true, true, true, true, true, true, true, true, true, true, true, true, true, true, false, false, false, false, false, false, false, false, false] rfl rfl (any_of HT_.out (by kernel_rfl)) (fun _ _ _ h => h) (Or.inl ⟨by rfl, ?_⟩) ?_ ?_
            rotate_left
            ·intro w'
             go_simp
             with_reducible rfl
            rotate_left
            ·simp only [Act.put, sa_, sb_, sc_, i64_w, i32_w]
             rfl
            refine pure_ (i := 18) (N := some 108) (v := ?_) (a' := ?_) #[true, true, true, true, true, true, true, true, true, true, true, true, true, true, true, true, true, true, true, false, false, false, false, false, false, false, false] rfl rfl (any_of HT_.out (by kernel_rfl)) (fun _ _ _ h => h) (Or.inl ⟨by rfl, ?_⟩) ?_ ?_
            rotate_left
            ·intro w'
             go_simp
             with_reducible rfl
            rotate_left
            ·simp only [Act.put, sa_, sb_, sc_, i64_w, i32_w]
             rfl
            refine pure_ (i := 19) (N := some 109) (v := undef) (a' := ?_) #[true, true, true, true, true, true, true, true, true, true, true, true, true, true, true, true, true, true, true, true, false, false, false, false, false, false, false] rfl rfl (any_of HT_.out (by kernel_rfl)) (fun _ _ _ h => h) (Or.inr ⟨by rfl, rfl⟩) ?_ ?_
            rotate_left
            ·simp only [Act.put, sa_, sb_, sc_, i64_w, i32_w]
             rfl
            refine pure_ (i := 20) (N := some 110) (v := undef) (a' := ?_) #[true, true, true, true, true, true, true, true, true, true, true, true, true, true, true, true, true, true, true, true, true, false, false, false, false, false, false] rfl rfl (any_of HT_.out (by kernel_rfl)) (fun _ _ _ h => h) (Or.inr ⟨by rfl, rfl⟩) ?_ ?_
            rotate_left
            ·simp only [Act.put, sa_, sb_, sc_, i64_w, i32_w]
             rfl
            refine pure_ (i := 21) (N := some 111) (v := undef) (a' := ?_) #[true, true, true, true, true, true, true, true, true, true, true, true, true, true, true, true, true, true, true, true, true, true, false, false, false, false, false] rfl rfl (any_of HT_.out (by kernel_rfl)) (fun _ _ _ h => h) (Or.inr ⟨by rfl, rfl⟩) ?_ ?_
            rotate_left
            ·simp only [Act.put, sa_, sb_, sc_, i64_w, i32_w]
             rfl
            refine pure_ (i := 22) (N := some 112) (v := undef) (a' := ?_) #[true, true, true, true, true, true, true, true, true, true, true, true, true, true, true, true, true, true, true, true, true, true, true, false, false, false, false] rfl rfl (any_of HT_.out (by kernel_rfl)) (fun _ _ _ h => h) (Or.inr ⟨by rfl, rfl⟩) ?_ ?_
            rotate_left
            ·simp only [Act.put, sa_, sb_, sc_, i64_w, i32_w]
             rfl
            refine pure_ (i := 23) (N := some 113) (v := undef) (a' := ?_) #[true, true, true, true, true, true, true, true, true, true, true, true, true, true, true, true, true, true, true, true, true, true, true, true, false, false, false] rfl rfl (any_of HT_.out (by kernel_rfl)) (fun _ _ _ h => h) (Or.inr ⟨by rfl, rfl⟩) ?_ ?_
            rotate_left
            ·simp only [Act.put, sa_, sb_, sc_, i64_w, i32_w]
             rfl
            refine pure_ (i := 24) (N := some 114) (v := undef) (a' := ?_) #[true, true, true, true, true, true, true, true, true, true, true, true, true, true, true, true, true, true, true, true, true, true, true, true, true, false, false] rfl rfl (any_of HT_.out (by kernel_rfl)) (fun _ _ _ h => h) (Or.inr ⟨by rfl, rfl⟩) ?_ ?_
            rotate_left
            ·simp only [Act.put, sa_, sb_, sc_, i64_w, i32_w]
             rfl
            refine pure_ (i := 25) (N := some 115) (v := ?_) (a' := ?_) #[true, true, true, true, true, true, true, true, true, true, true, true, true, true, true, true, true, true, true, true, true, true, true, true, true, true, false] rfl rfl (any_of HT_.out (by kernel_rfl)) (fun _ _ _ h => h) (Or.inl ⟨by rfl, ?_⟩) ?_ ?_
            rotate_left
            ·intro w'
             go_simp
             with_reducible rfl
            rotate_left
            ·simp only [Act.put, sa_, sb_, sc_, i64_w, i32_w]
             rfl
            refine pure_ (i := 26) (N := some 116) (v := ?_) (a' := ?_) #[true, true, true, true, true, true, true, true, true, true, true, true, true, true, true, true, true, true, true, true, true, true, true, true, true, true, true] rfl rfl (any_of HT_.out (by kernel_rfl)) (fun _ _ _ h => h) (Or.inl ⟨by rfl, ?_⟩) ?_ ?_
            rotate_left
            ·intro w'
             go_simp
             with_reducible rfl
            rotate_left
            ·simp only [Act.put, sa_, sb_, sc_, i64_w, i32_w]
             rfl
            refine done_ (done_of HT_.out (by kernel_rfl)) ?_
            try go_wp2
            go_meet
            case rel => exact ⟨_, (false), (by first | rfl | (simp; done) | (simp [*]; done)), H', ⟨by have := HK1.out; have := HK2.out; first | omega | exact Nat.le_refl _⟩, ⟨by (with_reducible repeat (first | apply r1_ | apply r2_ | apply r3_)); exact HO_11.out⟩, ⟨by (with_reducible repeat (first | refine k2_ ?_ _ | refine k3_ ?_ | refine k1_ ?_ _)); exact BK265.out⟩, ⟨by (with_reducible repeat (first | refine k2_ ?_ _ | refine k3_ ?_ | refine k1_ ?_ _)); exact BK295.out⟩, ⟨by repeat (with_reducible first | exact HB.out | apply p3_ | apply p1_ | apply p2_ | refine bs_ ?_ GE265.out | refine bs_ ?_ GE295.out)⟩⟩
           rw [if_neg c41] at H
           have c41b0 : (((rd_T35 l1 x16_2).f2).toList == a3.toList) = false := e2_ c41
           have c41b1 : (((rd_T35 l1 x16_2).f2).toList != a3.toList) = true := bne_iff_ne.mpr c41
           (first | rw [c41b0] | (simp only [i64_w, i32_w]; rw [c41b0]) | skip)
           have H' := am_ H
           clear H
           try go_wp2
           have n0_ : Aside0 (Kd.R k35 35 ((((((w35.setCell ⟨gb295, 0, none⟩ (.int .i64 t288)).setCell ⟨gb295, 1, none⟩ (.int .i64 t289)).setCell ⟨gb295, 2, none⟩ (.string t290)).setCell ⟨gb295, 3, none⟩ (.int .i64 t291)).setCell ⟨gb295, 4, none⟩ (.string t292)).setCell ⟨gb295, 5, none⟩ (.bool t293)) w.heap.size (fun k_ => k_ ≠ gb295) (.slice Ao29 t267.length co29) t267) := ⟨by (with_reducible repeat (first | apply r1_ | apply r2_ | apply r3_)); exact Kd.R_mono (Kd.R_far (p := ⟨gb295, 5, none⟩) (Kd.R_far (p := ⟨gb295, 4, none⟩) (Kd.R_far (p := ⟨gb295, 3, none⟩) (Kd.R_far (p := ⟨gb295, 2, none⟩) (Kd.R_far (p := ⟨gb295, 1, none⟩) (Kd.R_far (p := ⟨gb295, 0, none⟩) (Kd.R_mono HO_11.out (fun k_ hk => (⟨hk, hk.2⟩ : _ ∧ k_ ≠ gb295))) (fun _ hk => hk.2) (.int .i64 t288)) (fun _ hk => hk.2) (.int .i64 t289)) (fun _ hk => hk.2) (.string t290)) (fun _ hk => hk.2) (.int .i64 t291)) (fun _ hk => hk.2) (.string t292)) (fun _ hk => hk.2) (.bool t293)) (fun _ hk => hk.1.2)⟩
           have n1_ : Aside0 (((((((w35.setCell ⟨gb295, 0, none⟩ (.int .i64 t288)).setCell ⟨gb295, 1, none⟩ (.int .i64 t289)).setCell ⟨gb295, 2, none⟩ (.string t290)).setCell ⟨gb295, 3, none⟩ (.int .i64 t291)).setCell ⟨gb295, 4, none⟩ (.string t292)).setCell ⟨gb295, 5, none⟩ (.bool t293)).heap[gb265]? = some (.cells #[.int .i64 a0_0, .int .i64 a0_1, .slice A0_2 l0_2.length c0_2, .slice A0_3 l0_3.length c0_3, .int .i64 a0_4, .string a0_5, .slice A0_6 l0_6.length c0_6] 26 (0, 0))) := ⟨by (with_reducible repeat (first | refine k2_ ?_ _ | refine k3_ ?_ | refine k1_ ?_ _)); refine blk_far ?_ NB265_295.out _; (with_reducible repeat (first | refine k2_ ?_ _ | refine k3_ ?_ | refine k1_ ?_ _)); refine blk_far ?_ NB265_295.out _; (with_reducible repeat (first | refine k2_ ?_ _ | refine k3_ ?_ | refine k1_ ?_ _)); refine blk_far ?_ NB265_295.out _; (with_reducible repeat (first | refine k2_ ?_ _ | refine k3_ ?_ | refine k1_ ?_ _)); refine blk_far ?_ NB265_295.out _; (with_reducible repeat (first | refine k2_ ?_ _ | refine k3_ ?_ | refine k1_ ?_ _)); refine blk_far ?_ NB265_295.out _; (with_reducible repeat (first | refine k2_ ?_ _ | refine k3_ ?_ | refine k1_ ?_ _)); refine blk_far ?_ NB265_295.out _; (with_reducible repeat (first | refine k2_ ?_ _ | refine k3_ ?_ | refine k1_ ?_ _)); exact BK265.out⟩
           have n2_ : Aside0 (((((((w35.setCell ⟨gb295, 0, none⟩ (.int .i64 t288)).setCell ⟨gb295, 1, none⟩ (.int .i64 t289)).setCell ⟨gb295, 2, none⟩ (.string t290)).setCell ⟨gb295, 3, none⟩ (.int .i64 t291)).setCell ⟨gb295, 4, none⟩ (.string t292)).setCell ⟨gb295, 5, none⟩ (.bool t293)).heap[gb295]? = some (.cells #[.int .i64 t288, .int .i64 t289, .string t290, .int .i64 t291, .string t292, .bool t293] 35 (0, 0))) := ⟨by (with_reducible repeat (first | refine k2_ ?_ _ | refine k3_ ?_ | refine k1_ ?_ _)); refine blk_put (cs := #[.int .i64 t288, .int .i64 t289, .string t290, .int .i64 t291, .string t292, .bool false]) ?_ 5 _ rfl; (with_reducible repeat (first | refine k2_ ?_ _ | refine k3_ ?_ | refine k1_ ?_ _)); refine blk_put (cs := #[.int .i64 t288, .int .i64 t289, .string t290, .int .i64 t291, .string (⟨#[]⟩ : ByteArray), .bool false]) ?_ 4 _ rfl; (with_reducible repeat (first | refine k2_ ?_ _ | refine k3_ ?_ | refine k1_ ?_ _)); refine blk_put (cs := #[.int .i64 t288, .int .i64 t289, .string t290, .int .i64 0, .string (⟨#[]⟩ : ByteArray), .bool false]) ?_ 3 _ rfl; (with_reducible repeat (first | refine k2_ ?_ _ | refine k3_ ?_ | refine k1_ ?_ _)); refine blk_put (cs := #[.int .i64 t288, .int .i64 t289, .string (⟨#[]⟩ : ByteArray), .int .i64 0, .string (⟨#[]⟩ : ByteArray), .bool false]) ?_ 2 _ rfl; (with_reducible repeat (first | refine k2_ ?_ _ | refine k3_ ?_ | refine k1_ ?_ _)); refine blk_put (cs := #[.int .i64 t288, .int .i64 0, .string (⟨#[]⟩ : ByteArray), .int .i64 0, .string (⟨#[]⟩ : ByteArray), .bool false]) ?_ 1 _ rfl; (with_reducible repeat (first | refine k2_ ?_ _ | refine k3_ ?_ | refine k1_ ?_ _)); refine blk_put (cs := #[.int .i64 0, .int .i64 0, .string (⟨#[]⟩ : ByteArray), .int .i64 0, .string (⟨#[]⟩ : ByteArray), .bool false]) ?_ 0 _ rfl; (with_reducible repeat (first | refine k2_ ?_ _ | refine k3_ ?_ | refine k1_ ?_ _)); exact BK295.out⟩
           have n3_ : Aside0 (Below w.heap.size w ((((((w35.setCell ⟨gb295, 0, none⟩ (.int .i64 t288)).setCell ⟨gb295, 1, none⟩ (.int .i64 t289)).setCell ⟨gb295, 2, none⟩ (.string t290)).setCell ⟨gb295, 3, none⟩ (.int .i64 t291)).setCell ⟨gb295, 4, none⟩ (.string t292)).setCell ⟨gb295, 5, none⟩ (.bool t293))) := ⟨by repeat (with_reducible first | exact HB.out | apply p3_ | apply p1_ | apply p2_ | refine bs_ ?_ GE265.out | refine bs_ ?_ GE295.out)⟩
           (try clear HO_11)
           (try clear BK265)
           (try clear BK295)
           (try clear HB)
           generalize ((((((w35.setCell ⟨gb295, 0, none⟩ (.int .i64 t288)).setCell ⟨gb295, 1, none⟩ (.int .i64 t289)).setCell ⟨gb295, 2, none⟩ (.string t290)).setCell ⟨gb295, 3, none⟩ (.int .i64 t291)).setCell ⟨gb295, 4, none⟩ (.string t292)).setCell ⟨gb295, 5, none⟩ (.bool t293)) = w45 at n0_ n1_ n2_ n3_ ⊢
           have HO_11 := n0_
           have BK265 := n1_
           have BK295 := n2_
           have HB := n3_
           clear n0_ n1_ n2_ n3_
           have n0_ := am_ (r3_ HO_11.out)
           have n1_ := am_ (k3_ BK265.out)
           have n2_ := am_ (k3_ BK295.out)
           have n3_ := am_ (p2_ HB.out)
           clear HO_11
           clear BK265
           clear BK295
           clear HB
           have HO_11 := n0_
           have BK265 := n1_
           have BK295 := n2_
           have HB := n3_
           clear n0_ n1_ n2_ n3_
           have p296 : 0 ≤ (x16_2 : Int) := of_decide_eq_true (by first | (with_reducible assumption) | assumption)
           have q296 : x16_2 < (l1.length : Int) := of_decide_eq_true (by first | (with_reducible assumption) | assumption)
           obtain ⟨ad296, e296, hx296_0, hx296_1, hx296_2, hx296_3, hx296_4, hx296_5⟩ := at_T35 HR1.out x16_2 p296 q296
           have hw296_5 := hx296_5
           have hw296_4 := hx296_4
           have hw296_3 := hx296_3
           have hw296_2 := hx296_2
           have hw296_1 := hx296_1
           have hw296_0 := hx296_0
           obtain rfl : ad287 = ad296 := (by injection e296)
           replace hx296_0 := (HB.out.cell (wb_ w _ hx296_0)).trans hx296_0
           replace hx296_1 := (HB.out.cell (wb_ w _ hx296_1)).trans hx296_1
           replace hx296_2 := (HB.out.cell (wb_ w _ hx296_2)).trans hx296_2
           replace hx296_3 := (HB.out.cell (wb_ w _ hx296_3)).trans hx296_3
           replace hx296_4 := (HB.out.cell (wb_ w _ hx296_4)).trans hx296_4
           replace hx296_5 := (HB.out.cell (wb_ w _ hx296_5)).trans hx296_5
           replace p296 := eq_true p296
           replace q296 := eq_true q296
           have p298 : 0 ≤ (x16_2 : Int) := of_decide_eq_true (by first | (with_reducible assumption) | assumption)
           have q298 : x16_2 < (l1.length : Int) := of_decide_eq_true (by first | (with_reducible assumption) | assumption)
           obtain ⟨ad298, e298, hx298_0, hx298_1, hx298_2, hx298_3, hx298_4, hx298_5⟩ := at_T35 HR1.out x16_2 p298 q298
           have hw298_5 := hx298_5
           have hw298_4 := hx298_4
           have hw298_3 := hx298_3
           have hw298_2 := hx298_2
           have hw298_1 := hx298_1
           have hw298_0 := hx298_0
           obtain rfl : ad287 = ad298 := (by injection e298)
           replace hx298_0 := (HB.out.cell (wb_ w _ hx298_0)).trans hx298_0
           replace hx298_1 := (HB.out.cell (wb_ w _ hx298_1)).trans hx298_1
           replace hx298_2 := (HB.out.cell (wb_ w _ hx298_2)).trans hx298_2
           replace hx298_3 := (HB.out.cell (wb_ w _ hx298_3)).trans hx298_3
           replace hx298_4 := (HB.out.cell (wb_ w _ hx298_4)).trans hx298_4
           replace hx298_5 := (HB.out.cell (wb_ w _ hx298_5)).trans hx298_5
           replace p298 := eq_true p298
           replace q298 := eq_true q298
           have p299 : 0 ≤ (x16_2 : Int) := of_decide_eq_true (by first | (with_reducible assumption) | assumption)
           have q299 : x16_2 < (l1.length : Int) := of_decide_eq_true (by first | (with_reducible assumption) | assumption)
           obtain ⟨ad299, e299, hx299_0, hx299_1, hx299_2, hx299_3, hx299_4, hx299_5⟩ := at_T35 HR1.out x16_2 p299 q299
           have hw299_5 := hx299_5
           have hw299_4 := hx299_4
           have hw299_3 := hx299_3
           have hw299_2 := hx299_2
           have hw299_1 := hx299_1
           have hw299_0 := hx299_0
           obtain rfl : ad287 = ad299 := (by injection e299)
           replace hx299_0 := (HB.out.cell (wb_ w _ hx299_0)).trans hx299_0
           replace hx299_1 := (HB.out.cell (wb_ w _ hx299_1)).trans hx299_1
           replace hx299_2 := (HB.out.cell (wb_ w _ hx299_2)).trans hx299_2
           replace hx299_3 := (HB.out.cell (wb_ w _ hx299_3)).trans hx299_3
           replace hx299_4 := (HB.out.cell (wb_ w _ hx299_4)).trans hx299_4
           replace hx299_5 := (HB.out.cell (wb_ w _ hx299_5)).trans hx299_5
           replace p299 := eq_true p299
           replace q299 := eq_true q299
           refine start_ (n := 27) (S := fun w' => w'.cell? ⟨gb295, 0, none⟩ = some (.int .i64 t288) ∧ w'.cell? ⟨gb295, 1, none⟩ = some (.int .i64 t289) ∧ w'.cell? ⟨gb295, 2, none⟩ = some (.string t290) ∧ w'.cell? ⟨gb295, 3, none⟩ = some (.int .i64 t291) ∧ w'.cell? ⟨gb295, 4, none⟩ = some (.string t292) ∧ w'.cell? ⟨gb295, 5, none⟩ = some (.bool t293) ∧ w'.cell? (ad287.add ((x16_2).toNat * 6)) = some (.int .i64 ((rd_T35 l1 x16_2).f0)) ∧ w'.cell? ⟨(ad287.add ((x16_2).toNat * 6)).block, (ad287.add ((x16_2).toNat * 6)).off + 1, none⟩ = some (.int .i64 ((rd_T35 l1 x16_2).f1)) ∧ w'.cell? ⟨(ad287.add ((x16_2).toNat * 6)).block, (ad287.add ((x16_2).toNat * 6)).off + 2, none⟩ = some (.string ((rd_T35 l1 x16_2).f2)) ∧ w'.cell? ⟨(ad287.add ((x16_2).toNat * 6)).block, (ad287.add ((x16_2).toNat * 6)).off + 3, none⟩ = some (.int .i64 ((rd_T35 l1 x16_2).f3)) ∧ w'.cell? ⟨(ad287.add ((x16_2).toNat * 6)).block, (ad287.add ((x16_2).toNat * 6)).off + 4, none⟩ = some (.string ((rd_T35 l1 x16_2).f4)) ∧ w'.cell? ⟨(ad287.add ((x16_2).toNat * 6)).block, (ad287.add ((x16_2).toNat * 6)).off + 5, none⟩ = some (.bool ((rd_T35 l1 x16_2).f5)) ∧ w'.cell? (ad287.add ((x16_2).toNat * 6)) = some (.int .i64 ((rd_T35 l1 x16_2).f0)) ∧ w'.cell? ⟨(ad287.add ((x16_2).toNat * 6)).block, (ad287.add ((x16_2).toNat * 6)).off + 1, none⟩ = some (.int .i64 ((rd_T35 l1 x16_2).f1)) ∧ w'.cell? ⟨(ad287.add ((x16_2).toNat * 6)).block, (ad287.add ((x16_2).toNat * 6)).off + 2, none⟩ = some (.string ((rd_T35 l1 x16_2).f2)) ∧ w'.cell? ⟨(ad287.add ((x16_2).toNat * 6)).block, (ad287.add ((x16_2).toNat * 6)).off + 3, none⟩ = some (.int .i64 ((rd_T35 l1 x16_2).f3)) ∧ w'.cell? ⟨(ad287.add ((x16_2).toNat * 6)).block, (ad287.add ((x16_2).toNat * 6)).off + 4, none⟩ = some (.string ((rd_T35 l1 x16_2).f4)) ∧ w'.cell? ⟨(ad287.add ((x16_2).toNat * 6)).block, (ad287.add ((x16_2).toNat * 6)).off + 5, none⟩ = some (.bool ((rd_T35 l1 x16_2).f5)) ∧ w'.cell? (ad287.add ((x16_2).toNat * 6)) = some (.int .i64 ((rd_T35 l1 x16_2).f0)) ∧ w'.cell? ⟨(ad287.add ((x16_2).toNat * 6)).block, (ad287.add ((x16_2).toNat * 6)).off + 1, none⟩ = some (.int .i64 ((rd_T35 l1 x16_2).f1)) ∧ w'.cell? ⟨(ad287.add ((x16_2).toNat * 6)).block, (ad287.add ((x16_2).toNat * 6)).off + 2, none⟩ = some (.string ((rd_T35 l1 x16_2).f2)) ∧ w'.cell? ⟨(ad287.add ((x16_2).toNat * 6)).block, (ad287.add ((x16_2).toNat * 6)).off + 3, none⟩ = some (.int .i64 ((rd_T35 l1 x16_2).f3)) ∧ w'.cell? ⟨(ad287.add ((x16_2).toNat * 6)).block, (ad287.add ((x16_2).toNat * 6)).off + 4, none⟩ = some (.string ((rd_T35 l1 x16_2).f4)) ∧ w'.cell? ⟨(ad287.add ((x16_2).toNat * 6)).block, (ad287.add ((x16_2).toNat * 6)).off + 5, none⟩ = some (.bool ((rd_T35 l1 x16_2).f5))) (ds := []) #[false, false, false, false, false, false, false, false, false, false, false, false, false, false, false, false, false, false, false, false, false, false, false, false, false, false, false] (by kernel_rfl) rfl rfl ⟨(bc_ BK295.out 0).trans rfl, (bc_ BK295.out 1).trans rfl, (bc_ BK295.out 2).trans rfl, (bc_ BK295.out 3).trans rfl, (bc_ BK295.out 4).trans rfl, (bc_ BK295.out 5).trans rfl, ((HB.out.cell (wb_ w _ hw296_0)).trans hw296_0), ((HB.out.cell (wb_ w _ hw296_1)).trans hw296_1), ((HB.out.cell (wb_ w _ hw296_2)).trans hw296_2), ((HB.out.cell (wb_ w _ hw296_3)).trans hw296_3), ((HB.out.cell (wb_ w _ hw296_4)).trans hw296_4), ((HB.out.cell (wb_ w _ hw296_5)).trans hw296_5), ((HB.out.cell (wb_ w _ hw298_0)).trans hw298_0), ((HB.out.cell (wb_ w _ hw298_1)).trans hw298_1), ((HB.out.cell (wb_ w _ hw298_2)).trans hw298_2), ((HB.out.cell (wb_ w _ hw298_3)).trans hw298_3), ((HB.out.cell (wb_ w _ hw298_4)).trans hw298_4), ((HB.out.cell (wb_ w _ hw298_5)).trans hw298_5), ((HB.out.cell (wb_ w _ hw299_0)).trans hw299_0), ((HB.out.cell (wb_ w _ hw299_1)).trans hw299_1), ((HB.out.cell (wb_ w _ hw299_2)).trans hw299_2), ((HB.out.cell (wb_ w _ hw299_3)).trans hw299_3), ((HB.out.cell (wb_ w _ hw299_4)).trans hw299_4), ((HB.out.cell (wb_ w _ hw299_5)).trans hw299_5)⟩ (fun hHeld => ?_); refine with_tabW pinfoldlaw15_OfferOthers.tab16 pinfoldlaw15_OfferOthers.bits16 (fun HT_ HW_ => ?_)
           generalize w45.drew = w46 at HO_11 BK265 BK295 HB hx296_0 hx296_1 hx296_2 hx296_3 hx296_4 hx296_5 hx298_0 hx298_1 hx298_2 hx298_3 hx298_4 hx298_5 hx299_0 hx299_1 hx299_2 hx299_3 hx299_4 hx299_5 hHeld ⊢
           refine pure_ (i := 0) (N := some 90) (v := ?_) (a' := ?_) #[true, false, false, false, false, false, false, false, false, false, false, false, false, false, false, false, false, false, false, false, false, false, false, false, false, false, false] rfl rfl (any_of HT_.out (by kernel_rfl)) (fun _ _ _ h => h) (Or.inl ⟨by rfl, ?_⟩) ?_ ?_
           rotate_left
           ·intro w'
            go_simp
            with_reducible rfl
           rotate_left
           ·simp only [Act.put, sa_, sb_, sc_, i64_w, i32_w]
            rfl
           refine pure_ (i := 1) (N := some 91) (v := ?_) (a' := ?_) #[true, true, false, false, false, false, false, false, false, false, false, false, false, false, false, false, false, false, false, false, false, false, false, false, false, false, false] rfl rfl (any_of HT_.out (by kernel_rfl)) (fun _ _ _ h => h) (Or.inl ⟨by rfl, ?_⟩) ?_ ?_
           rotate_left
           ·intro w'
            go_simp
            with_reducible rfl
           rotate_left
           ·simp only [Act.put, sa_, sb_, sc_, i64_w, i32_w]
            rfl
           refine pure_ (i := 2) (N := some 92) (v := ?_) (a' := ?_) #[true, true, true, false, false, false, false, false, false, false, false, false, false, false, false, false, false, false, false, false, false, false, false, false, false, false, false] rfl rfl (any_of HT_.out (by kernel_rfl)) (fun _ _ _ h => h) (Or.inl ⟨by rfl, ?_⟩) ?_ ?_
           rotate_left
           ·intro w'
            go_simp
            with_reducible rfl
           rotate_left
           ·simp only [Act.put, sa_, sb_, sc_, i64_w, i32_w]
            rfl
           refine pure_ (i := 3) (N := some 93) (v := ?_) (a' := ?_) #[true, true, true, true, false, false, false, false, false, false, false, false, false, false, false, false, false, false, false, false, false, false, false, false, false, false, false] rfl rfl (any_of HT_.out (by kernel_rfl)) (fun _ _ _ h => h) (Or.inl ⟨by rfl, ?_⟩) ?_ ?_
           rotate_left
           ·intro w'
            go_simp
            with_reducible rfl
           rotate_left
           ·simp only [Act.put, sa_, sb_, sc_, i64_w, i32_w]
            rfl
           refine pure_ (i := 4) (N := some 94) (v := ?_) (a' := ?_) #[true, true, true, true, true, false, false, false, false, false, false, false, false, false, false, false, false, false, false, false, false, false, false, false, false, false, false] rfl rfl (any_of HT_.out (by kernel_rfl)) (fun _ _ _ h => h) (Or.inl ⟨by rfl, ?_⟩) ?_ ?_
           rotate_left
           ·intro w'
            go_simp
            with_reducible rfl
           rotate_left
           ·simp only [Act.put, sa_, sb_, sc_, i64_w, i32_w]
            rfl
           refine pure_ (i := 5) (N := some 95) (v := ?_) (a' := ?_) #[true, true, true, true, true, true, false, false, false, false, false, false, false, false, false, false, false, false, false, false, false, false, false, false, false, false, false] rfl rfl (any_of HT_.out (by kernel_rfl)) (fun _ _ _ h => h) (Or.inl ⟨by rfl, ?_⟩) ?_ ?_
           rotate_left
           ·intro w'
            go_simp
            with_reducible rfl
           rotate_left
           ·simp only [Act.put, sa_, sb_, sc_, i64_w, i32_w]
            rfl
           refine pure_ (i := 7) (N := some 97) (v := ?_) (a' := ?_) #[true, true, true, true, true, true, false, true, false, false, false, false, false, false, false, false, false, false, false, false, false, false, false, false, false, false, false] rfl rfl (any_of HT_.out (by kernel_rfl)) (fun _ _ _ h => h) (Or.inl ⟨by rfl, ?_⟩) ?_ ?_
           rotate_left
           ·intro w'
            go_simp
            with_reducible rfl
           rotate_left
           ·simp only [Act.put, sa_, sb_, sc_, i64_w, i32_w]
            rfl
           refine take_ (i := 6) (N := some 96) (v := ?_) (a' := ?_) #[true, true, true, true, true, true, true, true, false, false, false, false, false, false, false, false, false, false, false, false, false, false, false, false, false, false, false] rfl rfl (take_ofW HT_.out HW_.out (by kernel_rfl)) (fun _ _ _ h => h) (Or.inl ⟨by rfl, ?_⟩) hHeld ?_ ?_
           rotate_left
           ·rintro w' ⟨s0, s1, s2, s3, s4, s5, s6, s7, s8, s9, s10, s11, s12, s13, s14, s15, s16, s17, s18, s19, s20, s21, s22, s23⟩
            go_simp
            with_reducible rfl
           rotate_left
           ·simp only [Act.put, sa_, sb_, sc_, i64_w, i32_w]
            rfl
           refine one_ (i := 8) (N := some 98) #[true, true, true, true, true, true, true, true, true, false, false, false, false, false, false, false, false, false, false, false, false, false, false, false, false, false, false] rfl rfl (one_of HT_.out (by kernel_rfl)) (by decide) (fun K hK => ?_)
           refine goes_ Tryd.func9 (by kernel_rfl) rfl #[.agg #[.int .i64 ((rd_T35 l1 x16_2).f0), .int .i64 ((rd_T35 l1 x16_2).f1), .string ((rd_T35 l1 x16_2).f2), .int .i64 ((rd_T35 l1 x16_2).f3), .string ((rd_T35 l1 x16_2).f4), .bool ((rd_T35 l1 x16_2).f5)], .int .i64 a2] (by rfl) rfl rfl (by (try simp only [List.map_toArray, List.map_cons, List.map_nil]); first | done | rfl | (simp only [List.length_drop, List.length_take]; rfl)) ?_
           with_reducible refine (pinfoldref11_Live_c.calls ((rd_T35 l1 x16_2).f0) ((rd_T35 l1 x16_2).f1) ((rd_T35 l1 x16_2).f2) ((rd_T35 l1 x16_2).f3) ((rd_T35 l1 x16_2).f4) ((rd_T35 l1 x16_2).f5) a2 true _ A39.out).mono ?_
           rintro e w47 ⟨rfl, hb⟩
           refine ⟨_, rfl, ?_⟩
           have n0_ := am_ (Kd.R_below (by (with_reducible repeat (first | apply r1_ | apply r2_ | apply r3_)); exact HO_11.out) hb)
           have n1_ := am_ (kb_ (g := gb265) (o := .cells #[.int .i64 a0_0, .int .i64 a0_1, .slice A0_2 l0_2.length c0_2, .slice A0_3 l0_3.length c0_3, .int .i64 a0_4, .string a0_5, .slice A0_6 l0_6.length c0_6] 26 (0, 0)) (by (with_reducible repeat (first | refine k2_ ?_ _ | refine k3_ ?_ | refine k1_ ?_ _)); exact BK265.out) hb)
           have n2_ := am_ (kb_ (g := gb295) (o := .cells #[.int .i64 t288, .int .i64 t289, .string t290, .int .i64 t291, .string t292, .bool t293] 35 (0, 0)) (by (with_reducible repeat (first | refine k2_ ?_ _ | refine k3_ ?_ | refine k1_ ?_ _)); exact BK295.out) hb)
           have n3_ := am_ (bt_ (by repeat (with_reducible first | exact HB.out | apply p3_ | apply p1_ | apply p2_ | refine bs_ ?_ GE265.out | refine bs_ ?_ GE295.out)) hb)
           clear HO_11
           clear BK265
           clear BK295
           clear HB
           have HO_11 := n0_
           have BK265 := n1_
           have BK295 := n2_
           have HB := n3_
           clear n0_ n1_ n2_ n3_
           (try clear hb)
           (try clear hb2)
           (try clear hk)
           (try clear hi)
           refine hK.out _ _ ⟨(bc_ BK295.out 0).trans rfl, (bc_ BK295.out 1).trans rfl, (bc_ BK295.out 2).trans rfl, (bc_ BK295.out 3).trans rfl, (bc_ BK295.out 4).trans rfl, (bc_ BK295.out 5).trans rfl, ((HB.out.cell (wb_ w _ hw296_0)).trans hw296_0), ((HB.out.cell (wb_ w _ hw296_1)).trans hw296_1), ((HB.out.cell (wb_ w _ hw296_2)).trans hw296_2), ((HB.out.cell (wb_ w _ hw296_3)).trans hw296_3), ((HB.out.cell (wb_ w _ hw296_4)).trans hw296_4), ((HB.out.cell (wb_ w _ hw296_5)).trans hw296_5), ((HB.out.cell (wb_ w _ hw298_0)).trans hw298_0), ((HB.out.cell (wb_ w _ hw298_1)).trans hw298_1), ((HB.out.cell (wb_ w _ hw298_2)).trans hw298_2), ((HB.out.cell (wb_ w _ hw298_3)).trans hw298_3), ((HB.out.cell (wb_ w _ hw298_4)).trans hw298_4), ((HB.out.cell (wb_ w _ hw298_5)).trans hw298_5), ((HB.out.cell (wb_ w _ hw299_0)).trans hw299_0), ((HB.out.cell (wb_ w _ hw299_1)).trans hw299_1), ((HB.out.cell (wb_ w _ hw299_2)).trans hw299_2), ((HB.out.cell (wb_ w _ hw299_3)).trans hw299_3), ((HB.out.cell (wb_ w _ hw299_4)).trans hw299_4), ((HB.out.cell (wb_ w _ hw299_5)).trans hw299_5)⟩ (fun hHeld => ?_)
           clear hK K
           refine norm_ (a' := ?_) ?_ ?_
           rotate_left
           ·show Act.put _ (some 98) _ = _
            simp only [Act.put, sa_, sb_, sc_, i64_w, i32_w]
            rfl
           refine pure_ (i := 9) (N := some 99) (v := ?_) (a' := ?_) #[true, true, true, true, true, true, true, true, true, true, false, false, false, false, false, false, false, false, false, false, false, false, false, false, false, false, false] rfl rfl (any_of HT_.out (by kernel_rfl)) (fun _ _ _ h => h) (Or.inl ⟨by rfl, ?_⟩) ?_ ?_
           rotate_left
           ·intro w'
            go_simp
            with_reducible rfl
           rotate_left
           ·simp only [Act.put, sa_, sb_, sc_, i64_w, i32_w]
            rfl
           refine pure_ (i := 10) (N := some 100) (v := ?_) (a' := ?_) #[true, true, true, true, true, true, true, true, true, true, true, false, false, false, false, false, false, false, false, false, false, false, false, false, false, false, false] rfl rfl (any_of HT_.out (by kernel_rfl)) (fun _ _ _ h => h) (Or.inl ⟨by rfl, ?_⟩) ?_ ?_
           rotate_left
           ·intro w'
            go_simp
            with_reducible rfl
           rotate_left
           ·simp only [Act.put, sa_, sb_, sc_, i64_w, i32_w]
            rfl
           refine pure_ (i := 11) (N := some 101) (v := ?_) (a' := ?_) #[true, true, true, true, true, true, true, true, true, true, true, true, false, false, false, false, false, false, false, false, false, false, false, false, false, false, false] rfl rfl (any_of HT_.out (by kernel_rfl)) (fun _ _ _ h => h) (Or.inl ⟨by rfl, ?_⟩) ?_ ?_
           rotate_left
           ·intro w'
            go_simp
            with_reducible rfl
           rotate_left
           ·simp only [Act.put, sa_, sb_, sc_, i64_w, i32_w]
            rfl
           refine pure_ (i := 12) (N := some 102) (v := ?_) (a' := ?_) #[true, true, true, true, true, true, true, true, true, true, true, true, true, false, false, false, false, false, false, false, false, false, false, false, false, false, false] rfl rfl (any_of HT_.out (by kernel_rfl)) (fun _ _ _ h => h) (Or.inl ⟨by rfl, ?_⟩) ?_ ?_
           rotate_left
           ·intro w'
            go_simp
            with_reducible rfl
           rotate_left
           ·simp only [Act.put, sa_, sb_, sc_, i64_w, i32_w]
            rfl
           refine pure_ (i := 13) (N := some 103) (v := ?_) (a' := ?_) #[true, true, true, true, true, true, true, true, true, true, true, true, true, true, false, false, false, false, false, false, false, false, false, false, false, false, false] rfl rfl (any_of HT_.out (by kernel_rfl)) (fun _ _ _ h => h) (Or.inl ⟨by rfl, ?_⟩) ?_ ?_
           rotate_left
           ·intro w'
            go_simp
            with_reducible rfl
           rotate_left
           ·simp only [Act.put, sa_, sb_, sc_, i64_w, i32_w]
            rfl
           refine pure_ (i := 15) (N := some 105) (v := ?_) (a' := ?_) #[true, true, true, true, true, true, true, true, true, true, true, true, true, true, false, true, false, false, false, false, false, false, false, false, false, false, false] rfl rfl (any_of HT_.out (by kernel_rfl)) (fun _ _ _ h => h) (Or.inl ⟨by rfl, ?_⟩) ?_ ?_
           rotate_left
           ·intro w'
            go_simp
            with_reducible rfl
           rotate_left
           ·simp only [Act.put, sa_, sb_, sc_, i64_w, i32_w]
            rfl
           refine take_ (i := 14) (N := some 104) (v := ?_) (a' := ?_) #[true, true, true, true, true, true, true, true, true, true, true, true, true, true, true, true, false, false, false, false, false, false, false, false, false, false, false] rfl rfl (take_ofW HT_.out HW_.out (by kernel_rfl)) (fun _ _ _ h => h) (Or.inl ⟨by rfl, ?_⟩) hHeld ?_ ?_
           rotate_left
           ·rintro w' ⟨s0, s1, s2, s3, s4, s5, s6, s7, s8, s9, s10, s11, s12, s13, s14, s15, s16, s17, s18, s19, s20, s21, s22, s23⟩
            go_simp
            with_reducible rfl
           rotate_left
           ·simp only [Act.put, sa_, sb_, sc_, i64_w, i32_w]
            rfl
           refine pure_ (i := 16) (N := some 106) (v := ?_) (a' := ?_) #[true, true, true, true, true, true, true, true, true, true, true, true, true, true, true, true, true, false, false, false, false, false, false, false, false, false, false] rfl rfl (any_of HT_.out (by kernel_rfl)) (fun _ _ _ h => h) (Or.inl ⟨by rfl, ?_⟩) ?_ ?_
           rotate_left
           ·intro w'
            go_simp
            with_reducible rfl
           rotate_left
           ·simp only [Act.put, sa_, sb_, sc_, i64_w, i32_w]
            rfl
           refine pure_ (i := 17) (N := some 107) (v := ?_) (a' := ?_) #[true, true, true, true, true, true, true, true, true, true, true, true, true, true, true, true, true, true, false, false, false, false, false, false, false, false, false] rfl rfl (any_of HT_.out (by kernel_rfl)) (fun _ _ _ h => h) (Or.inl ⟨by rfl, ?_⟩) ?_ ?_
           rotate_left
           ·intro w'
            go_simp
            with_reducible rfl
           rotate_left
           ·simp only [Act.put, sa_, sb_, sc_, i64_w, i32_w]
            rfl
           refine pure_ (i := 18) (N := some 108) (v := ?_) (a' := ?_) #[true, true, true, true, true, true, true, true, true, true, true, true, true, true, true, true, true, true, true, false, false, false, false, false, false, false, false] rfl rfl (any_of HT_.out (by kernel_rfl)) (fun _ _ _ h => h) (Or.inl ⟨by rfl, ?_⟩) ?_ ?_
           rotate_left
           ·intro w'
            go_simp
            with_reducible rfl
           rotate_left
           ·simp only [Act.put, sa_, sb_, sc_, i64_w, i32_w]
            rfl
           refine pure_ (i := 20) (N := some 110) (v := ?_) (a' := ?_) #[true, true, true, true, true, true, true, true, true, true, true, true, true, true, true, true, true, true, true, false, true, false, false, false, false, false, false] rfl rfl (any_of HT_.out (by kernel_rfl)) (fun _ _ _ h => h) (Or.inl ⟨by rfl, ?_⟩) ?_ ?_
           rotate_left
           ·intro w'
            go_simp
            with_reducible rfl
           rotate_left
           ·simp only [Act.put, sa_, sb_, sc_, i64_w, i32_w]
            rfl
           refine pure_ (i := 21) (N := some 111) (v := ?_) (a' := ?_) #[true, true, true, true, true, true, true, true, true, true, true, true, true, true, true, true, true, true, true, false, true, true, false, false, false, false, false] rfl rfl (any_of HT_.out (by kernel_rfl)) (fun _ _ _ h => h) (Or.inl ⟨by rfl, ?_⟩) ?_ ?_
           rotate_left
           ·intro w'
            go_simp
            with_reducible rfl
           rotate_left
           ·simp only [Act.put, sa_, sb_, sc_, i64_w, i32_w]
            rfl
           refine pure_ (i := 22) (N := some 112) (v := ?_) (a' := ?_) #[true, true, true, true, true, true, true, true, true, true, true, true, true, true, true, true, true, true, true, false, true, true, true, false, false, false, false] rfl rfl (any_of HT_.out (by kernel_rfl)) (fun _ _ _ h => h) (Or.inl ⟨by rfl, ?_⟩) ?_ ?_
           rotate_left
           ·intro w'
            go_simp
            with_reducible rfl
           rotate_left
           ·simp only [Act.put, sa_, sb_, sc_, i64_w, i32_w]
            rfl
           refine take_ (i := 19) (N := some 109) (v := ?_) (a' := ?_) #[true, true, true, true, true, true, true, true, true, true, true, true, true, true, true, true, true, true, true, true, true, true, true, false, false, false, false] rfl rfl (take_ofW HT_.out HW_.out (by kernel_rfl)) (fun _ _ _ h => h) (Or.inl ⟨by rfl, ?_⟩) hHeld ?_ ?_
           rotate_left
           ·rintro w' ⟨s0, s1, s2, s3, s4, s5, s6, s7, s8, s9, s10, s11, s12, s13, s14, s15, s16, s17, s18, s19, s20, s21, s22, s23⟩
            go_simp
            with_reducible rfl
           rotate_left
           ·simp only [Act.put, sa_, sb_, sc_, i64_w, i32_w]
            rfl
           refine take_ (i := 23) (N := some 113) (v := ?_) (a' := ?_) #[true, true, true, true, true, true, true, true, true, true, true, true, true, true, true, true, true, true, true, true, true, true, true, true, false, false, false] rfl rfl (take_ofW HT_.out HW_.out (by kernel_rfl)) (fun _ _ _ h => h) (Or.inl ⟨by rfl, ?_⟩) hHeld ?_ ?_
           rotate_left
           ·rintro w' ⟨s0, s1, s2, s3, s4, s5, s6, s7, s8, s9, s10, s11, s12, s13, s14, s15, s16, s17, s18, s19, s20, s21, s22, s23⟩
            go_simp
            with_reducible rfl
           rotate_left
           ·simp only [Act.put, sa_, sb_, sc_, i64_w, i32_w]
            rfl
           refine pure_ (i := 24) (N := some 114) (v := ?_) (a' := ?_) #[true, true, true, true, true, true, true, true, true, true, true, true, true, true, true, true, true, true, true, true, true, true, true, true, true, false, false] rfl rfl (any_of HT_.out (by kernel_rfl)) (fun _ _ _ h => h) (Or.inl ⟨by rfl, ?_⟩) ?_ ?_
           rotate_left
           ·intro w'
            go_simp
            with_reducible rfl
           rotate_left
           ·simp only [Act.put, sa_, sb_, sc_, i64_w, i32_w]
            rfl
           refine pure_ (i := 25) (N := some 115) (v := ?_) (a' := ?_) #[true, true, true, true, true, true, true, true, true, true, true, true, true, true, true, true, true, true, true, true, true, true, true, true, true, true, false] rfl rfl (any_of HT_.out (by kernel_rfl)) (fun _ _ _ h => h) (Or.inl ⟨by rfl, ?_⟩) ?_ ?_
           rotate_left
           ·intro w'
            go_simp
            with_reducible rfl
           rotate_left
           ·simp only [Act.put, sa_, sb_, sc_, i64_w, i32_w]
            rfl
           refine pure_ (i := 26) (N := some 116) (v := ?_) (a' := ?_) #[true, true, true, true, true, true, true, true, true, true, true, true, true, true, true, true, true, true, true, true, true, true, true, true, true, true, true] rfl rfl (any_of HT_.out (by kernel_rfl)) (fun _ _ _ h => h) (Or.inl ⟨by rfl, ?_⟩) ?_ ?_
           rotate_left
           ·intro w'
            go_simp
            with_reducible rfl
           rotate_left
           ·simp only [Act.put, sa_, sb_, sc_, i64_w, i32_w]
            rfl
           refine done_ (done_of HT_.out (by kernel_rfl)) ?_
           try go_wp2
           go_meet
           case rel => exact ⟨_, ((!(t288 == ((rd_T35 l1 x16_2).f0)) || (!(t289 == ((rd_T35 l1 x16_2).f1)) || (!(t290.toList == (((rd_T35 l1 x16_2).f2).toList)) || (!(t291 == ((rd_T35 l1 x16_2).f3)) || (!(t292.toList == (((rd_T35 l1 x16_2).f4).toList)) || (!(t293 == ((rd_T35 l1 x16_2).f5))))))))), (by first | rfl | (simp; done) | (simp [*]; done)), H', ⟨by have := HK1.out; have := HK2.out; first | omega | exact Nat.le_refl _⟩, ⟨by (with_reducible repeat (first | apply r1_ | apply r2_ | apply r3_)); exact HO_11.out⟩, ⟨by (with_reducible repeat (first | refine k2_ ?_ _ | refine k3_ ?_ | refine k1_ ?_ _)); exact BK265.out⟩, ⟨by (with_reducible repeat (first | refine k2_ ?_ _ | refine k3_ ?_ | refine k1_ ?_ _)); exact BK295.out⟩, ⟨by repeat (with_reducible first | exact HB.out | apply p3_ | apply p1_ | apply p2_ | refine bs_ ?_ GE265.out | refine bs_ ?_ GE295.out)⟩⟩
          replace c40 := e3_ c40
          subst c40
          have H1 : (pinfoldlaw15_OfferOthers.j2 k2 l1 a2 a3 t267 t270 x14_1 x16_2 false t288 t289 t290 t291 t292 t293) = some r := by rw [if_neg (show ¬ (false = true) by decide)] at H; exact H
          clear H
          have H := H1
          clear H1
          have H' := am_ H
          clear H
          try go_wp2
          have n0_ : Aside0 (Kd.R k35 35 ((((((w35.setCell ⟨gb295, 0, none⟩ (.int .i64 t288)).setCell ⟨gb295, 1, none⟩ (.int .i64 t289)).setCell ⟨gb295, 2, none⟩ (.string t290)).setCell ⟨gb295, 3, none⟩ (.int .i64 t291)).setCell ⟨gb295, 4, none⟩ (.string t292)).setCell ⟨gb295, 5, none⟩ (.bool t293)) w.heap.size (fun k_ => k_ ≠ gb295) (.slice Ao29 t267.length co29) t267) := ⟨by (with_reducible repeat (first | apply r1_ | apply r2_ | apply r3_)); exact Kd.R_mono (Kd.R_far (p := ⟨gb295, 5, none⟩) (Kd.R_far (p := ⟨gb295, 4, none⟩) (Kd.R_far (p := ⟨gb295, 3, none⟩) (Kd.R_far (p := ⟨gb295, 2, none⟩) (Kd.R_far (p := ⟨gb295, 1, none⟩) (Kd.R_far (p := ⟨gb295, 0, none⟩) (Kd.R_mono HO_11.out (fun k_ hk => (⟨hk, hk.2⟩ : _ ∧ k_ ≠ gb295))) (fun _ hk => hk.2) (.int .i64 t288)) (fun _ hk => hk.2) (.int .i64 t289)) (fun _ hk => hk.2) (.string t290)) (fun _ hk => hk.2) (.int .i64 t291)) (fun _ hk => hk.2) (.string t292)) (fun _ hk => hk.2) (.bool t293)) (fun _ hk => hk.1.2)⟩
          have n1_ : Aside0 (((((((w35.setCell ⟨gb295, 0, none⟩ (.int .i64 t288)).setCell ⟨gb295, 1, none⟩ (.int .i64 t289)).setCell ⟨gb295, 2, none⟩ (.string t290)).setCell ⟨gb295, 3, none⟩ (.int .i64 t291)).setCell ⟨gb295, 4, none⟩ (.string t292)).setCell ⟨gb295, 5, none⟩ (.bool t293)).heap[gb265]? = some (.cells #[.int .i64 a0_0, .int .i64 a0_1, .slice A0_2 l0_2.length c0_2, .slice A0_3 l0_3.length c0_3, .int .i64 a0_4, .string a0_5, .slice A0_6 l0_6.length c0_6] 26 (0, 0))) := ⟨by (with_reducible repeat (first | refine k2_ ?_ _ | refine k3_ ?_ | refine k1_ ?_ _)); refine blk_far ?_ NB265_295.out _; (with_reducible repeat (first | refine k2_ ?_ _ | refine k3_ ?_ | refine k1_ ?_ _)); refine blk_far ?_ NB265_295.out _; (with_reducible repeat (first | refine k2_ ?_ _ | refine k3_ ?_ | refine k1_ ?_ _)); refine blk_far ?_ NB265_295.out _; (with_reducible repeat (first | refine k2_ ?_ _ | refine k3_ ?_ | refine k1_ ?_ _)); refine blk_far ?_ NB265_295.out _; (with_reducible repeat (first | refine k2_ ?_ _ | refine k3_ ?_ | refine k1_ ?_ _)); refine blk_far ?_ NB265_295.out _; (with_reducible repeat (first | refine k2_ ?_ _ | refine k3_ ?_ | refine k1_ ?_ _)); refine blk_far ?_ NB265_295.out _; (with_reducible repeat (first | refine k2_ ?_ _ | refine k3_ ?_ | refine k1_ ?_ _)); exact BK265.out⟩
          have n2_ : Aside0 (((((((w35.setCell ⟨gb295, 0, none⟩ (.int .i64 t288)).setCell ⟨gb295, 1, none⟩ (.int .i64 t289)).setCell ⟨gb295, 2, none⟩ (.string t290)).setCell ⟨gb295, 3, none⟩ (.int .i64 t291)).setCell ⟨gb295, 4, none⟩ (.string t292)).setCell ⟨gb295, 5, none⟩ (.bool t293)).heap[gb295]? = some (.cells #[.int .i64 t288, .int .i64 t289, .string t290, .int .i64 t291, .string t292, .bool t293] 35 (0, 0))) := ⟨by (with_reducible repeat (first | refine k2_ ?_ _ | refine k3_ ?_ | refine k1_ ?_ _)); refine blk_put (cs := #[.int .i64 t288, .int .i64 t289, .string t290, .int .i64 t291, .string t292, .bool false]) ?_ 5 _ rfl; (with_reducible repeat (first | refine k2_ ?_ _ | refine k3_ ?_ | refine k1_ ?_ _)); refine blk_put (cs := #[.int .i64 t288, .int .i64 t289, .string t290, .int .i64 t291, .string (⟨#[]⟩ : ByteArray), .bool false]) ?_ 4 _ rfl; (with_reducible repeat (first | refine k2_ ?_ _ | refine k3_ ?_ | refine k1_ ?_ _)); refine blk_put (cs := #[.int .i64 t288, .int .i64 t289, .string t290, .int .i64 0, .string (⟨#[]⟩ : ByteArray), .bool false]) ?_ 3 _ rfl; (with_reducible repeat (first | refine k2_ ?_ _ | refine k3_ ?_ | refine k1_ ?_ _)); refine blk_put (cs := #[.int .i64 t288, .int .i64 t289, .string (⟨#[]⟩ : ByteArray), .int .i64 0, .string (⟨#[]⟩ : ByteArray), .bool false]) ?_ 2 _ rfl; (with_reducible repeat (first | refine k2_ ?_ _ | refine k3_ ?_ | refine k1_ ?_ _)); refine blk_put (cs := #[.int .i64 t288, .int .i64 0, .string (⟨#[]⟩ : ByteArray), .int .i64 0, .string (⟨#[]⟩ : ByteArray), .bool false]) ?_ 1 _ rfl; (with_reducible repeat (first | refine k2_ ?_ _ | refine k3_ ?_ | refine k1_ ?_ _)); refine blk_put (cs := #[.int .i64 0, .int .i64 0, .string (⟨#[]⟩ : ByteArray), .int .i64 0, .string (⟨#[]⟩ : ByteArray), .bool false]) ?_ 0 _ rfl; (with_reducible repeat (first | refine k2_ ?_ _ | refine k3_ ?_ | refine k1_ ?_ _)); exact BK295.out⟩
          have n3_ : Aside0 (Below w.heap.size w ((((((w35.setCell ⟨gb295, 0, none⟩ (.int .i64 t288)).setCell ⟨gb295, 1, none⟩ (.int .i64 t289)).setCell ⟨gb295, 2, none⟩ (.string t290)).setCell ⟨gb295, 3, none⟩ (.int .i64 t291)).setCell ⟨gb295, 4, none⟩ (.string t292)).setCell ⟨gb295, 5, none⟩ (.bool t293))) := ⟨by repeat (with_reducible first | exact HB.out | apply p3_ | apply p1_ | apply p2_ | refine bs_ ?_ GE265.out | refine bs_ ?_ GE295.out)⟩
          (try clear HO_11)
          (try clear BK265)
          (try clear BK295)
          (try clear HB)
          generalize ((((((w35.setCell ⟨gb295, 0, none⟩ (.int .i64 t288)).setCell ⟨gb295, 1, none⟩ (.int .i64 t289)).setCell ⟨gb295, 2, none⟩ (.string t290)).setCell ⟨gb295, 3, none⟩ (.int .i64 t291)).setCell ⟨gb295, 4, none⟩ (.string t292)).setCell ⟨gb295, 5, none⟩ (.bool t293)) = w48 at n0_ n1_ n2_ n3_ ⊢
          have HO_11 := n0_
          have BK265 := n1_
          have BK295 := n2_
          have HB := n3_
          clear n0_ n1_ n2_ n3_
          have n0_ := am_ (r3_ HO_11.out)
          have n1_ := am_ (k3_ BK265.out)
          have n2_ := am_ (k3_ BK295.out)
          have n3_ := am_ (p2_ HB.out)
          clear HO_11
          clear BK265
          clear BK295
          clear HB
          have HO_11 := n0_
          have BK265 := n1_
          have BK295 := n2_
          have HB := n3_
          clear n0_ n1_ n2_ n3_
          have p296 : 0 ≤ (x16_2 : Int) := of_decide_eq_true (by first | (with_reducible assumption) | assumption)
          have q296 : x16_2 < (l1.length : Int) := of_decide_eq_true (by first | (with_reducible assumption) | assumption)
          obtain ⟨ad296, e296, hx296_0, hx296_1, hx296_2, hx296_3, hx296_4, hx296_5⟩ := at_T35 HR1.out x16_2 p296 q296
          have hw296_5 := hx296_5
          have hw296_4 := hx296_4
          have hw296_3 := hx296_3
          have hw296_2 := hx296_2
          have hw296_1 := hx296_1
          have hw296_0 := hx296_0
          obtain rfl : ad287 = ad296 := (by injection e296)
          replace hx296_0 := (HB.out.cell (wb_ w _ hx296_0)).trans hx296_0
          replace hx296_1 := (HB.out.cell (wb_ w _ hx296_1)).trans hx296_1
          replace hx296_2 := (HB.out.cell (wb_ w _ hx296_2)).trans hx296_2
          replace hx296_3 := (HB.out.cell (wb_ w _ hx296_3)).trans hx296_3
          replace hx296_4 := (HB.out.cell (wb_ w _ hx296_4)).trans hx296_4
          replace hx296_5 := (HB.out.cell (wb_ w _ hx296_5)).trans hx296_5
          replace p296 := eq_true p296
          replace q296 := eq_true q296
          refine start_ (n := 27) (S := fun w' => w'.cell? (ad287.add ((x16_2).toNat * 6)) = some (.int .i64 ((rd_T35 l1 x16_2).f0)) ∧ w'.cell? ⟨(ad287.add ((x16_2).toNat * 6)).block, (ad287.add ((x16_2).toNat * 6)).off + 1, none⟩ = some (.int .i64 ((rd_T35 l1 x16_2).f1)) ∧ w'.cell? ⟨(ad287.add ((x16_2).toNat * 6)).block, (ad287.add ((x16_2).toNat * 6)).off + 2, none⟩ = some (.string ((rd_T35 l1 x16_2).f2)) ∧ w'.cell? ⟨(ad287.add ((x16_2).toNat * 6)).block, (ad287.add ((x16_2).toNat * 6)).off + 3, none⟩ = some (.int .i64 ((rd_T35 l1 x16_2).f3)) ∧ w'.cell? ⟨(ad287.add ((x16_2).toNat * 6)).block, (ad287.add ((x16_2).toNat * 6)).off + 4, none⟩ = some (.string ((rd_T35 l1 x16_2).f4)) ∧ w'.cell? ⟨(ad287.add ((x16_2).toNat * 6)).block, (ad287.add ((x16_2).toNat * 6)).off + 5, none⟩ = some (.bool ((rd_T35 l1 x16_2).f5))) (ds := []) #[false, false, false, false, false, false, false, false, false, false, false, false, false, false, false, false, false, false, false, false, false, false, false, false, false, false, false] (by kernel_rfl) rfl rfl ⟨((HB.out.cell (wb_ w _ hw296_0)).trans hw296_0), ((HB.out.cell (wb_ w _ hw296_1)).trans hw296_1), ((HB.out.cell (wb_ w _ hw296_2)).trans hw296_2), ((HB.out.cell (wb_ w _ hw296_3)).trans hw296_3), ((HB.out.cell (wb_ w _ hw296_4)).trans hw296_4), ((HB.out.cell (wb_ w _ hw296_5)).trans hw296_5)⟩ (fun hHeld => ?_); refine with_tabW pinfoldlaw15_OfferOthers.tab16 pinfoldlaw15_OfferOthers.bits16 (fun HT_ HW_ => ?_)
          generalize w48.drew = w49 at HO_11 BK265 BK295 HB hx296_0 hx296_1 hx296_2 hx296_3 hx296_4 hx296_5 hHeld ⊢
          refine pure_ (i := 0) (N := some 90) (v := ?_) (a' := ?_) #[true, false, false, false, false, false, false, false, false, false, false, false, false, false, false, false, false, false, false, false, false, false, false, false, false, false, false] rfl rfl (any_of HT_.out (by kernel_rfl)) (fun _ _ _ h => h) (Or.inl ⟨by rfl, ?_⟩) ?_ ?_
          rotate_left
          ·intro w'
           go_simp
           with_reducible rfl
          rotate_left
          ·simp only [Act.put, sa_, sb_, sc_, i64_w, i32_w]
           rfl
          refine pure_ (i := 1) (N := some 91) (v := ?_) (a' := ?_) #[true, true, false, false, false, false, false, false, false, false, false, false, false, false, false, false, false, false, false, false, false, false, false, false, false, false, false] rfl rfl (any_of HT_.out (by kernel_rfl)) (fun _ _ _ h => h) (Or.inl ⟨by rfl, ?_⟩) ?_ ?_
          rotate_left
          ·intro w'
           go_simp
           with_reducible rfl
          rotate_left
          ·simp only [Act.put, sa_, sb_, sc_, i64_w, i32_w]
           rfl
          refine pure_ (i := 2) (N := some 92) (v := ?_) (a' := ?_) #[true, true, true, false, false, false, false, false, false, false, false, false, false, false, false, false, false, false, false, false, false, false, false, false, false, false, false] rfl rfl (any_of HT_.out (by kernel_rfl)) (fun _ _ _ h => h) (Or.inl ⟨by rfl, ?_⟩) ?_ ?_
          rotate_left
          ·intro w'
           go_simp
           with_reducible rfl
          rotate_left
          ·simp only [Act.put, sa_, sb_, sc_, i64_w, i32_w]
           rfl
          refine pure_ (i := 3) (N := some 93) (v := ?_) (a' := ?_) #[true, true, true, true, false, false, false, false, false, false, false, false, false, false, false, false, false, false, false, false, false, false, false, false, false, false, false] rfl rfl (any_of HT_.out (by kernel_rfl)) (fun _ _ _ h => h) (Or.inl ⟨by rfl, ?_⟩) ?_ ?_
          rotate_left
          ·intro w'
           go_simp
           with_reducible rfl
          rotate_left
          ·simp only [Act.put, sa_, sb_, sc_, i64_w, i32_w]
           rfl
          refine pure_ (i := 4) (N := some 94) (v := ?_) (a' := ?_) #[true, true, true, true, true, false, false, false, false, false, false, false, false, false, false, false, false, false, false, false, false, false, false, false, false, false, false] rfl rfl (any_of HT_.out (by kernel_rfl)) (fun _ _ _ h => h) (Or.inl ⟨by rfl, ?_⟩) ?_ ?_
          rotate_left
          ·intro w'
           go_simp
           with_reducible rfl
          rotate_left
          ·simp only [Act.put, sa_, sb_, sc_, i64_w, i32_w]
           rfl
          refine pure_ (i := 5) (N := some 95) (v := ?_) (a' := ?_) #[true, true, true, true, true, true, false, false, false, false, false, false, false, false, false, false, false, false, false, false, false, false, false, false, false, false, false] rfl rfl (any_of HT_.out (by kernel_rfl)) (fun _ _ _ h => h) (Or.inl ⟨by rfl, ?_⟩) ?_ ?_
          rotate_left
          ·intro w'
           go_simp
           with_reducible rfl
          rotate_left
          ·simp only [Act.put, sa_, sb_, sc_, i64_w, i32_w]
           rfl
          refine pure_ (i := 7) (N := some 97) (v := ?_) (a' := ?_) #[true, true, true, true, true, true, false, true, false, false, false, false, false, false, false, false, false, false, false, false, false, false, false, false, false, false, false] rfl rfl (any_of HT_.out (by kernel_rfl)) (fun _ _ _ h => h) (Or.inl ⟨by rfl, ?_⟩) ?_ ?_
          rotate_left
          ·intro w'
           go_simp
           with_reducible rfl
          rotate_left
          ·simp only [Act.put, sa_, sb_, sc_, i64_w, i32_w]
           rfl
          refine take_ (i := 6) (N := some 96) (v := ?_) (a' := ?_) #[true, true, true, true, true, true, true, true, false, false, false, false, false, false, false, false, false, false, false, false, false, false, false, false, false, false, false] rfl rfl (take_ofW HT_.out HW_.out (by kernel_rfl)) (fun _ _ _ h => h) (Or.inl ⟨by rfl, ?_⟩) hHeld ?_ ?_
          rotate_left
          ·rintro w' ⟨s0, s1, s2, s3, s4, s5⟩
           go_simp
           with_reducible rfl
          rotate_left
          ·simp only [Act.put, sa_, sb_, sc_, i64_w, i32_w]
           rfl
          refine one_ (i := 8) (N := some 98) #[true, true, true, true, true, true, true, true, true, false, false, false, false, false, false, false, false, false, false, false, false, false, false, false, false, false, false] rfl rfl (one_of HT_.out (by kernel_rfl)) (by decide) (fun K hK => ?_)
          refine goes_ Tryd.func9 (by kernel_rfl) rfl #[.agg #[.int .i64 ((rd_T35 l1 x16_2).f0), .int .i64 ((rd_T35 l1 x16_2).f1), .string ((rd_T35 l1 x16_2).f2), .int .i64 ((rd_T35 l1 x16_2).f3), .string ((rd_T35 l1 x16_2).f4), .bool ((rd_T35 l1 x16_2).f5)], .int .i64 a2] (by rfl) rfl rfl (by (try simp only [List.map_toArray, List.map_cons, List.map_nil]); first | done | rfl | (simp only [List.length_drop, List.length_take]; rfl)) ?_
          with_reducible refine (pinfoldref11_Live_c.calls ((rd_T35 l1 x16_2).f0) ((rd_T35 l1 x16_2).f1) ((rd_T35 l1 x16_2).f2) ((rd_T35 l1 x16_2).f3) ((rd_T35 l1 x16_2).f4) ((rd_T35 l1 x16_2).f5) a2 false _ A39.out).mono ?_
          rintro e w50 ⟨rfl, hb⟩
          refine ⟨_, rfl, ?_⟩
          have n0_ := am_ (Kd.R_below (by (with_reducible repeat (first | apply r1_ | apply r2_ | apply r3_)); exact HO_11.out) hb)
          have n1_ := am_ (kb_ (g := gb265) (o := .cells #[.int .i64 a0_0, .int .i64 a0_1, .slice A0_2 l0_2.length c0_2, .slice A0_3 l0_3.length c0_3, .int .i64 a0_4, .string a0_5, .slice A0_6 l0_6.length c0_6] 26 (0, 0)) (by (with_reducible repeat (first | refine k2_ ?_ _ | refine k3_ ?_ | refine k1_ ?_ _)); exact BK265.out) hb)
          have n2_ := am_ (kb_ (g := gb295) (o := .cells #[.int .i64 t288, .int .i64 t289, .string t290, .int .i64 t291, .string t292, .bool t293] 35 (0, 0)) (by (with_reducible repeat (first | refine k2_ ?_ _ | refine k3_ ?_ | refine k1_ ?_ _)); exact BK295.out) hb)
          have n3_ := am_ (bt_ (by repeat (with_reducible first | exact HB.out | apply p3_ | apply p1_ | apply p2_ | refine bs_ ?_ GE265.out | refine bs_ ?_ GE295.out)) hb)
          clear HO_11
          clear BK265
          clear BK295
          clear HB
          have HO_11 := n0_
          have BK265 := n1_
          have BK295 := n2_
          have HB := n3_
          clear n0_ n1_ n2_ n3_
          (try clear hb)
          (try clear hb2)
          (try clear hk)
          (try clear hi)
          refine hK.out _ _ ⟨((HB.out.cell (wb_ w _ hw296_0)).trans hw296_0), ((HB.out.cell (wb_ w _ hw296_1)).trans hw296_1), ((HB.out.cell (wb_ w _ hw296_2)).trans hw296_2), ((HB.out.cell (wb_ w _ hw296_3)).trans hw296_3), ((HB.out.cell (wb_ w _ hw296_4)).trans hw296_4), ((HB.out.cell (wb_ w _ hw296_5)).trans hw296_5)⟩ (fun hHeld => ?_)
          clear hK K
          refine norm_ (a' := ?_) ?_ ?_
          rotate_left
          ·show Act.put _ (some 98) _ = _
           simp only [Act.put, sa_, sb_, sc_, i64_w, i32_w]
           rfl
          refine pure_ (i := 9) (N := some 99) (v := ?_) (a' := ?_) #[true, true, true, true, true, true, true, true, true, true, false, false, false, false, false, false, false, false, false, false, false, false, false, false, false, false, false] rfl rfl (any_of HT_.out (by kernel_rfl)) (fun _ _ _ h => h) (Or.inl ⟨by rfl, ?_⟩) ?_ ?_
          rotate_left
          ·intro w'
           go_simp
           with_reducible rfl
          rotate_left
          ·simp only [Act.put, sa_, sb_, sc_, i64_w, i32_w]
           rfl
          refine pure_ (i := 10) (N := some 100) (v := undef) (a' := ?_) #[true, true, true, true, true, true, true, true, true, true, true, false, false, false, false, false, false, false, false, false, false, false, false, false, false, false, false] rfl rfl (any_of HT_.out (by kernel_rfl)) (fun _ _ _ h => h) (Or.inr ⟨by rfl, rfl⟩) ?_ ?_
          rotate_left
          ·simp only [Act.put, sa_, sb_, sc_, i64_w, i32_w]
           rfl
          refine pure_ (i := 11) (N := some 101) (v := undef) (a' := ?_) #[true, true, true, true, true, true, true, true, true, true, true, true, false, false, false, false, false, false, false, false, false, false, false, false, false, false, false] rfl rfl (any_of HT_.out (by kernel_rfl)) (fun _ _ _ h => h) (Or.inr ⟨by rfl, rfl⟩) ?_ ?_
          rotate_left
          ·simp only [Act.put, sa_, sb_, sc_, i64_w, i32_w]
           rfl
          refine pure_ (i := 12) (N := some 102) (v := undef) (a' := ?_) #[true, true, true, true, true, true, true, true, true, true, true, true, true, false, false, false, false, false, false, false, false, false, false, false, false, false, false] rfl rfl (any_of HT_.out (by kernel_rfl)) (fun _ _ _ h => h) (Or.inr ⟨by rfl, rfl⟩) ?_ ?_
          rotate_left
          ·simp only [Act.put, sa_, sb_, sc_, i64_w, i32_w]
           rfl
          refine pure_ (i := 13) (N := some 103) (v := undef) (a' := ?_) #[true, true, true, true, true, true, true, true, true, true, true, true, true, true, false, false, false, false, false, false, false, false, false, false, false, false, false] rfl rfl (any_of HT_.out (by kernel_rfl)) (fun _ _ _ h => h) (Or.inr ⟨by rfl, rfl⟩) ?_ ?_
          rotate_left
          ·simp only [Act.put, sa_, sb_, sc_, i64_w, i32_w]
           rfl
          refine pure_ (i := 14) (N := some 104) (v := undef) (a' := ?_) #[true, true, true, true, true, true, true, true, true, true, true, true, true, true, true, false, false, false, false, false, false, false, false, false, false, false, false] rfl rfl (any_of HT_.out (by kernel_rfl)) (fun _ _ _ h => h) (Or.inr ⟨by rfl, rfl⟩) ?_ ?_
          rotate_left
          ·simp only [Act.put, sa_, sb_, sc_, i64_w, i32_w]
           rfl
          refine pure_ (i := 15) (N := some 105) (v := undef) (a' := ?_) #[true, true, true, true, true, true, true, true, true, true, true, true, true, true, true, true, false, false, false, false, false, false, false, false, false, false, false] rfl rfl (any_of HT_.out (by kernel_rfl)) (fun _ _ _ h => h) (Or.inr ⟨by rfl, rfl⟩) ?_ ?_
          rotate_left
          ·simp only [Act.put, sa_, sb_, sc_, i64_w, i32_w]
           rfl
          refine pure_ (i := 16) (N := some 106) (v := undef) (a' := ?_) #[true, true, true, true, true, true, true, true, true, true, true, true, true, true, true, true, true, false, false, false, false, false, false, false, false, false, false] rfl rfl (any_of HT_.out (by kernel_rfl)) (fun _ _ _ h => h) (Or.inr ⟨by rfl, rfl⟩) ?_ ?_
          rotate_left
          ·simp only [Act.put, sa_, sb_, sc_, i64_w, i32_w]
           rfl
          refine pure_ (i := 17) (N := some 107) (v := ?_) (a' := ?_) #[true, true, true, true, true, true, true, true, true, true, true, true, true, true, true, true, true, true, false, false, false, false, false, false, false, false, false] rfl rfl (any_of HT_.out (by kernel_rfl)) (fun _ _ _ h => h) (Or.inl ⟨by rfl, ?_⟩) ?_ ?_
          rotate_left
          ·intro w'
           go_simp
           with_reducible rfl
          rotate_left
          ·simp only [Act.put, sa_, sb_, sc_, i64_w, i32_w]
           rfl
          refine pure_ (i := 18) (N := some 108) (v := ?_) (a' := ?_) #[true, true, true, true, true, true, true, true, true, true, true, true, true, true, true, true, true, true, true, false, false, false, false, false, false, false, false] rfl rfl (any_of HT_.out (by kernel_rfl)) (fun _ _ _ h => h) (Or.inl ⟨by rfl, ?_⟩) ?_ ?_
          rotate_left
          ·intro w'
           go_simp
           with_reducible rfl
          rotate_left
          ·simp only [Act.put, sa_, sb_, sc_, i64_w, i32_w]
           rfl
          refine pure_ (i := 19) (N := some 109) (v := undef) (a' := ?_) #[true, true, true, true, true, true, true, true, true, true, true, true, true, true, true, true, true, true, true, true, false, false, false, false, false, false, false] rfl rfl (any_of HT_.out (by kernel_rfl)) (fun _ _ _ h => h) (Or.inr ⟨by rfl, rfl⟩) ?_ ?_
          rotate_left
          ·simp only [Act.put, sa_, sb_, sc_, i64_w, i32_w]
           rfl
          refine pure_ (i := 20) (N := some 110) (v := undef) (a' := ?_) #[true, true, true, true, true, true, true, true, true, true, true, true, true, true, true, true, true, true, true, true, true, false, false, false, false, false, false] rfl rfl (any_of HT_.out (by kernel_rfl)) (fun _ _ _ h => h) (Or.inr ⟨by rfl, rfl⟩) ?_ ?_
          rotate_left
          ·simp only [Act.put, sa_, sb_, sc_, i64_w, i32_w]
           rfl
          refine pure_ (i := 21) (N := some 111) (v := undef) (a' := ?_) #[true, true, true, true, true, true, true, true, true, true, true, true, true, true, true, true, true, true, true, true, true, true, false, false, false, false, false] rfl rfl (any_of HT_.out (by kernel_rfl)) (fun _ _ _ h => h) (Or.inr ⟨by rfl, rfl⟩) ?_ ?_
          rotate_left
          ·simp only [Act.put, sa_, sb_, sc_, i64_w, i32_w]
           rfl
          refine pure_ (i := 22) (N := some 112) (v := undef) (a' := ?_) #[true, true, true, true, true, true, true, true, true, true, true, true, true, true, true, true, true, true, true, true, true, true, true, false, false, false, false] rfl rfl (any_of HT_.out (by kernel_rfl)) (fun _ _ _ h => h) (Or.inr ⟨by rfl, rfl⟩) ?_ ?_
          rotate_left
          ·simp only [Act.put, sa_, sb_, sc_, i64_w, i32_w]
           rfl
          refine pure_ (i := 23) (N := some 113) (v := undef) (a' := ?_) #[true, true, true, true, true, true, true, true, true, true, true, true, true, true, true, true, true, true, true, true, true, true, true, true, false, false, false] rfl rfl (any_of HT_.out (by kernel_rfl)) (fun _ _ _ h => h) (Or.inr ⟨by rfl, rfl⟩) ?_ ?_
          rotate_left
          ·simp only [Act.put, sa_, sb_, sc_, i64_w, i32_w]
           rfl
          refine pure_ (i := 24) (N := some 114) (v := undef) (a' := ?_) #[true, true, true, true, true, true, true, true, true, true, true, true, true, true, true, true, true, true, true, true, true, true, true, true, true, false, false] rfl rfl (any_of HT_.out (by kernel_rfl)) (fun _ _ _ h => h) (Or.inr ⟨by rfl, rfl⟩) ?_ ?_
          rotate_left
          ·simp only [Act.put, sa_, sb_, sc_, i64_w, i32_w]
           rfl
          refine pure_ (i := 25) (N := some 115) (v := ?_) (a' := ?_) #[true, true, true, true, true, true, true, true, true, true, true, true, true, true, true, true, true, true, true, true, true, true, true, true, true, true, false] rfl rfl (any_of HT_.out (by kernel_rfl)) (fun _ _ _ h => h) (Or.inl ⟨by rfl, ?_⟩) ?_ ?_
          rotate_left
          ·intro w'
           go_simp
           with_reducible rfl
          rotate_left
          ·simp only [Act.put, sa_, sb_, sc_, i64_w, i32_w]
           rfl
          refine pure_ (i := 26) (N := some 116) (v := ?_) (a' := ?_) #[true, true, true, true, true, true, true, true, true, true, true, true, true, true, true, true, true, true, true, true, true, true, true, true, true, true, true] rfl rfl (any_of HT_.out (by kernel_rfl)) (fun _ _ _ h => h) (Or.inl ⟨by rfl, ?_⟩) ?_ ?_
          rotate_left
          ·intro w'
           go_simp
           with_reducible rfl
          rotate_left
          ·simp only [Act.put, sa_, sb_, sc_, i64_w, i32_w]
           rfl
          refine done_ (done_of HT_.out (by kernel_rfl)) ?_
          try go_wp2
          go_meet
          case rel => exact ⟨_, (false), (by first | rfl | (simp; done) | (simp [*]; done)), H', ⟨by have := HK1.out; have := HK2.out; first | omega | exact Nat.le_refl _⟩, ⟨by (with_reducible repeat (first | apply r1_ | apply r2_ | apply r3_)); exact HO_11.out⟩, ⟨by (with_reducible repeat (first | refine k2_ ?_ _ | refine k3_ ?_ | refine k1_ ?_ _)); exact BK265.out⟩, ⟨by (with_reducible repeat (first | refine k2_ ?_ _ | refine k3_ ?_ | refine k1_ ?_ _)); exact BK295.out⟩, ⟨by repeat (with_reducible first | exact HB.out | apply p3_ | apply p1_ | apply p2_ | refine bs_ ?_ GE265.out | refine bs_ ?_ GE295.out)⟩⟩
         replace c38 := e3_ c38
         subst c38
         have H1 : (pinfoldlaw15_OfferOthers.j2 k2 l1 a2 a3 t267 t270 x14_1 x16_2 true t288 t289 t290 t291 t292 t293) = some r := by rw [if_neg (show ¬ (false = true) by decide)] at H; exact H
         clear H
         have H := H1
         clear H1
         have H' := am_ H
         clear H
         try go_wp2
         have n0_ : Aside0 (Kd.R k35 35 ((((((w35.setCell ⟨gb295, 0, none⟩ (.int .i64 t288)).setCell ⟨gb295, 1, none⟩ (.int .i64 t289)).setCell ⟨gb295, 2, none⟩ (.string t290)).setCell ⟨gb295, 3, none⟩ (.int .i64 t291)).setCell ⟨gb295, 4, none⟩ (.string t292)).setCell ⟨gb295, 5, none⟩ (.bool t293)) w.heap.size (fun k_ => k_ ≠ gb295) (.slice Ao29 t267.length co29) t267) := ⟨by (with_reducible repeat (first | apply r1_ | apply r2_ | apply r3_)); exact Kd.R_mono (Kd.R_far (p := ⟨gb295, 5, none⟩) (Kd.R_far (p := ⟨gb295, 4, none⟩) (Kd.R_far (p := ⟨gb295, 3, none⟩) (Kd.R_far (p := ⟨gb295, 2, none⟩) (Kd.R_far (p := ⟨gb295, 1, none⟩) (Kd.R_far (p := ⟨gb295, 0, none⟩) (Kd.R_mono HO_11.out (fun k_ hk => (⟨hk, hk.2⟩ : _ ∧ k_ ≠ gb295))) (fun _ hk => hk.2) (.int .i64 t288)) (fun _ hk => hk.2) (.int .i64 t289)) (fun _ hk => hk.2) (.string t290)) (fun _ hk => hk.2) (.int .i64 t291)) (fun _ hk => hk.2) (.string t292)) (fun _ hk => hk.2) (.bool t293)) (fun _ hk => hk.1.2)⟩
         have n1_ : Aside0 (((((((w35.setCell ⟨gb295, 0, none⟩ (.int .i64 t288)).setCell ⟨gb295, 1, none⟩ (.int .i64 t289)).setCell ⟨gb295, 2, none⟩ (.string t290)).setCell ⟨gb295, 3, none⟩ (.int .i64 t291)).setCell ⟨gb295, 4, none⟩ (.string t292)).setCell ⟨gb295, 5, none⟩ (.bool t293)).heap[gb265]? = some (.cells #[.int .i64 a0_0, .int .i64 a0_1, .slice A0_2 l0_2.length c0_2, .slice A0_3 l0_3.length c0_3, .int .i64 a0_4, .string a0_5, .slice A0_6 l0_6.length c0_6] 26 (0, 0))) := ⟨by (with_reducible repeat (first | refine k2_ ?_ _ | refine k3_ ?_ | refine k1_ ?_ _)); refine blk_far ?_ NB265_295.out _; (with_reducible repeat (first | refine k2_ ?_ _ | refine k3_ ?_ | refine k1_ ?_ _)); refine blk_far ?_ NB265_295.out _; (with_reducible repeat (first | refine k2_ ?_ _ | refine k3_ ?_ | refine k1_ ?_ _)); refine blk_far ?_ NB265_295.out _; (with_reducible repeat (first | refine k2_ ?_ _ | refine k3_ ?_ | refine k1_ ?_ _)); refine blk_far ?_ NB265_295.out _; (with_reducible repeat (first | refine k2_ ?_ _ | refine k3_ ?_ | refine k1_ ?_ _)); refine blk_far ?_ NB265_295.out _; (with_reducible repeat (first | refine k2_ ?_ _ | refine k3_ ?_ | refine k1_ ?_ _)); refine blk_far ?_ NB265_295.out _; (with_reducible repeat (first | refine k2_ ?_ _ | refine k3_ ?_ | refine k1_ ?_ _)); exact BK265.out⟩
         have n2_ : Aside0 (((((((w35.setCell ⟨gb295, 0, none⟩ (.int .i64 t288)).setCell ⟨gb295, 1, none⟩ (.int .i64 t289)).setCell ⟨gb295, 2, none⟩ (.string t290)).setCell ⟨gb295, 3, none⟩ (.int .i64 t291)).setCell ⟨gb295, 4, none⟩ (.string t292)).setCell ⟨gb295, 5, none⟩ (.bool t293)).heap[gb295]? = some (.cells #[.int .i64 t288, .int .i64 t289, .string t290, .int .i64 t291, .string t292, .bool t293] 35 (0, 0))) := ⟨by (with_reducible repeat (first | refine k2_ ?_ _ | refine k3_ ?_ | refine k1_ ?_ _)); refine blk_put (cs := #[.int .i64 t288, .int .i64 t289, .string t290, .int .i64 t291, .string t292, .bool false]) ?_ 5 _ rfl; (with_reducible repeat (first | refine k2_ ?_ _ | refine k3_ ?_ | refine k1_ ?_ _)); refine blk_put (cs := #[.int .i64 t288, .int .i64 t289, .string t290, .int .i64 t291, .string (⟨#[]⟩ : ByteArray), .bool false]) ?_ 4 _ rfl; (with_reducible repeat (first | refine k2_ ?_ _ | refine k3_ ?_ | refine k1_ ?_ _)); refine blk_put (cs := #[.int .i64 t288, .int .i64 t289, .string t290, .int .i64 0, .string (⟨#[]⟩ : ByteArray), .bool false]) ?_ 3 _ rfl; (with_reducible repeat (first | refine k2_ ?_ _ | refine k3_ ?_ | refine k1_ ?_ _)); refine blk_put (cs := #[.int .i64 t288, .int .i64 t289, .string (⟨#[]⟩ : ByteArray), .int .i64 0, .string (⟨#[]⟩ : ByteArray), .bool false]) ?_ 2 _ rfl; (with_reducible repeat (first | refine k2_ ?_ _ | refine k3_ ?_ | refine k1_ ?_ _)); refine blk_put (cs := #[.int .i64 t288, .int .i64 0, .string (⟨#[]⟩ : ByteArray), .int .i64 0, .string (⟨#[]⟩ : ByteArray), .bool false]) ?_ 1 _ rfl; (with_reducible repeat (first | refine k2_ ?_ _ | refine k3_ ?_ | refine k1_ ?_ _)); refine blk_put (cs := #[.int .i64 0, .int .i64 0, .string (⟨#[]⟩ : ByteArray), .int .i64 0, .string (⟨#[]⟩ : ByteArray), .bool false]) ?_ 0 _ rfl; (with_reducible repeat (first | refine k2_ ?_ _ | refine k3_ ?_ | refine k1_ ?_ _)); exact BK295.out⟩
         have n3_ : Aside0 (Below w.heap.size w ((((((w35.setCell ⟨gb295, 0, none⟩ (.int .i64 t288)).setCell ⟨gb295, 1, none⟩ (.int .i64 t289)).setCell ⟨gb295, 2, none⟩ (.string t290)).setCell ⟨gb295, 3, none⟩ (.int .i64 t291)).setCell ⟨gb295, 4, none⟩ (.string t292)).setCell ⟨gb295, 5, none⟩ (.bool t293))) := ⟨by repeat (with_reducible first | exact HB.out | apply p3_ | apply p1_ | apply p2_ | refine bs_ ?_ GE265.out | refine bs_ ?_ GE295.out)⟩
         (try clear HO_11)
         (try clear BK265)
         (try clear BK295)
         (try clear HB)
         generalize ((((((w35.setCell ⟨gb295, 0, none⟩ (.int .i64 t288)).setCell ⟨gb295, 1, none⟩ (.int .i64 t289)).setCell ⟨gb295, 2, none⟩ (.string t290)).setCell ⟨gb295, 3, none⟩ (.int .i64 t291)).setCell ⟨gb295, 4, none⟩ (.string t292)).setCell ⟨gb295, 5, none⟩ (.bool t293)) = w51 at n0_ n1_ n2_ n3_ ⊢
         have HO_11 := n0_
         have BK265 := n1_
         have BK295 := n2_
         have HB := n3_
         clear n0_ n1_ n2_ n3_
         have n0_ := am_ (r3_ HO_11.out)
         have n1_ := am_ (k3_ BK265.out)
         have n2_ := am_ (k3_ BK295.out)
         have n3_ := am_ (p2_ HB.out)
         clear HO_11
         clear BK265
         clear BK295
         clear HB
         have HO_11 := n0_
         have BK265 := n1_
         have BK295 := n2_
         have HB := n3_
         clear n0_ n1_ n2_ n3_
         refine start_ (n := 27) (S := fun w' => True) (ds := []) #[false, false, false, false, false, false, false, false, false, false, false, false, false, false, false, false, false, false, false, false, false, false, false, false, false, false, false] (by kernel_rfl) rfl rfl trivial (fun hHeld => ?_); refine with_tabW pinfoldlaw15_OfferOthers.tab16 pinfoldlaw15_OfferOthers.bits16 (fun HT_ HW_ => ?_)
         generalize w51.drew = w52 at HO_11 BK265 BK295 HB hHeld ⊢
         refine pure_ (i := 0) (N := some 90) (v := ?_) (a' := ?_) #[true, false, false, false, false, false, false, false, false, false, false, false, false, false, false, false, false, false, false, false, false, false, false, false, false, false, false] rfl rfl (any_of HT_.out (by kernel_rfl)) (fun _ _ _ h => h) (Or.inl ⟨by rfl, ?_⟩) ?_ ?_
         rotate_left
         ·intro w'
          go_simp
          with_reducible rfl
         rotate_left
         ·simp only [Act.put, sa_, sb_, sc_, i64_w, i32_w]
          rfl
         refine pure_ (i := 1) (N := some 91) (v := ?_) (a' := ?_) #[true, true, false, false, false, false, false, false, false, false, false, false, false, false, false, false, false, false, false, false, false, false, false, false, false, false, false] rfl rfl (any_of HT_.out (by kernel_rfl)) (fun _ _ _ h => h) (Or.inl ⟨by rfl, ?_⟩) ?_ ?_
         rotate_left
         ·intro w'
          go_simp
          with_reducible rfl
         rotate_left
         ·simp only [Act.put, sa_, sb_, sc_, i64_w, i32_w]
          rfl
         refine pure_ (i := 2) (N := some 92) (v := ?_) (a' := ?_) #[true, true, true, false, false, false, false, false, false, false, false, false, false, false, false, false, false, false, false, false, false, false, false, false, false, false, false] rfl rfl (any_of HT_.out (by kernel_rfl)) (fun _ _ _ h => h) (Or.inl ⟨by rfl, ?_⟩) ?_ ?_
         rotate_left
         ·intro w'
          go_simp
          with_reducible rfl
         rotate_left
         ·simp only [Act.put, sa_, sb_, sc_, i64_w, i32_w]
          rfl
         refine pure_ (i := 3) (N := some 93) (v := undef) (a' := ?_) #[true, true, true, true, false, false, false, false, false, false, false, false, false, false, false, false, false, false, false, false, false, false, false, false, false, false, false] rfl rfl (any_of HT_.out (by kernel_rfl)) (fun _ _ _ h => h) (Or.inr ⟨by rfl, rfl⟩) ?_ ?_
         rotate_left
         ·simp only [Act.put, sa_, sb_, sc_, i64_w, i32_w]
          rfl
         refine pure_ (i := 4) (N := some 94) (v := undef) (a' := ?_) #[true, true, true, true, true, false, false, false, false, false, false, false, false, false, false, false, false, false, false, false, false, false, false, false, false, false, false] rfl rfl (any_of HT_.out (by kernel_rfl)) (fun _ _ _ h => h) (Or.inr ⟨by rfl, rfl⟩) ?_ ?_
         rotate_left
         ·simp only [Act.put, sa_, sb_, sc_, i64_w, i32_w]
          rfl
         refine pure_ (i := 5) (N := some 95) (v := undef) (a' := ?_) #[true, true, true, true, true, true, false, false, false, false, false, false, false, false, false, false, false, false, false, false, false, false, false, false, false, false, false] rfl rfl (any_of HT_.out (by kernel_rfl)) (fun _ _ _ h => h) (Or.inr ⟨by rfl, rfl⟩) ?_ ?_
         rotate_left
         ·simp only [Act.put, sa_, sb_, sc_, i64_w, i32_w]
          rfl
         refine pure_ (i := 6) (N := some 96) (v := undef) (a' := ?_) #[true, true, true, true, true, true, true, false, false, false, false, false, false, false, false, false, false, false, false, false, false, false, false, false, false, false, false] rfl rfl (any_of HT_.out (by kernel_rfl)) (fun _ _ _ h => h) (Or.inr ⟨by rfl, rfl⟩) ?_ ?_
         rotate_left
         ·simp only [Act.put, sa_, sb_, sc_, i64_w, i32_w]
          rfl
         refine pure_ (i := 7) (N := some 97) (v := undef) (a' := ?_) #[true, true, true, true, true, true, true, true, false, false, false, false, false, false, false, false, false, false, false, false, false, false, false, false, false, false, false] rfl rfl (any_of HT_.out (by kernel_rfl)) (fun _ _ _ h => h) (Or.inr ⟨by rfl, rfl⟩) ?_ ?_
         rotate_left
         ·simp only [Act.put, sa_, sb_, sc_, i64_w, i32_w]
          rfl
         refine pure_ (i := 8) (N := some 98) (v := undef) (a' := ?_) #[true, true, true, true, true, true, true, true, true, false, false, false, false, false, false, false, false, false, false, false, false, false, false, false, false, false, false] rfl rfl (any_of HT_.out (by kernel_rfl)) (fun _ _ _ h => h) (Or.inr ⟨by rfl, rfl⟩) ?_ ?_
         rotate_left
         ·simp only [Act.put, sa_, sb_, sc_, i64_w, i32_w]
          rfl
         refine pure_ (i := 9) (N := some 99) (v := undef) (a' := ?_) #[true, true, true, true, true, true, true, true, true, true, false, false, false, false, false, false, false, false, false, false, false, false, false, false, false, false, false] rfl rfl (any_of HT_.out (by kernel_rfl)) (fun _ _ _ h => h) (Or.inr ⟨by rfl, rfl⟩) ?_ ?_
         rotate_left
         ·simp only [Act.put, sa_, sb_, sc_, i64_w, i32_w]
          rfl
         refine pure_ (i := 10) (N := some 100) (v := undef) (a' := ?_) #[true, true, true, true, true, true, true, true, true, true, true, false, false, false, false, false, false, false, false, false, false, false, false, false, false, false, false] rfl rfl (any_of HT_.out (by kernel_rfl)) (fun _ _ _ h => h) (Or.inr ⟨by rfl, rfl⟩) ?_ ?_
         rotate_left
         ·simp only [Act.put, sa_, sb_, sc_, i64_w, i32_w]
          rfl
         refine pure_ (i := 11) (N := some 101) (v := undef) (a' := ?_) #[true, true, true, true, true, true, true, true, true, true, true, true, false, false, false, false, false, false, false, false, false, false, false, false, false, false, false] rfl rfl (any_of HT_.out (by kernel_rfl)) (fun _ _ _ h => h) (Or.inr ⟨by rfl, rfl⟩) ?_ ?_
         rotate_left
         ·simp only [Act.put, sa_, sb_, sc_, i64_w, i32_w]
          rfl
         refine pure_ (i := 12) (N := some 102) (v := undef) (a' := ?_) #[true, true, true, true, true, true, true, true, true, true, true, true, true, false, false, false, false, false, false, false, false, false, false, false, false, false, false] rfl rfl (any_of HT_.out (by kernel_rfl)) (fun _ _ _ h => h) (Or.inr ⟨by rfl, rfl⟩) ?_ ?_
         rotate_left
         ·simp only [Act.put, sa_, sb_, sc_, i64_w, i32_w]
          rfl
         refine pure_ (i := 13) (N := some 103) (v := undef) (a' := ?_) #[true, true, true, true, true, true, true, true, true, true, true, true, true, true, false, false, false, false, false, false, false, false, false, false, false, false, false] rfl rfl (any_of HT_.out (by kernel_rfl)) (fun _ _ _ h => h) (Or.inr ⟨by rfl, rfl⟩) ?_ ?_
         rotate_left
         ·simp only [Act.put, sa_, sb_, sc_, i64_w, i32_w]
          rfl
         refine pure_ (i := 14) (N := some 104) (v := undef) (a' := ?_) #[true, true, true, true, true, true, true, true, true, true, true, true, true, true, true, false, false, false, false, false, false, false, false, false, false, false, false] rfl rfl (any_of HT_.out (by kernel_rfl)) (fun _ _ _ h => h) (Or.inr ⟨by rfl, rfl⟩) ?_ ?_
         rotate_left
         ·simp only [Act.put, sa_, sb_, sc_, i64_w, i32_w]
          rfl
         refine pure_ (i := 15) (N := some 105) (v := undef) (a' := ?_) #[true, true, true, true, true, true, true, true, true, true, true, true, true, true, true, true, false, false, false, false, false, false, false, false, false, false, false] rfl rfl (any_of HT_.out (by kernel_rfl)) (fun _ _ _ h => h) (Or.inr ⟨by rfl, rfl⟩) ?_ ?_
         rotate_left
         ·simp only [Act.put, sa_, sb_, sc_, i64_w, i32_w]
          rfl
         refine pure_ (i := 16) (N := some 106) (v := undef) (a' := ?_) #[true, true, true, true, true, true, true, true, true, true, true, true, true, true, true, true, true, false, false, false, false, false, false, false, false, false, false] rfl rfl (any_of HT_.out (by kernel_rfl)) (fun _ _ _ h => h) (Or.inr ⟨by rfl, rfl⟩) ?_ ?_
         rotate_left
         ·simp only [Act.put, sa_, sb_, sc_, i64_w, i32_w]
          rfl
         refine pure_ (i := 17) (N := some 107) (v := undef) (a' := ?_) #[true, true, true, true, true, true, true, true, true, true, true, true, true, true, true, true, true, true, false, false, false, false, false, false, false, false, false] rfl rfl (any_of HT_.out (by kernel_rfl)) (fun _ _ _ h => h) (Or.inr ⟨by rfl, rfl⟩) ?_ ?_
         rotate_left
         ·simp only [Act.put, sa_, sb_, sc_, i64_w, i32_w]
          rfl
         refine pure_ (i := 18) (N := some 108) (v := undef) (a' := ?_) #[true, true, true, true, true, true, true, true, true, true, true, true, true, true, true, true, true, true, true, false, false, false, false, false, false, false, false] rfl rfl (any_of HT_.out (by kernel_rfl)) (fun _ _ _ h => h) (Or.inr ⟨by rfl, rfl⟩) ?_ ?_
         rotate_left
         ·simp only [Act.put, sa_, sb_, sc_, i64_w, i32_w]
          rfl
         refine pure_ (i := 19) (N := some 109) (v := undef) (a' := ?_) #[true, true, true, true, true, true, true, true, true, true, true, true, true, true, true, true, true, true, true, true, false, false, false, false, false, false, false] rfl rfl (any_of HT_.out (by kernel_rfl)) (fun _ _ _ h => h) (Or.inr ⟨by rfl, rfl⟩) ?_ ?_
         rotate_left
         ·simp only [Act.put, sa_, sb_, sc_, i64_w, i32_w]
          rfl
         refine pure_ (i := 20) (N := some 110) (v := undef) (a' := ?_) #[true, true, true, true, true, true, true, true, true, true, true, true, true, true, true, true, true, true, true, true, true, false, false, false, false, false, false] rfl rfl (any_of HT_.out (by kernel_rfl)) (fun _ _ _ h => h) (Or.inr ⟨by rfl, rfl⟩) ?_ ?_
         rotate_left
         ·simp only [Act.put, sa_, sb_, sc_, i64_w, i32_w]
          rfl
         refine pure_ (i := 21) (N := some 111) (v := undef) (a' := ?_) #[true, true, true, true, true, true, true, true, true, true, true, true, true, true, true, true, true, true, true, true, true, true, false, false, false, false, false] rfl rfl (any_of HT_.out (by kernel_rfl)) (fun _ _ _ h => h) (Or.inr ⟨by rfl, rfl⟩) ?_ ?_
         rotate_left
         ·simp only [Act.put, sa_, sb_, sc_, i64_w, i32_w]
          rfl
         refine pure_ (i := 22) (N := some 112) (v := undef) (a' := ?_) #[true, true, true, true, true, true, true, true, true, true, true, true, true, true, true, true, true, true, true, true, true, true, true, false, false, false, false] rfl rfl (any_of HT_.out (by kernel_rfl)) (fun _ _ _ h => h) (Or.inr ⟨by rfl, rfl⟩) ?_ ?_
         rotate_left
         ·simp only [Act.put, sa_, sb_, sc_, i64_w, i32_w]
          rfl
         refine pure_ (i := 23) (N := some 113) (v := undef) (a' := ?_) #[true, true, true, true, true, true, true, true, true, true, true, true, true, true, true, true, true, true, true, true, true, true, true, true, false, false, false] rfl rfl (any_of HT_.out (by kernel_rfl)) (fun _ _ _ h => h) (Or.inr ⟨by rfl, rfl⟩) ?_ ?_
         rotate_left
         ·simp only [Act.put, sa_, sb_, sc_, i64_w, i32_w]
          rfl
         refine pure_ (i := 24) (N := some 114) (v := undef) (a' := ?_) #[true, true, true, true, true, true, true, true, true, true, true, true, true, true, true, true, true, true, true, true, true, true, true, true, true, false, false] rfl rfl (any_of HT_.out (by kernel_rfl)) (fun _ _ _ h => h) (Or.inr ⟨by rfl, rfl⟩) ?_ ?_
         rotate_left
         ·simp only [Act.put, sa_, sb_, sc_, i64_w, i32_w]
          rfl
         refine pure_ (i := 25) (N := some 115) (v := undef) (a' := ?_) #[true, true, true, true, true, true, true, true, true, true, true, true, true, true, true, true, true, true, true, true, true, true, true, true, true, true, false] rfl rfl (any_of HT_.out (by kernel_rfl)) (fun _ _ _ h => h) (Or.inr ⟨by rfl, rfl⟩) ?_ ?_
         rotate_left
         ·simp only [Act.put, sa_, sb_, sc_, i64_w, i32_w]
          rfl
         refine pure_ (i := 26) (N := some 116) (v := ?_) (a' := ?_) #[true, true, true, true, true, true, true, true, true, true, true, true, true, true, true, true, true, true, true, true, true, true, true, true, true, true, true] rfl rfl (any_of HT_.out (by kernel_rfl)) (fun _ _ _ h => h) (Or.inl ⟨by rfl, ?_⟩) ?_ ?_
         rotate_left
         ·intro w'
          go_simp
          with_reducible rfl
         rotate_left
         ·simp only [Act.put, sa_, sb_, sc_, i64_w, i32_w]
          rfl
         refine done_ (done_of HT_.out (by kernel_rfl)) ?_
         try go_wp2
         go_meet
         case rel => exact ⟨_, (true), (by first | rfl | (simp; done) | (simp [*]; done)), H', ⟨by have := HK1.out; have := HK2.out; first | omega | exact Nat.le_refl _⟩, ⟨by (with_reducible repeat (first | apply r1_ | apply r2_ | apply r3_)); exact HO_11.out⟩, ⟨by (with_reducible repeat (first | refine k2_ ?_ _ | refine k3_ ?_ | refine k1_ ?_ _)); exact BK265.out⟩, ⟨by (with_reducible repeat (first | refine k2_ ?_ _ | refine k3_ ?_ | refine k1_ ?_ _)); exact BK295.out⟩, ⟨by repeat (with_reducible first | exact HB.out | apply p3_ | apply p1_ | apply p2_ | refine bs_ ?_ GE265.out | refine bs_ ?_ GE295.out)⟩⟩
        case rest =>
         clear HC33
         obtain ⟨kq, x116_32, rfl, HA, HJ32, HO_11, BK265, BK295, HB⟩ := hcut
         cases kq with
         | zero => exact absurd HA.out (by simp [pinfoldlaw15_OfferOthers.j2])
         | succ kj32 =>
          have H := HA.out
          clear HA
          simp only [pinfoldlaw15_OfferOthers.j2] at H
          by_cases c53 : x116_32 = true
          ·subst c53
           have H1 : (none) = some r := by rw [if_pos rfl] at H; exact H
           clear H
           have H := H1
           clear H1
           exact absurd H (by simp)
          replace c53 := e3_ c53
          subst c53
          have H1 : (if 0 ≤ x16_2 then (if x16_2 < (l1.length : Int) then ((pinfoldref11_Live_c.f ((rd_T35 l1 x16_2).f0) ((rd_T35 l1 x16_2).f1) ((rd_T35 l1 x16_2).f2) ((rd_T35 l1 x16_2).f3) ((rd_T35 l1 x16_2).f4) ((rd_T35 l1 x16_2).f5) a2).bind fun t301 => (if t301 = true then (if ((rd_T35 l1 x16_2).f1) = 2 then (if (!(t288 == ((rd_T35 l1 x16_2).f0)) || (!(t289 == ((rd_T35 l1 x16_2).f1)) || (!(t290.toList == (((rd_T35 l1 x16_2).f2).toList)) || (!(t291 == ((rd_T35 l1 x16_2).f3)) || (!(t292.toList == (((rd_T35 l1 x16_2).f4).toList)) || (!(t293 == ((rd_T35 l1 x16_2).f5)))))))) = true then (none) else (pinfoldlaw15_OfferOthers.l1 kj32 l1 a2 a3 t267 t270 x14_1 (wrap64 (x16_2 + 1)))) else (pinfoldlaw15_OfferOthers.l1 kj32 l1 a2 a3 t267 t270 x14_1 (wrap64 (x16_2 + 1)))) else (pinfoldlaw15_OfferOthers.l1 kj32 l1 a2 a3 t267 t270 x14_1 (wrap64 (x16_2 + 1))))) else (none)) else (none)) = some r := by rw [if_neg (show ¬ (false = true) by decide)] at H; exact H
          clear H
          have H := H1
          clear H1
          by_cases c54 : 0 ≤ x16_2
          rotate_left
          ·rw [if_neg c54] at H
           exact absurd H (by simp)
          rw [if_pos c54] at H
          have c54b0 : decide (0 ≤ x16_2) = true := decide_eq_true c54
          clear c54
          by_cases c55 : x16_2 < (l1.length : Int)
          rotate_left
          ·rw [if_neg c55] at H
           exact absurd H (by simp)
          rw [if_pos c55] at H
          have c55b0 : decide (x16_2 < (l1.length : Int)) = true := decide_eq_true c55
          clear c55
          replace H := e4_ H
          obtain ⟨t301, A560, H⟩ := H
          replace H : (if t301 = true then (if ((rd_T35 l1 x16_2).f1) = 2 then (if (!(t288 == ((rd_T35 l1 x16_2).f0)) || (!(t289 == ((rd_T35 l1 x16_2).f1)) || (!(t290.toList == (((rd_T35 l1 x16_2).f2).toList)) || (!(t291 == ((rd_T35 l1 x16_2).f3)) || (!(t292.toList == (((rd_T35 l1 x16_2).f4).toList)) || (!(t293 == ((rd_T35 l1 x16_2).f5)))))))) = true then (none) else (pinfoldlaw15_OfferOthers.l1 kj32 l1 a2 a3 t267 t270 x14_1 (wrap64 (x16_2 + 1)))) else (pinfoldlaw15_OfferOthers.l1 kj32 l1 a2 a3 t267 t270 x14_1 (wrap64 (x16_2 + 1)))) else (pinfoldlaw15_OfferOthers.l1 kj32 l1 a2 a3 t267 t270 x14_1 (wrap64 (x16_2 + 1)))) = some r := H
          have A56 := am_ A560
          clear A560
          by_cases c57 : t301 = true
          ·subst c57
           have H1 : (if ((rd_T35 l1 x16_2).f1) = 2 then (if (!(t288 == ((rd_T35 l1 x16_2).f0)) || (!(t289 == ((rd_T35 l1 x16_2).f1)) || (!(t290.toList == (((rd_T35 l1 x16_2).f2).toList)) || (!(t291 == ((rd_T35 l1 x16_2).f3)) || (!(t292.toList == (((rd_T35 l1 x16_2).f4).toList)) || (!(t293 == ((rd_T35 l1 x16_2).f5)))))))) = true then (none) else (pinfoldlaw15_OfferOthers.l1 kj32 l1 a2 a3 t267 t270 x14_1 (wrap64 (x16_2 + 1)))) else (pinfoldlaw15_OfferOthers.l1 kj32 l1 a2 a3 t267 t270 x14_1 (wrap64 (x16_2 + 1)))) = some r := by rw [if_pos rfl] at H; exact H
           clear H
           have H := H1
           clear H1
           by_cases c58 : ((rd_T35 l1 x16_2).f1) = 2
           ·rw [if_pos c58] at H
            have c58b0 : (((rd_T35 l1 x16_2).f1) == 2) = true := beq_iff_eq.mpr c58
            have c58b1 : (((rd_T35 l1 x16_2).f1) != 2) = false := e1_ c58
            clear c58
            by_cases c59 : (!(t288 == ((rd_T35 l1 x16_2).f0)) || (!(t289 == ((rd_T35 l1 x16_2).f1)) || (!(t290.toList == (((rd_T35 l1 x16_2).f2).toList)) || (!(t291 == ((rd_T35 l1 x16_2).f3)) || (!(t292.toList == (((rd_T35 l1 x16_2).f4).toList)) || (!(t293 == ((rd_T35 l1 x16_2).f5)))))))) = true
            ·rw [if_pos c59] at H
             exact absurd H (by simp)
            rw [if_neg c59] at H
            have c59b0 : (!(t288 == ((rd_T35 l1 x16_2).f0)) || (!(t289 == ((rd_T35 l1 x16_2).f1)) || (!(t290.toList == (((rd_T35 l1 x16_2).f2).toList)) || (!(t291 == ((rd_T35 l1 x16_2).f3)) || (!(t292.toList == (((rd_T35 l1 x16_2).f4).toList)) || (!(t293 == ((rd_T35 l1 x16_2).f5)))))))) = false := by simpa using c59
            clear c59
            have H' := am_ H
            clear H
            try go_wp2
            have n0_ := am_ (r3_ HO_11.out)
            have n1_ := am_ (k3_ BK265.out)
            have n2_ := am_ (k3_ BK295.out)
            have n3_ := am_ (p2_ HB.out)
            clear HO_11
            clear BK265
            clear BK295
            clear HB
            have HO_11 := n0_
            have BK265 := n1_
            have BK295 := n2_
            have HB := n3_
            clear n0_ n1_ n2_ n3_
            have p300 : 0 ≤ (x16_2 : Int) := of_decide_eq_true (by first | (with_reducible assumption) | assumption)
            have q300 : x16_2 < (l1.length : Int) := of_decide_eq_true (by first | (with_reducible assumption) | assumption)
            obtain ⟨ad300, e300, hx300_0, hx300_1, hx300_2, hx300_3, hx300_4, hx300_5⟩ := at_T35 HR1.out x16_2 p300 q300
            have hw300_5 := hx300_5
            have hw300_4 := hx300_4
            have hw300_3 := hx300_3
            have hw300_2 := hx300_2
            have hw300_1 := hx300_1
            have hw300_0 := hx300_0
            obtain rfl : ad287 = ad300 := (by injection e300)
            replace hx300_0 := (HB.out.cell (wb_ w _ hx300_0)).trans hx300_0
            replace hx300_1 := (HB.out.cell (wb_ w _ hx300_1)).trans hx300_1
            replace hx300_2 := (HB.out.cell (wb_ w _ hx300_2)).trans hx300_2
            replace hx300_3 := (HB.out.cell (wb_ w _ hx300_3)).trans hx300_3
            replace hx300_4 := (HB.out.cell (wb_ w _ hx300_4)).trans hx300_4
            replace hx300_5 := (HB.out.cell (wb_ w _ hx300_5)).trans hx300_5
            replace p300 := eq_true p300
            replace q300 := eq_true q300
            have p302 : 0 ≤ (x16_2 : Int) := of_decide_eq_true (by first | (with_reducible assumption) | assumption)
            have q302 : x16_2 < (l1.length : Int) := of_decide_eq_true (by first | (with_reducible assumption) | assumption)
            obtain ⟨ad302, e302, hx302_0, hx302_1, hx302_2, hx302_3, hx302_4, hx302_5⟩ := at_T35 HR1.out x16_2 p302 q302
            have hw302_5 := hx302_5
            have hw302_4 := hx302_4
            have hw302_3 := hx302_3
            have hw302_2 := hx302_2
            have hw302_1 := hx302_1
            have hw302_0 := hx302_0
            obtain rfl : ad287 = ad302 := (by injection e302)
            replace hx302_0 := (HB.out.cell (wb_ w _ hx302_0)).trans hx302_0
            replace hx302_1 := (HB.out.cell (wb_ w _ hx302_1)).trans hx302_1
            replace hx302_2 := (HB.out.cell (wb_ w _ hx302_2)).trans hx302_2
            replace hx302_3 := (HB.out.cell (wb_ w _ hx302_3)).trans hx302_3
            replace hx302_4 := (HB.out.cell (wb_ w _ hx302_4)).trans hx302_4
            replace hx302_5 := (HB.out.cell (wb_ w _ hx302_5)).trans hx302_5
            replace p302 := eq_true p302
            replace q302 := eq_true q302
            have p303 : 0 ≤ (x16_2 : Int) := of_decide_eq_true (by first | (with_reducible assumption) | assumption)
            have q303 : x16_2 < (l1.length : Int) := of_decide_eq_true (by first | (with_reducible assumption) | assumption)
            obtain ⟨ad303, e303, hx303_0, hx303_1, hx303_2, hx303_3, hx303_4, hx303_5⟩ := at_T35 HR1.out x16_2 p303 q303
            have hw303_5 := hx303_5
            have hw303_4 := hx303_4
            have hw303_3 := hx303_3
            have hw303_2 := hx303_2
            have hw303_1 := hx303_1
            have hw303_0 := hx303_0
            obtain rfl : ad287 = ad303 := (by injection e303)
            replace hx303_0 := (HB.out.cell (wb_ w _ hx303_0)).trans hx303_0
            replace hx303_1 := (HB.out.cell (wb_ w _ hx303_1)).trans hx303_1
            replace hx303_2 := (HB.out.cell (wb_ w _ hx303_2)).trans hx303_2
            replace hx303_3 := (HB.out.cell (wb_ w _ hx303_3)).trans hx303_3
            replace hx303_4 := (HB.out.cell (wb_ w _ hx303_4)).trans hx303_4
            replace hx303_5 := (HB.out.cell (wb_ w _ hx303_5)).trans hx303_5
            replace p303 := eq_true p303
            replace q303 := eq_true q303
            refine start_ (n := 22) (S := fun w' => w'.cell? ⟨gb295, 0, none⟩ = some (.int .i64 t288) ∧ w'.cell? ⟨gb295, 1, none⟩ = some (.int .i64 t289) ∧ w'.cell? ⟨gb295, 2, none⟩ = some (.string t290) ∧ w'.cell? ⟨gb295, 3, none⟩ = some (.int .i64 t291) ∧ w'.cell? ⟨gb295, 4, none⟩ = some (.string t292) ∧ w'.cell? ⟨gb295, 5, none⟩ = some (.bool t293) ∧ w'.cell? (ad287.add ((x16_2).toNat * 6)) = some (.int .i64 ((rd_T35 l1 x16_2).f0)) ∧ w'.cell? ⟨(ad287.add ((x16_2).toNat * 6)).block, (ad287.add ((x16_2).toNat * 6)).off + 1, none⟩ = some (.int .i64 ((rd_T35 l1 x16_2).f1)) ∧ w'.cell? ⟨(ad287.add ((x16_2).toNat * 6)).block, (ad287.add ((x16_2).toNat * 6)).off + 2, none⟩ = some (.string ((rd_T35 l1 x16_2).f2)) ∧ w'.cell? ⟨(ad287.add ((x16_2).toNat * 6)).block, (ad287.add ((x16_2).toNat * 6)).off + 3, none⟩ = some (.int .i64 ((rd_T35 l1 x16_2).f3)) ∧ w'.cell? ⟨(ad287.add ((x16_2).toNat * 6)).block, (ad287.add ((x16_2).toNat * 6)).off + 4, none⟩ = some (.string ((rd_T35 l1 x16_2).f4)) ∧ w'.cell? ⟨(ad287.add ((x16_2).toNat * 6)).block, (ad287.add ((x16_2).toNat * 6)).off + 5, none⟩ = some (.bool ((rd_T35 l1 x16_2).f5)) ∧ w'.cell? (ad287.add ((x16_2).toNat * 6)) = some (.int .i64 ((rd_T35 l1 x16_2).f0)) ∧ w'.cell? ⟨(ad287.add ((x16_2).toNat * 6)).block, (ad287.add ((x16_2).toNat * 6)).off + 1, none⟩ = some (.int .i64 ((rd_T35 l1 x16_2).f1)) ∧ w'.cell? ⟨(ad287.add ((x16_2).toNat * 6)).block, (ad287.add ((x16_2).toNat * 6)).off + 2, none⟩ = some (.string ((rd_T35 l1 x16_2).f2)) ∧ w'.cell? ⟨(ad287.add ((x16_2).toNat * 6)).block, (ad287.add ((x16_2).toNat * 6)).off + 3, none⟩ = some (.int .i64 ((rd_T35 l1 x16_2).f3)) ∧ w'.cell? ⟨(ad287.add ((x16_2).toNat * 6)).block, (ad287.add ((x16_2).toNat * 6)).off + 4, none⟩ = some (.string ((rd_T35 l1 x16_2).f4)) ∧ w'.cell? ⟨(ad287.add ((x16_2).toNat * 6)).block, (ad287.add ((x16_2).toNat * 6)).off + 5, none⟩ = some (.bool ((rd_T35 l1 x16_2).f5)) ∧ w'.cell? (ad287.add ((x16_2).toNat * 6)) = some (.int .i64 ((rd_T35 l1 x16_2).f0)) ∧ w'.cell? ⟨(ad287.add ((x16_2).toNat * 6)).block, (ad287.add ((x16_2).toNat * 6)).off + 1, none⟩ = some (.int .i64 ((rd_T35 l1 x16_2).f1)) ∧ w'.cell? ⟨(ad287.add ((x16_2).toNat * 6)).block, (ad287.add ((x16_2).toNat * 6)).off + 2, none⟩ = some (.string ((rd_T35 l1 x16_2).f2)) ∧ w'.cell? ⟨(ad287.add ((x16_2).toNat * 6)).block, (ad287.add ((x16_2).toNat * 6)).off + 3, none⟩ = some (.int .i64 ((rd_T35 l1 x16_2).f3)) ∧ w'.cell? ⟨(ad287.add ((x16_2).toNat * 6)).block, (ad287.add ((x16_2).toNat * 6)).off + 4, none⟩ = some (.string ((rd_T35 l1 x16_2).f4)) ∧ w'.cell? ⟨(ad287.add ((x16_2).toNat * 6)).block, (ad287.add ((x16_2).toNat * 6)).off + 5, none⟩ = some (.bool ((rd_T35 l1 x16_2).f5))) (ds := []) #[false, false, false, false, false, false, false, false, false, false, false, false, false, false, false, false, false, false, false, false, false, false] (by kernel_rfl) rfl rfl ⟨(bc_ BK295.out 0).trans rfl, (bc_ BK295.out 1).trans rfl, (bc_ BK295.out 2).trans rfl, (bc_ BK295.out 3).trans rfl, (bc_ BK295.out 4).trans rfl, (bc_ BK295.out 5).trans rfl, ((HB.out.cell (wb_ w _ hw300_0)).trans hw300_0), ((HB.out.cell (wb_ w _ hw300_1)).trans hw300_1), ((HB.out.cell (wb_ w _ hw300_2)).trans hw300_2), ((HB.out.cell (wb_ w _ hw300_3)).trans hw300_3), ((HB.out.cell (wb_ w _ hw300_4)).trans hw300_4), ((HB.out.cell (wb_ w _ hw300_5)).trans hw300_5), ((HB.out.cell (wb_ w _ hw302_0)).trans hw302_0), ((HB.out.cell (wb_ w _ hw302_1)).trans hw302_1), ((HB.out.cell (wb_ w _ hw302_2)).trans hw302_2), ((HB.out.cell (wb_ w _ hw302_3)).trans hw302_3), ((HB.out.cell (wb_ w _ hw302_4)).trans hw302_4), ((HB.out.cell (wb_ w _ hw302_5)).trans hw302_5), ((HB.out.cell (wb_ w _ hw303_0)).trans hw303_0), ((HB.out.cell (wb_ w _ hw303_1)).trans hw303_1), ((HB.out.cell (wb_ w _ hw303_2)).trans hw303_2), ((HB.out.cell (wb_ w _ hw303_3)).trans hw303_3), ((HB.out.cell (wb_ w _ hw303_4)).trans hw303_4), ((HB.out.cell (wb_ w _ hw303_5)).trans hw303_5)⟩ (fun hHeld => ?_); refine with_tabW pinfoldlaw15_OfferOthers.tab18 pinfoldlaw15_OfferOthers.bits18 (fun HT_ HW_ => ?_)
            generalize wc.drew = w60 at HO_11 BK265 BK295 HB hx300_0 hx300_1 hx300_2 hx300_3 hx300_4 hx300_5 hx302_0 hx302_1 hx302_2 hx302_3 hx302_4 hx302_5 hx303_0 hx303_1 hx303_2 hx303_3 hx303_4 hx303_5 hHeld ⊢
            refine pure_ (i := 0) (N := some 117) (v := ?_) (a' := ?_) #[true, false, false, false, false, false, false, false, false, false, false, false, false, false, false, false, false, false, false, false, false, false] rfl rfl (any_of HT_.out (by kernel_rfl)) (fun _ _ _ h => h) (Or.inl ⟨by rfl, ?_⟩) ?_ ?_
            rotate_left
            ·intro w'
             go_simp
             with_reducible rfl
            rotate_left
            ·simp only [Act.put, sa_, sb_, sc_, i64_w, i32_w]
             rfl
            refine pure_ (i := 1) (N := some 118) (v := ?_) (a' := ?_) #[true, true, false, false, false, false, false, false, false, false, false, false, false, false, false, false, false, false, false, false, false, false] rfl rfl (any_of HT_.out (by kernel_rfl)) (fun _ _ _ h => h) (Or.inl ⟨by rfl, ?_⟩) ?_ ?_
            rotate_left
            ·intro w'
             go_simp
             with_reducible rfl
            rotate_left
            ·simp only [Act.put, sa_, sb_, sc_, i64_w, i32_w]
             rfl
            refine pure_ (i := 2) (N := some 119) (v := ?_) (a' := ?_) #[true, true, true, false, false, false, false, false, false, false, false, false, false, false, false, false, false, false, false, false, false, false] rfl rfl (any_of HT_.out (by kernel_rfl)) (fun _ _ _ h => h) (Or.inl ⟨by rfl, ?_⟩) ?_ ?_
            rotate_left
            ·intro w'
             go_simp
             with_reducible rfl
            rotate_left
            ·simp only [Act.put, sa_, sb_, sc_, i64_w, i32_w]
             rfl
            refine pure_ (i := 4) (N := some 121) (v := ?_) (a' := ?_) #[true, true, true, false, true, false, false, false, false, false, false, false, false, false, false, false, false, false, false, false, false, false] rfl rfl (any_of HT_.out (by kernel_rfl)) (fun _ _ _ h => h) (Or.inl ⟨by rfl, ?_⟩) ?_ ?_
            rotate_left
            ·intro w'
             go_simp
             with_reducible rfl
            rotate_left
            ·simp only [Act.put, sa_, sb_, sc_, i64_w, i32_w]
             rfl
            refine take_ (i := 3) (N := some 120) (v := ?_) (a' := ?_) #[true, true, true, true, true, false, false, false, false, false, false, false, false, false, false, false, false, false, false, false, false, false] rfl rfl (take_ofW HT_.out HW_.out (by kernel_rfl)) (fun _ _ _ h => h) (Or.inl ⟨by rfl, ?_⟩) hHeld ?_ ?_
            rotate_left
            ·rintro w' ⟨s0, s1, s2, s3, s4, s5, s6, s7, s8, s9, s10, s11, s12, s13, s14, s15, s16, s17, s18, s19, s20, s21, s22, s23⟩
             go_simp
             with_reducible rfl
            rotate_left
            ·simp only [Act.put, sa_, sb_, sc_, i64_w, i32_w]
             rfl
            refine one_ (i := 5) (N := some 122) #[true, true, true, true, true, true, false, false, false, false, false, false, false, false, false, false, false, false, false, false, false, false] rfl rfl (one_of HT_.out (by kernel_rfl)) (by decide) (fun K hK => ?_)
            refine goes_ Tryd.func9 (by kernel_rfl) rfl #[.agg #[.int .i64 ((rd_T35 l1 x16_2).f0), .int .i64 ((rd_T35 l1 x16_2).f1), .string ((rd_T35 l1 x16_2).f2), .int .i64 ((rd_T35 l1 x16_2).f3), .string ((rd_T35 l1 x16_2).f4), .bool ((rd_T35 l1 x16_2).f5)], .int .i64 a2] (by rfl) rfl rfl (by (try simp only [List.map_toArray, List.map_cons, List.map_nil]); first | done | rfl | (simp only [List.length_drop, List.length_take]; rfl)) ?_
            with_reducible refine (pinfoldref11_Live_c.calls ((rd_T35 l1 x16_2).f0) ((rd_T35 l1 x16_2).f1) ((rd_T35 l1 x16_2).f2) ((rd_T35 l1 x16_2).f3) ((rd_T35 l1 x16_2).f4) ((rd_T35 l1 x16_2).f5) a2 true _ A56.out).mono ?_
            rintro e w61 ⟨rfl, hb⟩
            refine ⟨_, rfl, ?_⟩
            have n0_ := am_ (Kd.R_below (by (with_reducible repeat (first | apply r1_ | apply r2_ | apply r3_)); exact HO_11.out) hb)
            have n1_ := am_ (kb_ (g := gb265) (o := .cells #[.int .i64 a0_0, .int .i64 a0_1, .slice A0_2 l0_2.length c0_2, .slice A0_3 l0_3.length c0_3, .int .i64 a0_4, .string a0_5, .slice A0_6 l0_6.length c0_6] 26 (0, 0)) (by (with_reducible repeat (first | refine k2_ ?_ _ | refine k3_ ?_ | refine k1_ ?_ _)); exact BK265.out) hb)
            have n2_ := am_ (kb_ (g := gb295) (o := .cells #[.int .i64 t288, .int .i64 t289, .string t290, .int .i64 t291, .string t292, .bool t293] 35 (0, 0)) (by (with_reducible repeat (first | refine k2_ ?_ _ | refine k3_ ?_ | refine k1_ ?_ _)); exact BK295.out) hb)
            have n3_ := am_ (bt_ (by repeat (with_reducible first | exact HB.out | apply p3_ | apply p1_ | apply p2_ | refine bs_ ?_ GE265.out | refine bs_ ?_ GE295.out)) hb)
            clear HO_11
            clear BK265
            clear BK295
            clear HB
            have HO_11 := n0_
            have BK265 := n1_
            have BK295 := n2_
            have HB := n3_
            clear n0_ n1_ n2_ n3_
            (try clear hb)
            (try clear hb2)
            (try clear hk)
            (try clear hi)
            refine hK.out _ _ ⟨(bc_ BK295.out 0).trans rfl, (bc_ BK295.out 1).trans rfl, (bc_ BK295.out 2).trans rfl, (bc_ BK295.out 3).trans rfl, (bc_ BK295.out 4).trans rfl, (bc_ BK295.out 5).trans rfl, ((HB.out.cell (wb_ w _ hw300_0)).trans hw300_0), ((HB.out.cell (wb_ w _ hw300_1)).trans hw300_1), ((HB.out.cell (wb_ w _ hw300_2)).trans hw300_2), ((HB.out.cell (wb_ w _ hw300_3)).trans hw300_3), ((HB.out.cell (wb_ w _ hw300_4)).trans hw300_4), ((HB.out.cell (wb_ w _ hw300_5)).trans hw300_5), ((HB.out.cell (wb_ w _ hw302_0)).trans hw302_0), ((HB.out.cell (wb_ w _ hw302_1)).trans hw302_1), ((HB.out.cell (wb_ w _ hw302_2)).trans hw302_2), ((HB.out.cell (wb_ w _ hw302_3)).trans hw302_3), ((HB.out.cell (wb_ w _ hw302_4)).trans hw302_4), ((HB.out.cell (wb_ w _ hw302_5)).trans hw302_5), ((HB.out.cell (wb_ w _ hw303_0)).trans hw303_0), ((HB.out.cell (wb_ w _ hw303_1)).trans hw303_1), ((HB.out.cell (wb_ w _ hw303_2)).trans hw303_2), ((HB.out.cell (wb_ w _ hw303_3)).trans hw303_3), ((HB.out.cell (wb_ w _ hw303_4)).trans hw303_4), ((HB.out.cell (wb_ w _ hw303_5)).trans hw303_5)⟩ (fun hHeld => ?_)
            clear hK K
            refine norm_ (a' := ?_) ?_ ?_
            rotate_left
            ·show Act.put _ (some 122) _ = _
             simp only [Act.put, sa_, sb_, sc_, i64_w, i32_w]
             rfl
            refine pure_ (i := 6) (N := some 123) (v := ?_) (a' := ?_) #[true, true, true, true, true, true, true, false, false, false, false, false, false, false, false, false, false, false, false, false, false, false] rfl rfl (any_of HT_.out (by kernel_rfl)) (fun _ _ _ h => h) (Or.inl ⟨by rfl, ?_⟩) ?_ ?_
            rotate_left
            ·intro w'
             go_simp
             with_reducible rfl
            rotate_left
            ·simp only [Act.put, sa_, sb_, sc_, i64_w, i32_w]
             rfl
            refine pure_ (i := 7) (N := some 124) (v := ?_) (a' := ?_) #[true, true, true, true, true, true, true, true, false, false, false, false, false, false, false, false, false, false, false, false, false, false] rfl rfl (any_of HT_.out (by kernel_rfl)) (fun _ _ _ h => h) (Or.inl ⟨by rfl, ?_⟩) ?_ ?_
            rotate_left
            ·intro w'
             go_simp
             with_reducible rfl
            rotate_left
            ·simp only [Act.put, sa_, sb_, sc_, i64_w, i32_w]
             rfl
            refine pure_ (i := 8) (N := some 125) (v := ?_) (a' := ?_) #[true, true, true, true, true, true, true, true, true, false, false, false, false, false, false, false, false, false, false, false, false, false] rfl rfl (any_of HT_.out (by kernel_rfl)) (fun _ _ _ h => h) (Or.inl ⟨by rfl, ?_⟩) ?_ ?_
            rotate_left
            ·intro w'
             go_simp
             with_reducible rfl
            rotate_left
            ·simp only [Act.put, sa_, sb_, sc_, i64_w, i32_w]
             rfl
            refine pure_ (i := 9) (N := some 126) (v := ?_) (a' := ?_) #[true, true, true, true, true, true, true, true, true, true, false, false, false, false, false, false, false, false, false, false, false, false] rfl rfl (any_of HT_.out (by kernel_rfl)) (fun _ _ _ h => h) (Or.inl ⟨by rfl, ?_⟩) ?_ ?_
            rotate_left
            ·intro w'
             go_simp
             with_reducible rfl
            rotate_left
            ·simp only [Act.put, sa_, sb_, sc_, i64_w, i32_w]
             rfl
            refine pure_ (i := 10) (N := some 127) (v := ?_) (a' := ?_) #[true, true, true, true, true, true, true, true, true, true, true, false, false, false, false, false, false, false, false, false, false, false] rfl rfl (any_of HT_.out (by kernel_rfl)) (fun _ _ _ h => h) (Or.inl ⟨by rfl, ?_⟩) ?_ ?_
            rotate_left
            ·intro w'
             go_simp
             with_reducible rfl
            rotate_left
            ·simp only [Act.put, sa_, sb_, sc_, i64_w, i32_w]
             rfl
            refine take_ (i := 11) (N := some 128) (v := ?_) (a' := ?_) #[true, true, true, true, true, true, true, true, true, true, true, true, false, false, false, false, false, false, false, false, false, false] rfl rfl (take_ofW HT_.out HW_.out (by kernel_rfl)) (fun _ _ _ h => h) (Or.inl ⟨by rfl, ?_⟩) hHeld ?_ ?_
            rotate_left
            ·rintro w' ⟨s0, s1, s2, s3, s4, s5, s6, s7, s8, s9, s10, s11, s12, s13, s14, s15, s16, s17, s18, s19, s20, s21, s22, s23⟩
             go_simp
             with_reducible rfl
            rotate_left
            ·simp only [Act.put, sa_, sb_, sc_, i64_w, i32_w]
             rfl
            refine pure_ (i := 12) (N := some 129) (v := ?_) (a' := ?_) #[true, true, true, true, true, true, true, true, true, true, true, true, true, false, false, false, false, false, false, false, false, false] rfl rfl (any_of HT_.out (by kernel_rfl)) (fun _ _ _ h => h) (Or.inl ⟨by rfl, ?_⟩) ?_ ?_
            rotate_left
            ·intro w'
             go_simp
             with_reducible rfl
            rotate_left
            ·simp only [Act.put, sa_, sb_, sc_, i64_w, i32_w]
             rfl
            refine pure_ (i := 13) (N := some 130) (v := ?_) (a' := ?_) #[true, true, true, true, true, true, true, true, true, true, true, true, true, true, false, false, false, false, false, false, false, false] rfl rfl (any_of HT_.out (by kernel_rfl)) (fun _ _ _ h => h) (Or.inl ⟨by rfl, ?_⟩) ?_ ?_
            rotate_left
            ·intro w'
             go_simp
             with_reducible rfl
            rotate_left
            ·simp only [Act.put, sa_, sb_, sc_, i64_w, i32_w]
             rfl
            refine pure_ (i := 14) (N := some 131) (v := ?_) (a' := ?_) #[true, true, true, true, true, true, true, true, true, true, true, true, true, true, true, false, false, false, false, false, false, false] rfl rfl (any_of HT_.out (by kernel_rfl)) (fun _ _ _ h => h) (Or.inl ⟨by rfl, ?_⟩) ?_ ?_
            rotate_left
            ·intro w'
             go_simp
             with_reducible rfl
            rotate_left
            ·simp only [Act.put, sa_, sb_, sc_, i64_w, i32_w]
             rfl
            refine pure_ (i := 16) (N := some 133) (v := ?_) (a' := ?_) #[true, true, true, true, true, true, true, true, true, true, true, true, true, true, true, false, true, false, false, false, false, false] rfl rfl (any_of HT_.out (by kernel_rfl)) (fun _ _ _ h => h) (Or.inl ⟨by rfl, ?_⟩) ?_ ?_
            rotate_left
            ·intro w'
             go_simp
             with_reducible rfl
            rotate_left
            ·simp only [Act.put, sa_, sb_, sc_, i64_w, i32_w]
             rfl
            refine pure_ (i := 17) (N := some 134) (v := ?_) (a' := ?_) #[true, true, true, true, true, true, true, true, true, true, true, true, true, true, true, false, true, true, false, false, false, false] rfl rfl (any_of HT_.out (by kernel_rfl)) (fun _ _ _ h => h) (Or.inl ⟨by rfl, ?_⟩) ?_ ?_
            rotate_left
            ·intro w'
             go_simp
             with_reducible rfl
            rotate_left
            ·simp only [Act.put, sa_, sb_, sc_, i64_w, i32_w]
             rfl
            refine pure_ (i := 18) (N := some 135) (v := ?_) (a' := ?_) #[true, true, true, true, true, true, true, true, true, true, true, true, true, true, true, false, true, true, true, false, false, false] rfl rfl (any_of HT_.out (by kernel_rfl)) (fun _ _ _ h => h) (Or.inl ⟨by rfl, ?_⟩) ?_ ?_
            rotate_left
            ·intro w'
             go_simp
             with_reducible rfl
            rotate_left
            ·simp only [Act.put, sa_, sb_, sc_, i64_w, i32_w]
             rfl
            refine take_ (i := 15) (N := some 132) (v := ?_) (a' := ?_) #[true, true, true, true, true, true, true, true, true, true, true, true, true, true, true, true, true, true, true, false, false, false] rfl rfl (take_ofW HT_.out HW_.out (by kernel_rfl)) (fun _ _ _ h => h) (Or.inl ⟨by rfl, ?_⟩) hHeld ?_ ?_
            rotate_left
            ·rintro w' ⟨s0, s1, s2, s3, s4, s5, s6, s7, s8, s9, s10, s11, s12, s13, s14, s15, s16, s17, s18, s19, s20, s21, s22, s23⟩
             go_simp
             with_reducible rfl
            rotate_left
            ·simp only [Act.put, sa_, sb_, sc_, i64_w, i32_w]
             rfl
            refine take_ (i := 19) (N := some 136) (v := ?_) (a' := ?_) #[true, true, true, true, true, true, true, true, true, true, true, true, true, true, true, true, true, true, true, true, false, false] rfl rfl (take_ofW HT_.out HW_.out (by kernel_rfl)) (fun _ _ _ h => h) (Or.inl ⟨by rfl, ?_⟩) hHeld ?_ ?_
            rotate_left
            ·rintro w' ⟨s0, s1, s2, s3, s4, s5, s6, s7, s8, s9, s10, s11, s12, s13, s14, s15, s16, s17, s18, s19, s20, s21, s22, s23⟩
             go_simp
             with_reducible rfl
            rotate_left
            ·simp only [Act.put, sa_, sb_, sc_, i64_w, i32_w]
             rfl
            refine pure_ (i := 20) (N := some 137) (v := ?_) (a' := ?_) #[true, true, true, true, true, true, true, true, true, true, true, true, true, true, true, true, true, true, true, true, true, false] rfl rfl (any_of HT_.out (by kernel_rfl)) (fun _ _ _ h => h) (Or.inl ⟨by rfl, ?_⟩) ?_ ?_
            rotate_left
            ·intro w'
             go_simp
             with_reducible rfl
            rotate_left
            ·simp only [Act.put, sa_, sb_, sc_, i64_w, i32_w]
             rfl
            refine pure_ (i := 21) (N := some 138) (v := ?_) (a' := ?_) #[true, true, true, true, true, true, true, true, true, true, true, true, true, true, true, true, true, true, true, true, true, true] rfl rfl (any_of HT_.out (by kernel_rfl)) (fun _ _ _ h => h) (Or.inl ⟨by rfl, ?_⟩) ?_ ?_
            rotate_left
            ·intro w'
             go_simp
             with_reducible rfl
            rotate_left
            ·simp only [Act.put, sa_, sb_, sc_, i64_w, i32_w]
             rfl
            refine done_ (done_of HT_.out (by kernel_rfl)) ?_
            try go_wp2
            go_roundg kj32
            case measure => have := HK1.out; have := HK2.out; have := HJ32.out; omega
            case rel => exact ⟨(wrap64 (x16_2 + 1)), (by first | rfl | (simp; done) | (simp [*]; done)), H', ⟨by have := HK1.out; have := HK2.out; have := HJ32.out; omega⟩, ⟨by (with_reducible repeat (first | apply r1_ | apply r2_ | apply r3_)); exact Kd.R_mono HO_11.out (fun _ hk => trivial)⟩, ⟨by (with_reducible repeat (first | refine k2_ ?_ _ | refine k3_ ?_ | refine k1_ ?_ _)); exact BK265.out⟩, ⟨by repeat (with_reducible first | exact HB.out | apply p3_ | apply p1_ | apply p2_ | refine bs_ ?_ GE265.out | refine bs_ ?_ GE295.out)⟩⟩
           rw [if_neg c58] at H
           have c58b0 : (((rd_T35 l1 x16_2).f1) == 2) = false := e2_ c58
           have c58b1 : (((rd_T35 l1 x16_2).f1) != 2) = true := bne_iff_ne.mpr c58
           have H' := am_ H
           clear H
           try go_wp2
           have n0_ := am_ (r3_ HO_11.out)
           have n1_ := am_ (k3_ BK265.out)
           have n2_ := am_ (k3_ BK295.out)
           have n3_ := am_ (p2_ HB.out)
           clear HO_11
           clear BK265
           clear BK295
           clear HB
           have HO_11 := n0_
           have BK265 := n1_
           have BK295 := n2_
           have HB := n3_
           clear n0_ n1_ n2_ n3_
           have p300 : 0 ≤ (x16_2 : Int) := of_decide_eq_true (by first | (with_reducible assumption) | assumption)
           have q300 : x16_2 < (l1.length : Int) := of_decide_eq_true (by first | (with_reducible assumption) | assumption)
           obtain ⟨ad300, e300, hx300_0, hx300_1, hx300_2, hx300_3, hx300_4, hx300_5⟩ := at_T35 HR1.out x16_2 p300 q300
           have hw300_5 := hx300_5
           have hw300_4 := hx300_4
           have hw300_3 := hx300_3
           have hw300_2 := hx300_2
           have hw300_1 := hx300_1
           have hw300_0 := hx300_0
           obtain rfl : ad287 = ad300 := (by injection e300)
           replace hx300_0 := (HB.out.cell (wb_ w _ hx300_0)).trans hx300_0
           replace hx300_1 := (HB.out.cell (wb_ w _ hx300_1)).trans hx300_1
           replace hx300_2 := (HB.out.cell (wb_ w _ hx300_2)).trans hx300_2
           replace hx300_3 := (HB.out.cell (wb_ w _ hx300_3)).trans hx300_3
           replace hx300_4 := (HB.out.cell (wb_ w _ hx300_4)).trans hx300_4
           replace hx300_5 := (HB.out.cell (wb_ w _ hx300_5)).trans hx300_5
           replace p300 := eq_true p300
           replace q300 := eq_true q300
           have p302 : 0 ≤ (x16_2 : Int) := of_decide_eq_true (by first | (with_reducible assumption) | assumption)
           have q302 : x16_2 < (l1.length : Int) := of_decide_eq_true (by first | (with_reducible assumption) | assumption)
           obtain ⟨ad302, e302, hx302_0, hx302_1, hx302_2, hx302_3, hx302_4, hx302_5⟩ := at_T35 HR1.out x16_2 p302 q302
           have hw302_5 := hx302_5
           have hw302_4 := hx302_4
           have hw302_3 := hx302_3
           have hw302_2 := hx302_2
           have hw302_1 := hx302_1
           have hw302_0 := hx302_0
           obtain rfl : ad287 = ad302 := (by injection e302)
           replace hx302_0 := (HB.out.cell (wb_ w _ hx302_0)).trans hx302_0
           replace hx302_1 := (HB.out.cell (wb_ w _ hx302_1)).trans hx302_1
           replace hx302_2 := (HB.out.cell (wb_ w _ hx302_2)).trans hx302_2
           replace hx302_3 := (HB.out.cell (wb_ w _ hx302_3)).trans hx302_3
           replace hx302_4 := (HB.out.cell (wb_ w _ hx302_4)).trans hx302_4
           replace hx302_5 := (HB.out.cell (wb_ w _ hx302_5)).trans hx302_5
           replace p302 := eq_true p302
           replace q302 := eq_true q302
           refine start_ (n := 22) (S := fun w' => w'.cell? (ad287.add ((x16_2).toNat * 6)) = some (.int .i64 ((rd_T35 l1 x16_2).f0)) ∧ w'.cell? ⟨(ad287.add ((x16_2).toNat * 6)).block, (ad287.add ((x16_2).toNat * 6)).off + 1, none⟩ = some (.int .i64 ((rd_T35 l1 x16_2).f1)) ∧ w'.cell? ⟨(ad287.add ((x16_2).toNat * 6)).block, (ad287.add ((x16_2).toNat * 6)).off + 2, none⟩ = some (.string ((rd_T35 l1 x16_2).f2)) ∧ w'.cell? ⟨(ad287.add ((x16_2).toNat * 6)).block, (ad287.add ((x16_2).toNat * 6)).off + 3, none⟩ = some (.int .i64 ((rd_T35 l1 x16_2).f3)) ∧ w'.cell? ⟨(ad287.add ((x16_2).toNat * 6)).block, (ad287.add ((x16_2).toNat * 6)).off + 4, none⟩ = some (.string ((rd_T35 l1 x16_2).f4)) ∧ w'.cell? ⟨(ad287.add ((x16_2).toNat * 6)).block, (ad287.add ((x16_2).toNat * 6)).off + 5, none⟩ = some (.bool ((rd_T35 l1 x16_2).f5)) ∧ w'.cell? (ad287.add ((x16_2).toNat * 6)) = some (.int .i64 ((rd_T35 l1 x16_2).f0)) ∧ w'.cell? ⟨(ad287.add ((x16_2).toNat * 6)).block, (ad287.add ((x16_2).toNat * 6)).off + 1, none⟩ = some (.int .i64 ((rd_T35 l1 x16_2).f1)) ∧ w'.cell? ⟨(ad287.add ((x16_2).toNat * 6)).block, (ad287.add ((x16_2).toNat * 6)).off + 2, none⟩ = some (.string ((rd_T35 l1 x16_2).f2)) ∧ w'.cell? ⟨(ad287.add ((x16_2).toNat * 6)).block, (ad287.add ((x16_2).toNat * 6)).off + 3, none⟩ = some (.int .i64 ((rd_T35 l1 x16_2).f3)) ∧ w'.cell? ⟨(ad287.add ((x16_2).toNat * 6)).block, (ad287.add ((x16_2).toNat * 6)).off + 4, none⟩ = some (.string ((rd_T35 l1 x16_2).f4)) ∧ w'.cell? ⟨(ad287.add ((x16_2).toNat * 6)).block, (ad287.add ((x16_2).toNat * 6)).off + 5, none⟩ = some (.bool ((rd_T35 l1 x16_2).f5))) (ds := []) #[false, false, false, false, false, false, false, false, false, false, false, false, false, false, false, false, false, false, false, false, false, false] (by kernel_rfl) rfl rfl ⟨((HB.out.cell (wb_ w _ hw300_0)).trans hw300_0), ((HB.out.cell (wb_ w _ hw300_1)).trans hw300_1), ((HB.out.cell (wb_ w _ hw300_2)).trans hw300_2), ((HB.out.cell (wb_ w _ hw300_3)).trans hw300_3), ((HB.out.cell (wb_ w _ hw300_4)).trans hw300_4), ((HB.out.cell (wb_ w _ hw300_5)).trans hw300_5), ((HB.out.cell (wb_ w _ hw302_0)).trans hw302_0), ((HB.out.cell (wb_ w _ hw302_1)).trans hw302_1), ((HB.out.cell (wb_ w _ hw302_2)).trans hw302_2), ((HB.out.cell (wb_ w _ hw302_3)).trans hw302_3), ((HB.out.cell (wb_ w _ hw302_4)).trans hw302_4), ((HB.out.cell (wb_ w _ hw302_5)).trans hw302_5)⟩ (fun hHeld => ?_); refine with_tabW pinfoldlaw15_OfferOthers.tab18 pinfoldlaw15_OfferOthers.bits18 (fun HT_ HW_ => ?_)
           generalize wc.drew = w62 at HO_11 BK265 BK295 HB hx300_0 hx300_1 hx300_2 hx300_3 hx300_4 hx300_5 hx302_0 hx302_1 hx302_2 hx302_3 hx302_4 hx302_5 hHeld ⊢
           refine pure_ (i := 0) (N := some 117) (v := ?_) (a' := ?_) #[true, false, false, false, false, false, false, false, false, false, false, false, false, false, false, false, false, false, false, false, false, false] rfl rfl (any_of HT_.out (by kernel_rfl)) (fun _ _ _ h => h) (Or.inl ⟨by rfl, ?_⟩) ?_ ?_
           rotate_left
           ·intro w'
            go_simp
            with_reducible rfl
           rotate_left
           ·simp only [Act.put, sa_, sb_, sc_, i64_w, i32_w]
            rfl
           refine pure_ (i := 1) (N := some 118) (v := ?_) (a' := ?_) #[true, true, false, false, false, false, false, false, false, false, false, false, false, false, false, false, false, false, false, false, false, false] rfl rfl (any_of HT_.out (by kernel_rfl)) (fun _ _ _ h => h) (Or.inl ⟨by rfl, ?_⟩) ?_ ?_
           rotate_left
           ·intro w'
            go_simp
            with_reducible rfl
           rotate_left
           ·simp only [Act.put, sa_, sb_, sc_, i64_w, i32_w]
            rfl
           refine pure_ (i := 2) (N := some 119) (v := ?_) (a' := ?_) #[true, true, true, false, false, false, false, false, false, false, false, false, false, false, false, false, false, false, false, false, false, false] rfl rfl (any_of HT_.out (by kernel_rfl)) (fun _ _ _ h => h) (Or.inl ⟨by rfl, ?_⟩) ?_ ?_
           rotate_left
           ·intro w'
            go_simp
            with_reducible rfl
           rotate_left
           ·simp only [Act.put, sa_, sb_, sc_, i64_w, i32_w]
            rfl
           refine pure_ (i := 4) (N := some 121) (v := ?_) (a' := ?_) #[true, true, true, false, true, false, false, false, false, false, false, false, false, false, false, false, false, false, false, false, false, false] rfl rfl (any_of HT_.out (by kernel_rfl)) (fun _ _ _ h => h) (Or.inl ⟨by rfl, ?_⟩) ?_ ?_
           rotate_left
           ·intro w'
            go_simp
            with_reducible rfl
           rotate_left
           ·simp only [Act.put, sa_, sb_, sc_, i64_w, i32_w]
            rfl
           refine take_ (i := 3) (N := some 120) (v := ?_) (a' := ?_) #[true, true, true, true, true, false, false, false, false, false, false, false, false, false, false, false, false, false, false, false, false, false] rfl rfl (take_ofW HT_.out HW_.out (by kernel_rfl)) (fun _ _ _ h => h) (Or.inl ⟨by rfl, ?_⟩) hHeld ?_ ?_
           rotate_left
           ·rintro w' ⟨s0, s1, s2, s3, s4, s5, s6, s7, s8, s9, s10, s11⟩
            go_simp
            with_reducible rfl
           rotate_left
           ·simp only [Act.put, sa_, sb_, sc_, i64_w, i32_w]
            rfl
           refine one_ (i := 5) (N := some 122) #[true, true, true, true, true, true, false, false, false, false, false, false, false, false, false, false, false, false, false, false, false, false] rfl rfl (one_of HT_.out (by kernel_rfl)) (by decide) (fun K hK => ?_)
           refine goes_ Tryd.func9 (by kernel_rfl) rfl #[.agg #[.int .i64 ((rd_T35 l1 x16_2).f0), .int .i64 ((rd_T35 l1 x16_2).f1), .string ((rd_T35 l1 x16_2).f2), .int .i64 ((rd_T35 l1 x16_2).f3), .string ((rd_T35 l1 x16_2).f4), .bool ((rd_T35 l1 x16_2).f5)], .int .i64 a2] (by rfl) rfl rfl (by (try simp only [List.map_toArray, List.map_cons, List.map_nil]); first | done | rfl | (simp only [List.length_drop, List.length_take]; rfl)) ?_
           with_reducible refine (pinfoldref11_Live_c.calls ((rd_T35 l1 x16_2).f0) ((rd_T35 l1 x16_2).f1) ((rd_T35 l1 x16_2).f2) ((rd_T35 l1 x16_2).f3) ((rd_T35 l1 x16_2).f4) ((rd_T35 l1 x16_2).f5) a2 true _ A56.out).mono ?_
           rintro e w63 ⟨rfl, hb⟩
           refine ⟨_, rfl, ?_⟩
           have n0_ := am_ (Kd.R_below (by (with_reducible repeat (first | apply r1_ | apply r2_ | apply r3_)); exact HO_11.out) hb)
           have n1_ := am_ (kb_ (g := gb265) (o := .cells #[.int .i64 a0_0, .int .i64 a0_1, .slice A0_2 l0_2.length c0_2, .slice A0_3 l0_3.length c0_3, .int .i64 a0_4, .string a0_5, .slice A0_6 l0_6.length c0_6] 26 (0, 0)) (by (with_reducible repeat (first | refine k2_ ?_ _ | refine k3_ ?_ | refine k1_ ?_ _)); exact BK265.out) hb)
           have n2_ := am_ (kb_ (g := gb295) (o := .cells #[.int .i64 t288, .int .i64 t289, .string t290, .int .i64 t291, .string t292, .bool t293] 35 (0, 0)) (by (with_reducible repeat (first | refine k2_ ?_ _ | refine k3_ ?_ | refine k1_ ?_ _)); exact BK295.out) hb)
           have n3_ := am_ (bt_ (by repeat (with_reducible first | exact HB.out | apply p3_ | apply p1_ | apply p2_ | refine bs_ ?_ GE265.out | refine bs_ ?_ GE295.out)) hb)
           clear HO_11
           clear BK265
           clear BK295
           clear HB
           have HO_11 := n0_
           have BK265 := n1_
           have BK295 := n2_
           have HB := n3_
           clear n0_ n1_ n2_ n3_
           (try clear hb)
           (try clear hb2)
           (try clear hk)
           (try clear hi)
           refine hK.out _ _ ⟨((HB.out.cell (wb_ w _ hw300_0)).trans hw300_0), ((HB.out.cell (wb_ w _ hw300_1)).trans hw300_1), ((HB.out.cell (wb_ w _ hw300_2)).trans hw300_2), ((HB.out.cell (wb_ w _ hw300_3)).trans hw300_3), ((HB.out.cell (wb_ w _ hw300_4)).trans hw300_4), ((HB.out.cell (wb_ w _ hw300_5)).trans hw300_5), ((HB.out.cell (wb_ w _ hw302_0)).trans hw302_0), ((HB.out.cell (wb_ w _ hw302_1)).trans hw302_1), ((HB.out.cell (wb_ w _ hw302_2)).trans hw302_2), ((HB.out.cell (wb_ w _ hw302_3)).trans hw302_3), ((HB.out.cell (wb_ w _ hw302_4)).trans hw302_4), ((HB.out.cell (wb_ w _ hw302_5)).trans hw302_5)⟩ (fun hHeld => ?_)
           clear hK K
           refine norm_ (a' := ?_) ?_ ?_
           rotate_left
           ·show Act.put _ (some 122) _ = _
            simp only [Act.put, sa_, sb_, sc_, i64_w, i32_w]
            rfl
           refine pure_ (i := 6) (N := some 123) (v := ?_) (a' := ?_) #[true, true, true, true, true, true, true, false, false, false, false, false, false, false, false, false, false, false, false, false, false, false] rfl rfl (any_of HT_.out (by kernel_rfl)) (fun _ _ _ h => h) (Or.inl ⟨by rfl, ?_⟩) ?_ ?_
           rotate_left
           ·intro w'
            go_simp
            with_reducible rfl
           rotate_left
           ·simp only [Act.put, sa_, sb_, sc_, i64_w, i32_w]
            rfl
           refine pure_ (i := 7) (N := some 124) (v := ?_) (a' := ?_) #[true, true, true, true, true, true, true, true, false, false, false, false, false, false, false, false, false, false, false, false, false, false] rfl rfl (any_of HT_.out (by kernel_rfl)) (fun _ _ _ h => h) (Or.inl ⟨by rfl, ?_⟩) ?_ ?_
           rotate_left
           ·intro w'
            go_simp
            with_reducible rfl
           rotate_left
           ·simp only [Act.put, sa_, sb_, sc_, i64_w, i32_w]
            rfl
           refine pure_ (i := 8) (N := some 125) (v := ?_) (a' := ?_) #[true, true, true, true, true, true, true, true, true, false, false, false, false, false, false, false, false, false, false, false, false, false] rfl rfl (any_of HT_.out (by kernel_rfl)) (fun _ _ _ h => h) (Or.inl ⟨by rfl, ?_⟩) ?_ ?_
           rotate_left
           ·intro w'
            go_simp
            with_reducible rfl
           rotate_left
           ·simp only [Act.put, sa_, sb_, sc_, i64_w, i32_w]
            rfl
           refine pure_ (i := 9) (N := some 126) (v := ?_) (a' := ?_) #[true, true, true, true, true, true, true, true, true, true, false, false, false, false, false, false, false, false, false, false, false, false] rfl rfl (any_of HT_.out (by kernel_rfl)) (fun _ _ _ h => h) (Or.inl ⟨by rfl, ?_⟩) ?_ ?_
           rotate_left
           ·intro w'
            go_simp
            with_reducible rfl
           rotate_left
           ·simp only [Act.put, sa_, sb_, sc_, i64_w, i32_w]
            rfl
           refine pure_ (i := 10) (N := some 127) (v := ?_) (a' := ?_) #[true, true, true, true, true, true, true, true, true, true, true, false, false, false, false, false, false, false, false, false, false, false] rfl rfl (any_of HT_.out (by kernel_rfl)) (fun _ _ _ h => h) (Or.inl ⟨by rfl, ?_⟩) ?_ ?_
           rotate_left
           ·intro w'
            go_simp
            with_reducible rfl
           rotate_left
           ·simp only [Act.put, sa_, sb_, sc_, i64_w, i32_w]
            rfl
           refine take_ (i := 11) (N := some 128) (v := ?_) (a' := ?_) #[true, true, true, true, true, true, true, true, true, true, true, true, false, false, false, false, false, false, false, false, false, false] rfl rfl (take_ofW HT_.out HW_.out (by kernel_rfl)) (fun _ _ _ h => h) (Or.inl ⟨by rfl, ?_⟩) hHeld ?_ ?_
           rotate_left
           ·rintro w' ⟨s0, s1, s2, s3, s4, s5, s6, s7, s8, s9, s10, s11⟩
            go_simp
            with_reducible rfl
           rotate_left
           ·simp only [Act.put, sa_, sb_, sc_, i64_w, i32_w]
            rfl
           refine pure_ (i := 12) (N := some 129) (v := ?_) (a' := ?_) #[true, true, true, true, true, true, true, true, true, true, true, true, true, false, false, false, false, false, false, false, false, false] rfl rfl (any_of HT_.out (by kernel_rfl)) (fun _ _ _ h => h) (Or.inl ⟨by rfl, ?_⟩) ?_ ?_
           rotate_left
           ·intro w'
            go_simp
            with_reducible rfl
           rotate_left
           ·simp only [Act.put, sa_, sb_, sc_, i64_w, i32_w]
            rfl
           refine pure_ (i := 13) (N := some 130) (v := ?_) (a' := ?_) #[true, true, true, true, true, true, true, true, true, true, true, true, true, true, false, false, false, false, false, false, false, false] rfl rfl (any_of HT_.out (by kernel_rfl)) (fun _ _ _ h => h) (Or.inl ⟨by rfl, ?_⟩) ?_ ?_
           rotate_left
           ·intro w'
            go_simp
            with_reducible rfl
           rotate_left
           ·simp only [Act.put, sa_, sb_, sc_, i64_w, i32_w]
            rfl
           refine pure_ (i := 14) (N := some 131) (v := ?_) (a' := ?_) #[true, true, true, true, true, true, true, true, true, true, true, true, true, true, true, false, false, false, false, false, false, false] rfl rfl (any_of HT_.out (by kernel_rfl)) (fun _ _ _ h => h) (Or.inl ⟨by rfl, ?_⟩) ?_ ?_
           rotate_left
           ·intro w'
            go_simp
            with_reducible rfl
           rotate_left
           ·simp only [Act.put, sa_, sb_, sc_, i64_w, i32_w]
            rfl
           refine pure_ (i := 15) (N := some 132) (v := undef) (a' := ?_) #[true, true, true, true, true, true, true, true, true, true, true, true, true, true, true, true, false, false, false, false, false, false] rfl rfl (any_of HT_.out (by kernel_rfl)) (fun _ _ _ h => h) (Or.inr ⟨by rfl, rfl⟩) ?_ ?_
           rotate_left
           ·simp only [Act.put, sa_, sb_, sc_, i64_w, i32_w]
            rfl
           refine pure_ (i := 16) (N := some 133) (v := undef) (a' := ?_) #[true, true, true, true, true, true, true, true, true, true, true, true, true, true, true, true, true, false, false, false, false, false] rfl rfl (any_of HT_.out (by kernel_rfl)) (fun _ _ _ h => h) (Or.inr ⟨by rfl, rfl⟩) ?_ ?_
           rotate_left
           ·simp only [Act.put, sa_, sb_, sc_, i64_w, i32_w]
            rfl
           refine pure_ (i := 17) (N := some 134) (v := undef) (a' := ?_) #[true, true, true, true, true, true, true, true, true, true, true, true, true, true, true, true, true, true, false, false, false, false] rfl rfl (any_of HT_.out (by kernel_rfl)) (fun _ _ _ h => h) (Or.inr ⟨by rfl, rfl⟩) ?_ ?_
           rotate_left
           ·simp only [Act.put, sa_, sb_, sc_, i64_w, i32_w]
            rfl
           refine pure_ (i := 18) (N := some 135) (v := undef) (a' := ?_) #[true, true, true, true, true, true, true, true, true, true, true, true, true, true, true, true, true, true, true, false, false, false] rfl rfl (any_of HT_.out (by kernel_rfl)) (fun _ _ _ h => h) (Or.inr ⟨by rfl, rfl⟩) ?_ ?_
           rotate_left
           ·simp only [Act.put, sa_, sb_, sc_, i64_w, i32_w]
            rfl
           refine pure_ (i := 19) (N := some 136) (v := undef) (a' := ?_) #[true, true, true, true, true, true, true, true, true, true, true, true, true, true, true, true, true, true, true, true, false, false] rfl rfl (any_of HT_.out (by kernel_rfl)) (fun _ _ _ h => h) (Or.inr ⟨by rfl, rfl⟩) ?_ ?_
           rotate_left
           ·simp only [Act.put, sa_, sb_, sc_, i64_w, i32_w]
            rfl
           refine pure_ (i := 20) (N := some 137) (v := undef) (a' := ?_) #[true, true, true, true, true, true, true, true, true, true, true, true, true, true, true, true, true, true, true, true, true, false] rfl rfl (any_of HT_.out (by kernel_rfl)) (fun _ _ _ h => h) (Or.inr ⟨by rfl, rfl⟩) ?_ ?_
           rotate_left
           ·simp only [Act.put, sa_, sb_, sc_, i64_w, i32_w]
            rfl
           refine pure_ (i := 21) (N := some 138) (v := ?_) (a' := ?_) #[true, true, true, true, true, true, true, true, true, true, true, true, true, true, true, true, true, true, true, true, true, true] rfl rfl (any_of HT_.out (by kernel_rfl)) (fun _ _ _ h => h) (Or.inl ⟨by rfl, ?_⟩) ?_ ?_
           rotate_left
           ·intro w'
            go_simp
            with_reducible rfl
           rotate_left
           ·simp only [Act.put, sa_, sb_, sc_, i64_w, i32_w]
            rfl
           refine done_ (done_of HT_.out (by kernel_rfl)) ?_
           try go_wp2
           go_roundg kj32
           case measure => have := HK1.out; have := HK2.out; have := HJ32.out; omega
           case rel => exact ⟨(wrap64 (x16_2 + 1)), (by first | rfl | (simp; done) | (simp [*]; done)), H', ⟨by have := HK1.out; have := HK2.out; have := HJ32.out; omega⟩, ⟨by (with_reducible repeat (first | apply r1_ | apply r2_ | apply r3_)); exact Kd.R_mono HO_11.out (fun _ hk => trivial)⟩, ⟨by (with_reducible repeat (first | refine k2_ ?_ _ | refine k3_ ?_ | refine k1_ ?_ _)); exact BK265.out⟩, ⟨by repeat (with_reducible first | exact HB.out | apply p3_ | apply p1_ | apply p2_ | refine bs_ ?_ GE265.out | refine bs_ ?_ GE295.out)⟩⟩
          replace c57 := e3_ c57
          subst c57
          have H1 : (pinfoldlaw15_OfferOthers.l1 kj32 l1 a2 a3 t267 t270 x14_1 (wrap64 (x16_2 + 1))) = some r := by rw [if_neg (show ¬ (false = true) by decide)] at H; exact H
          clear H
          have H := H1
          clear H1
          have H' := am_ H
          clear H
          try go_wp2
          have n0_ := am_ (r3_ HO_11.out)
          have n1_ := am_ (k3_ BK265.out)
          have n2_ := am_ (k3_ BK295.out)
          have n3_ := am_ (p2_ HB.out)
          clear HO_11
          clear BK265
          clear BK295
          clear HB
          have HO_11 := n0_
          have BK265 := n1_
          have BK295 := n2_
          have HB := n3_
          clear n0_ n1_ n2_ n3_
          have p300 : 0 ≤ (x16_2 : Int) := of_decide_eq_true (by first | (with_reducible assumption) | assumption)
          have q300 : x16_2 < (l1.length : Int) := of_decide_eq_true (by first | (with_reducible assumption) | assumption)
          obtain ⟨ad300, e300, hx300_0, hx300_1, hx300_2, hx300_3, hx300_4, hx300_5⟩ := at_T35 HR1.out x16_2 p300 q300
          have hw300_5 := hx300_5
          have hw300_4 := hx300_4
          have hw300_3 := hx300_3
          have hw300_2 := hx300_2
          have hw300_1 := hx300_1
          have hw300_0 := hx300_0
          obtain rfl : ad287 = ad300 := (by injection e300)
          replace hx300_0 := (HB.out.cell (wb_ w _ hx300_0)).trans hx300_0
          replace hx300_1 := (HB.out.cell (wb_ w _ hx300_1)).trans hx300_1
          replace hx300_2 := (HB.out.cell (wb_ w _ hx300_2)).trans hx300_2
          replace hx300_3 := (HB.out.cell (wb_ w _ hx300_3)).trans hx300_3
          replace hx300_4 := (HB.out.cell (wb_ w _ hx300_4)).trans hx300_4
          replace hx300_5 := (HB.out.cell (wb_ w _ hx300_5)).trans hx300_5
          replace p300 := eq_true p300
          replace q300 := eq_true q300
          refine start_ (n := 22) (S := fun w' => w'.cell? (ad287.add ((x16_2).toNat * 6)) = some (.int .i64 ((rd_T35 l1 x16_2).f0)) ∧ w'.cell? ⟨(ad287.add ((x16_2).toNat * 6)).block, (ad287.add ((x16_2).toNat * 6)).off + 1, none⟩ = some (.int .i64 ((rd_T35 l1 x16_2).f1)) ∧ w'.cell? ⟨(ad287.add ((x16_2).toNat * 6)).block, (ad287.add ((x16_2).toNat * 6)).off + 2, none⟩ = some (.string ((rd_T35 l1 x16_2).f2)) ∧ w'.cell? ⟨(ad287.add ((x16_2).toNat * 6)).block, (ad287.add ((x16_2).toNat * 6)).off + 3, none⟩ = some (.int .i64 ((rd_T35 l1 x16_2).f3)) ∧ w'.cell? ⟨(ad287.add ((x16_2).toNat * 6)).block, (ad287.add ((x16_2).toNat * 6)).off + 4, none⟩ = some (.string ((rd_T35 l1 x16_2).f4)) ∧ w'.cell? ⟨(ad287.add ((x16_2).toNat * 6)).block, (ad287.add ((x16_2).toNat * 6)).off + 5, none⟩ = some (.bool ((rd_T35 l1 x16_2).f5))) (ds := []) #[false, false, false, false, false, false, false, false, false, false, false, false, false, false, false, false, false, false, false, false, false, false] (by kernel_rfl) rfl rfl ⟨((HB.out.cell (wb_ w _ hw300_0)).trans hw300_0), ((HB.out.cell (wb_ w _ hw300_1)).trans hw300_1), ((HB.out.cell (wb_ w _ hw300_2)).trans hw300_2), ((HB.out.cell (wb_ w _ hw300_3)).trans hw300_3), ((HB.out.cell (wb_ w _ hw300_4)).trans hw300_4), ((HB.out.cell (wb_ w _ hw300_5)).trans hw300_5)⟩ (fun hHeld => ?_); refine with_tabW pinfoldlaw15_OfferOthers.tab18 pinfoldlaw15_OfferOthers.bits18 (fun HT_ HW_ => ?_)
          generalize wc.drew = w64 at HO_11 BK265 BK295 HB hx300_0 hx300_1 hx300_2 hx300_3 hx300_4 hx300_5 hHeld ⊢
          refine pure_ (i := 0) (N := some 117) (v := ?_) (a' := ?_) #[true, false, false, false, false, false, false, false, false, false, false, false, false, false, false, false, false, false, false, false, false, false] rfl rfl (any_of HT_.out (by kernel_rfl)) (fun _ _ _ h => h) (Or.inl ⟨by rfl, ?_⟩) ?_ ?_
          rotate_left
          ·intro w'
           go_simp
           with_reducible rfl
          rotate_left
          ·simp only [Act.put, sa_, sb_, sc_, i64_w, i32_w]
           rfl
          refine pure_ (i := 1) (N := some 118) (v := ?_) (a' := ?_) #[true, true, false, false, false, false, false, false, false, false, false, false, false, false, false, false, false, false, false, false, false, false] rfl rfl (any_of HT_.out (by kernel_rfl)) (fun _ _ _ h => h) (Or.inl ⟨by rfl, ?_⟩) ?_ ?_
          rotate_left
          ·intro w'
           go_simp
           with_reducible rfl
          rotate_left
          ·simp only [Act.put, sa_, sb_, sc_, i64_w, i32_w]
           rfl
          refine pure_ (i := 2) (N := some 119) (v := ?_) (a' := ?_) #[true, true, true, false, false, false, false, false, false, false, false, false, false, false, false, false, false, false, false, false, false, false] rfl rfl (any_of HT_.out (by kernel_rfl)) (fun _ _ _ h => h) (Or.inl ⟨by rfl, ?_⟩) ?_ ?_
          rotate_left
          ·intro w'
           go_simp
           with_reducible rfl
          rotate_left
          ·simp only [Act.put, sa_, sb_, sc_, i64_w, i32_w]
           rfl
          refine pure_ (i := 4) (N := some 121) (v := ?_) (a' := ?_) #[true, true, true, false, true, false, false, false, false, false, false, false, false, false, false, false, false, false, false, false, false, false] rfl rfl (any_of HT_.out (by kernel_rfl)) (fun _ _ _ h => h) (Or.inl ⟨by rfl, ?_⟩) ?_ ?_
          rotate_left
          ·intro w'
           go_simp
           with_reducible rfl
          rotate_left
          ·simp only [Act.put, sa_, sb_, sc_, i64_w, i32_w]
           rfl
          refine take_ (i := 3) (N := some 120) (v := ?_) (a' := ?_) #[true, true, true, true, true, false, false, false, false, false, false, false, false, false, false, false, false, false, false, false, false, false] rfl rfl (take_ofW HT_.out HW_.out (by kernel_rfl)) (fun _ _ _ h => h) (Or.inl ⟨by rfl, ?_⟩) hHeld ?_ ?_
          rotate_left
          ·rintro w' ⟨s0, s1, s2, s3, s4, s5⟩
           go_simp
           with_reducible rfl
          rotate_left
          ·simp only [Act.put, sa_, sb_, sc_, i64_w, i32_w]
           rfl
          refine one_ (i := 5) (N := some 122) #[true, true, true, true, true, true, false, false, false, false, false, false, false, false, false, false, false, false, false, false, false, false] rfl rfl (one_of HT_.out (by kernel_rfl)) (by decide) (fun K hK => ?_)
          refine goes_ Tryd.func9 (by kernel_rfl) rfl #[.agg #[.int .i64 ((rd_T35 l1 x16_2).f0), .int .i64 ((rd_T35 l1 x16_2).f1), .string ((rd_T35 l1 x16_2).f2), .int .i64 ((rd_T35 l1 x16_2).f3), .string ((rd_T35 l1 x16_2).f4), .bool ((rd_T35 l1 x16_2).f5)], .int .i64 a2] (by rfl) rfl rfl (by (try simp only [List.map_toArray, List.map_cons, List.map_nil]); first | done | rfl | (simp only [List.length_drop, List.length_take]; rfl)) ?_
          with_reducible refine (pinfoldref11_Live_c.calls ((rd_T35 l1 x16_2).f0) ((rd_T35 l1 x16_2).f1) ((rd_T35 l1 x16_2).f2) ((rd_T35 l1 x16_2).f3) ((rd_T35 l1 x16_2).f4) ((rd_T35 l1 x16_2).f5) a2 false _ A56.out).mono ?_
          rintro e w65 ⟨rfl, hb⟩
          refine ⟨_, rfl, ?_⟩
          have n0_ := am_ (Kd.R_below (by (with_reducible repeat (first | apply r1_ | apply r2_ | apply r3_)); exact HO_11.out) hb)
          have n1_ := am_ (kb_ (g := gb265) (o := .cells #[.int .i64 a0_0, .int .i64 a0_1, .slice A0_2 l0_2.length c0_2, .slice A0_3 l0_3.length c0_3, .int .i64 a0_4, .string a0_5, .slice A0_6 l0_6.length c0_6] 26 (0, 0)) (by (with_reducible repeat (first | refine k2_ ?_ _ | refine k3_ ?_ | refine k1_ ?_ _)); exact BK265.out) hb)
          have n2_ := am_ (kb_ (g := gb295) (o := .cells #[.int .i64 t288, .int .i64 t289, .string t290, .int .i64 t291, .string t292, .bool t293] 35 (0, 0)) (by (with_reducible repeat (first | refine k2_ ?_ _ | refine k3_ ?_ | refine k1_ ?_ _)); exact BK295.out) hb)
          have n3_ := am_ (bt_ (by repeat (with_reducible first | exact HB.out | apply p3_ | apply p1_ | apply p2_ | refine bs_ ?_ GE265.out | refine bs_ ?_ GE295.out)) hb)
          clear HO_11
          clear BK265
          clear BK295
          clear HB
          have HO_11 := n0_
          have BK265 := n1_
          have BK295 := n2_
          have HB := n3_
          clear n0_ n1_ n2_ n3_
          (try clear hb)
          (try clear hb2)
          (try clear hk)
          (try clear hi)
          refine hK.out _ _ ⟨((HB.out.cell (wb_ w _ hw300_0)).trans hw300_0), ((HB.out.cell (wb_ w _ hw300_1)).trans hw300_1), ((HB.out.cell (wb_ w _ hw300_2)).trans hw300_2), ((HB.out.cell (wb_ w _ hw300_3)).trans hw300_3), ((HB.out.cell (wb_ w _ hw300_4)).trans hw300_4), ((HB.out.cell (wb_ w _ hw300_5)).trans hw300_5)⟩ (fun hHeld => ?_)
          clear hK K
          refine norm_ (a' := ?_) ?_ ?_
          rotate_left
          ·show Act.put _ (some 122) _ = _
           simp only [Act.put, sa_, sb_, sc_, i64_w, i32_w]
           rfl
          refine pure_ (i := 6) (N := some 123) (v := ?_) (a' := ?_) #[true, true, true, true, true, true, true, false, false, false, false, false, false, false, false, false, false, false, false, false, false, false] rfl rfl (any_of HT_.out (by kernel_rfl)) (fun _ _ _ h => h) (Or.inl ⟨by rfl, ?_⟩) ?_ ?_
          rotate_left
          ·intro w'
           go_simp
           with_reducible rfl
          rotate_left
          ·simp only [Act.put, sa_, sb_, sc_, i64_w, i32_w]
           rfl
          refine pure_ (i := 7) (N := some 124) (v := undef) (a' := ?_) #[true, true, true, true, true, true, true, true, false, false, false, false, false, false, false, false, false, false, false, false, false, false] rfl rfl (any_of HT_.out (by kernel_rfl)) (fun _ _ _ h => h) (Or.inr ⟨by rfl, rfl⟩) ?_ ?_
          rotate_left
          ·simp only [Act.put, sa_, sb_, sc_, i64_w, i32_w]
           rfl
          refine pure_ (i := 8) (N := some 125) (v := undef) (a' := ?_) #[true, true, true, true, true, true, true, true, true, false, false, false, false, false, false, false, false, false, false, false, false, false] rfl rfl (any_of HT_.out (by kernel_rfl)) (fun _ _ _ h => h) (Or.inr ⟨by rfl, rfl⟩) ?_ ?_
          rotate_left
          ·simp only [Act.put, sa_, sb_, sc_, i64_w, i32_w]
           rfl
          refine pure_ (i := 9) (N := some 126) (v := undef) (a' := ?_) #[true, true, true, true, true, true, true, true, true, true, false, false, false, false, false, false, false, false, false, false, false, false] rfl rfl (any_of HT_.out (by kernel_rfl)) (fun _ _ _ h => h) (Or.inr ⟨by rfl, rfl⟩) ?_ ?_
          rotate_left
          ·simp only [Act.put, sa_, sb_, sc_, i64_w, i32_w]
           rfl
          refine pure_ (i := 10) (N := some 127) (v := undef) (a' := ?_) #[true, true, true, true, true, true, true, true, true, true, true, false, false, false, false, false, false, false, false, false, false, false] rfl rfl (any_of HT_.out (by kernel_rfl)) (fun _ _ _ h => h) (Or.inr ⟨by rfl, rfl⟩) ?_ ?_
          rotate_left
          ·simp only [Act.put, sa_, sb_, sc_, i64_w, i32_w]
           rfl
          refine pure_ (i := 11) (N := some 128) (v := undef) (a' := ?_) #[true, true, true, true, true, true, true, true, true, true, true, true, false, false, false, false, false, false, false, false, false, false] rfl rfl (any_of HT_.out (by kernel_rfl)) (fun _ _ _ h => h) (Or.inr ⟨by rfl, rfl⟩) ?_ ?_
          rotate_left
          ·simp only [Act.put, sa_, sb_, sc_, i64_w, i32_w]
           rfl
          refine pure_ (i := 12) (N := some 129) (v := undef) (a' := ?_) #[true, true, true, true, true, true, true, true, true, true, true, true, true, false, false, false, false, false, false, false, false, false] rfl rfl (any_of HT_.out (by kernel_rfl)) (fun _ _ _ h => h) (Or.inr ⟨by rfl, rfl⟩) ?_ ?_
          rotate_left
          ·simp only [Act.put, sa_, sb_, sc_, i64_w, i32_w]
           rfl
          refine pure_ (i := 13) (N := some 130) (v := ?_) (a' := ?_) #[true, true, true, true, true, true, true, true, true, true, true, true, true, true, false, false, false, false, false, false, false, false] rfl rfl (any_of HT_.out (by kernel_rfl)) (fun _ _ _ h => h) (Or.inl ⟨by rfl, ?_⟩) ?_ ?_
          rotate_left
          ·intro w'
           go_simp
           with_reducible rfl
          rotate_left
          ·simp only [Act.put, sa_, sb_, sc_, i64_w, i32_w]
           rfl
          refine pure_ (i := 14) (N := some 131) (v := ?_) (a' := ?_) #[true, true, true, true, true, true, true, true, true, true, true, true, true, true, true, false, false, false, false, false, false, false] rfl rfl (any_of HT_.out (by kernel_rfl)) (fun _ _ _ h => h) (Or.inl ⟨by rfl, ?_⟩) ?_ ?_
          rotate_left
          ·intro w'
           go_simp
           with_reducible rfl
          rotate_left
          ·simp only [Act.put, sa_, sb_, sc_, i64_w, i32_w]
           rfl
          refine pure_ (i := 15) (N := some 132) (v := undef) (a' := ?_) #[true, true, true, true, true, true, true, true, true, true, true, true, true, true, true, true, false, false, false, false, false, false] rfl rfl (any_of HT_.out (by kernel_rfl)) (fun _ _ _ h => h) (Or.inr ⟨by rfl, rfl⟩) ?_ ?_
          rotate_left
          ·simp only [Act.put, sa_, sb_, sc_, i64_w, i32_w]
           rfl
          refine pure_ (i := 16) (N := some 133) (v := undef) (a' := ?_) #[true, true, true, true, true, true, true, true, true, true, true, true, true, true, true, true, true, false, false, false, false, false] rfl rfl (any_of HT_.out (by kernel_rfl)) (fun _ _ _ h => h) (Or.inr ⟨by rfl, rfl⟩) ?_ ?_
          rotate_left
          ·simp only [Act.put, sa_, sb_, sc_, i64_w, i32_w]
           rfl
          refine pure_ (i := 17) (N := some 134) (v := undef) (a' := ?_) #[true, true, true, true, true, true, true, true, true, true, true, true, true, true, true, true, true, true, false, false, false, false] rfl rfl (any_of HT_.out (by kernel_rfl)) (fun _ _ _ h => h) (Or.inr ⟨by rfl, rfl⟩) ?_ ?_
          rotate_left
          ·simp only [Act.put, sa_, sb_, sc_, i64_w, i32_w]
           rfl
          refine pure_ (i := 18) (N := some 135) (v := undef) (a' := ?_) #[true, true, true, true, true, true, true, true, true, true, true, true, true, true, true, true, true, true, true, false, false, false] rfl rfl (any_of HT_.out (by kernel_rfl)) (fun _ _ _ h => h) (Or.inr ⟨by rfl, rfl⟩) ?_ ?_
          rotate_left
          ·simp only [Act.put, sa_, sb_, sc_, i64_w, i32_w]
           rfl
          refine pure_ (i := 19) (N := some 136) (v := undef) (a' := ?_) #[true, true, true, true, true, true, true, true, true, true, true, true, true, true, true, true, true, true, true, true, false, false] rfl rfl (any_of HT_.out (by kernel_rfl)) (fun _ _ _ h => h) (Or.inr ⟨by rfl, rfl⟩) ?_ ?_
          rotate_left
          ·simp only [Act.put, sa_, sb_, sc_, i64_w, i32_w]
           rfl
          refine pure_ (i := 20) (N := some 137) (v := undef) (a' := ?_) #[true, true, true, true, true, true, true, true, true, true, true, true, true, true, true, true, true, true, true, true, true, false] rfl rfl (any_of HT_.out (by kernel_rfl)) (fun _ _ _ h => h) (Or.inr ⟨by rfl, rfl⟩) ?_ ?_
          rotate_left
          ·simp only [Act.put, sa_, sb_, sc_, i64_w, i32_w]
           rfl
          refine pure_ (i := 21) (N := some 138) (v := ?_) (a' := ?_) #[true, true, true, true, true, true, true, true, true, true, true, true, true, true, true, true, true, true, true, true, true, true] rfl rfl (any_of HT_.out (by kernel_rfl)) (fun _ _ _ h => h) (Or.inl ⟨by rfl, ?_⟩) ?_ ?_
          rotate_left
          ·intro w'
           go_simp
           with_reducible rfl
          rotate_left
          ·simp only [Act.put, sa_, sb_, sc_, i64_w, i32_w]
           rfl
          refine done_ (done_of HT_.out (by kernel_rfl)) ?_
          try go_wp2
          go_roundg kj32
          case measure => have := HK1.out; have := HK2.out; have := HJ32.out; omega
          case rel => exact ⟨(wrap64 (x16_2 + 1)), (by first | rfl | (simp; done) | (simp [*]; done)), H', ⟨by have := HK1.out; have := HK2.out; have := HJ32.out; omega⟩, ⟨by (with_reducible repeat (first | apply r1_ | apply r2_ | apply r3_)); exact Kd.R_mono HO_11.out (fun _ hk => trivial)⟩, ⟨by (with_reducible repeat (first | refine k2_ ?_ _ | refine k3_ ?_ | refine k1_ ?_ _)); exact BK265.out⟩, ⟨by repeat (with_reducible first | exact HB.out | apply p3_ | apply p1_ | apply p2_ | refine bs_ ?_ GE265.out | refine bs_ ?_ GE295.out)⟩⟩
       rw [if_neg c30] at H
       have c30b0 : decide (x16_2 < (l1.length : Int)) = false := decide_eq_false c30
       clear c30
       replace H := e4_ H
       obtain ⟨⟨t277, t278, t279, t280, t281, t282, t283⟩, A660, H⟩ := H
       replace H : (if x14_1 ≤ 1 then (if t283 = true then ((pinfoldref11_Live_c.f t277 t278 t279 t280 t281 t282 a2).bind fun t285 => (if t285 = true then (if t279.toList = a3.toList then ((pinfoldref11_TableMay_c.f t267).bind fun t286 => (some t286)) else (none)) else (none))) else (none)) else (none)) = some r := H
       have A66 := am_ A660
       clear A660
       by_cases c67 : x14_1 ≤ 1
       rotate_left
       ·rw [if_neg c67] at H
        exact absurd H (by simp)
       rw [if_pos c67] at H
       have c67b0 : decide (x14_1 ≤ 1) = true := decide_eq_true c67
       clear c67
       by_cases c68 : t283 = true
       ·subst c68
        have H1 : ((pinfoldref11_Live_c.f t277 t278 t279 t280 t281 t282 a2).bind fun t285 => (if t285 = true then (if t279.toList = a3.toList then ((pinfoldref11_TableMay_c.f t267).bind fun t286 => (some t286)) else (none)) else (none))) = some r := by rw [if_pos rfl] at H; exact H
        clear H
        have H := H1
        clear H1
        replace H := e4_ H
        obtain ⟨t285, A690, H⟩ := H
        replace H : (if t285 = true then (if t279.toList = a3.toList then ((pinfoldref11_TableMay_c.f t267).bind fun t286 => (some t286)) else (none)) else (none)) = some r := H
        have A69 := am_ A690
        clear A690
        by_cases c70 : t285 = true
        ·subst c70
         have H1 : (if t279.toList = a3.toList then ((pinfoldref11_TableMay_c.f t267).bind fun t286 => (some t286)) else (none)) = some r := by rw [if_pos rfl] at H; exact H
         clear H
         have H := H1
         clear H1
         by_cases c71 : t279.toList = a3.toList
         rotate_left
         ·rw [if_neg c71] at H
          exact absurd H (by simp)
         rw [if_pos c71] at H
         have c71b0 : (t279.toList == a3.toList) = true := beq_iff_eq.mpr c71
         have c71b1 : (t279.toList != a3.toList) = false := e1_ c71
         clear c71
         replace H := e4_ H
         obtain ⟨t286, A720, H⟩ := H
         replace H : (some t286) = some r := H
         have A72 := am_ A720
         clear A720
         obtain rfl := e5_ H
         go_wp2_with (first | ((with_reducible refine gate_callee (f := 10) rfl ?_); refine goesL_ (some 142) rfl rfl Tryd.func10 (by kernel_rfl) rfl #[.slice Ao29 t267.length co29, .int .i64 t270] rfl (by (try simp only [List.map_toArray, List.map_cons, List.map_nil]); first | done | rfl | (simp only [List.length_drop, List.length_take]; rfl)) ?_; (with_reducible refine (pinfoldref11_FindLease_c.calls _ _ t267 t270 t277 t278 t279 t280 t281 t282 true _ ?side1 ?side2 A66.out).mono ?_); (case side1 => repeat (first | exact (Kd.R_reads' HO_11.out).2.2 | (with_reducible refine c1_ ?_ _) | (with_reducible refine c2_ ?_ _) | (with_reducible refine c3_ ?_))); (case side2 => exact (Kd.R_reads' HO_11.out).2.1); rintro e w73 ⟨rfl, hb⟩; refine ⟨_, rfl, ?_⟩; have n0_ := am_ (Kd.R_below (by (with_reducible repeat (first | apply r1_ | apply r2_ | apply r3_)); exact HO_11.out) hb); have n1_ := am_ (kb_ (g := gb265) (o := .cells #[.int .i64 a0_0, .int .i64 a0_1, .slice A0_2 l0_2.length c0_2, .slice A0_3 l0_3.length c0_3, .int .i64 a0_4, .string a0_5, .slice A0_6 l0_6.length c0_6] 26 (0, 0)) (by (with_reducible repeat (first | refine k2_ ?_ _ | refine k3_ ?_ | refine k1_ ?_ _)); exact BK265.out) hb); have n2_ := am_ (bt_ (by repeat (with_reducible first | exact HB.out | apply p3_ | apply p1_ | apply p2_ | refine bs_ ?_ GE265.out)) hb); clear HO_11; clear BK265; clear HB; have HO_11 := n0_; have BK265 := n1_; have HB := n2_; clear n0_ n1_ n2_; (try clear hb)) | ((with_reducible refine gate_dst (N := 19) rfl ?_); refine box_event ?hg (N := 19) ?hd (cs := #[.int .i64 0, .int .i64 0, .string (⟨#[]⟩ : ByteArray), .int .i64 0, .string (⟨#[]⟩ : ByteArray), .bool false]) (t := 35) ?hr ?_; (case hd => rfl); (case hg => rfl); (case hr => first | (go_simp; done) | (go_simp; rfl)); intro gb284 hg w74 hbox hb; have n0_ := am_ (Kd.R_below (Kd.R_elderB (by (with_reducible repeat (first | apply r1_ | apply r2_ | apply r3_)); exact HO_11.out) gb284 (Nat.le_of_eq hg.symm)) hb); have n1_ := am_ (kb_ (g := gb265) (o := .cells #[.int .i64 a0_0, .int .i64 a0_1, .slice A0_2 l0_2.length c0_2, .slice A0_3 l0_3.length c0_3, .int .i64 a0_4, .string a0_5, .slice A0_6 l0_6.length c0_6] 26 (0, 0)) (by (with_reducible repeat (first | refine k2_ ?_ _ | refine k3_ ?_ | refine k1_ ?_ _)); exact BK265.out) hb); have n2_ := am_ (bt_ (by repeat (with_reducible first | exact HB.out | apply p3_ | apply p1_ | apply p2_ | refine bs_ ?_ GE265.out)) hb); have n3_ := am_ (hbox); have n4_ := am_ ((by rw [hg]; exact (bz_ (by repeat (with_reducible first | exact HB.out | apply p3_ | apply p1_ | apply p2_ | refine bs_ ?_ GE265.out))) : w.heap.size ≤ gb284)); have n5_ := am_ ((by rw [hg]; exact (bz_ (by repeat (with_reducible first | exact HB.out | apply p3_ | apply p1_ | apply p2_ | refine bs_ ?_ GE265.out))) : w.heap.size ≤ gb284)); have n6_ := am_ ((by rw [hg]; exact Nat.ne_of_lt (blk_lt (g := gb265) (o := .cells #[.int .i64 a0_0, .int .i64 a0_1, .slice A0_2 l0_2.length c0_2, .slice A0_3 l0_3.length c0_3, .int .i64 a0_4, .string a0_5, .slice A0_6 l0_6.length c0_6] 26 (0, 0)) (by (with_reducible repeat (first | refine k2_ ?_ _ | refine k3_ ?_ | refine k1_ ?_ _)); exact BK265.out)) : gb265 ≠ gb284)); have n7_ := am_ ((by rw [hg]; exact Nat.ne_of_gt (blk_lt (g := gb265) (o := .cells #[.int .i64 a0_0, .int .i64 a0_1, .slice A0_2 l0_2.length c0_2, .slice A0_3 l0_3.length c0_3, .int .i64 a0_4, .string a0_5, .slice A0_6 l0_6.length c0_6] 26 (0, 0)) (by (with_reducible repeat (first | refine k2_ ?_ _ | refine k3_ ?_ | refine k1_ ?_ _)); exact BK265.out)) : gb284 ≠ gb265)); clear HO_11; clear BK265; clear HB; have HO_11 := n0_; have BK265 := n1_; have HB := n2_; have BK284 := n3_; have GW284 := n4_; have GE284 := n5_; have NB265_284 := n6_; have NB284_265 := n7_; clear n0_ n1_ n2_ n3_ n4_ n5_ n6_ n7_; clear hb hbox hg; have hnb75 := NB284_265.out; have hnc75 := NB265_284.out; have hcz76_0 : w74.cell? ⟨gb284, 0, none⟩ = some (.int .i64 0) := (bc_ BK284.out 0).trans rfl; have hcz76_1 : w74.cell? ⟨gb284, 1, none⟩ = some (.int .i64 0) := (bc_ BK284.out 1).trans rfl; have hcz76_2 : w74.cell? ⟨gb284, 2, none⟩ = some (.string (⟨#[]⟩ : ByteArray)) := (bc_ BK284.out 2).trans rfl; have hcz76_3 : w74.cell? ⟨gb284, 3, none⟩ = some (.int .i64 0) := (bc_ BK284.out 3).trans rfl; have hcz76_4 : w74.cell? ⟨gb284, 4, none⟩ = some (.string (⟨#[]⟩ : ByteArray)) := (bc_ BK284.out 4).trans rfl; have hcz76_5 : w74.cell? ⟨gb284, 5, none⟩ = some (.bool false) := (bc_ BK284.out 5).trans rfl; have hfz76_0 := bf_ BK284.out 0; have hfz76_1 := bf_ BK284.out 1; have hfz76_2 := bf_ BK284.out 2; have hfz76_3 := bf_ BK284.out 3; have hfz76_4 := bf_ BK284.out 4; have hfz76_5 := bf_ BK284.out 5) | (go_at_call 9; (with_reducible refine (pinfoldref11_Live_c.calls t277 t278 t279 t280 t281 t282 a2 true _ A69.out).mono ?_); rintro e w77 ⟨rfl, hb⟩; have n0_ := am_ (Kd.R_below (by (with_reducible repeat (first | apply r1_ | apply r2_ | apply r3_)); exact (Kd.R_mono (Kd.R_far (p := ⟨gb284, 5, none⟩) (Kd.R_far (p := ⟨gb284, 4, none⟩) (Kd.R_far (p := ⟨gb284, 3, none⟩) (Kd.R_far (p := ⟨gb284, 2, none⟩) (Kd.R_far (p := ⟨gb284, 1, none⟩) (Kd.R_far (p := ⟨gb284, 0, none⟩) (Kd.R_mono HO_11.out (fun k_ hk => (⟨hk, hk.2⟩ : _ ∧ k_ ≠ gb284))) (fun _ hk => hk.2) (.int .i64 t277)) (fun _ hk => hk.2) (.int .i64 t278)) (fun _ hk => hk.2) (.string t279)) (fun _ hk => hk.2) (.int .i64 t280)) (fun _ hk => hk.2) (.string t281)) (fun _ hk => hk.2) (.bool t282)) (fun _ h_ => h_.1))) hb); have n1_ := am_ (kb_ (g := gb265) (o := .cells #[.int .i64 a0_0, .int .i64 a0_1, .slice A0_2 l0_2.length c0_2, .slice A0_3 l0_3.length c0_3, .int .i64 a0_4, .string a0_5, .slice A0_6 l0_6.length c0_6] 26 (0, 0)) (by (with_reducible repeat (first | refine k2_ ?_ _ | refine k3_ ?_ | refine k1_ ?_ _)); refine blk_far ?_ NB265_284.out _; (with_reducible repeat (first | refine k2_ ?_ _ | refine k3_ ?_ | refine k1_ ?_ _)); refine blk_far ?_ NB265_284.out _; (with_reducible repeat (first | refine k2_ ?_ _ | refine k3_ ?_ | refine k1_ ?_ _)); refine blk_far ?_ NB265_284.out _; (with_reducible repeat (first | refine k2_ ?_ _ | refine k3_ ?_ | refine k1_ ?_ _)); refine blk_far ?_ NB265_284.out _; (with_reducible repeat (first | refine k2_ ?_ _ | refine k3_ ?_ | refine k1_ ?_ _)); refine blk_far ?_ NB265_284.out _; (with_reducible repeat (first | refine k2_ ?_ _ | refine k3_ ?_ | refine k1_ ?_ _)); refine blk_far ?_ NB265_284.out _; (with_reducible repeat (first | refine k2_ ?_ _ | refine k3_ ?_ | refine k1_ ?_ _)); exact BK265.out) hb); have n2_ := am_ (kb_ (g := gb284) (o := .cells #[.int .i64 t277, .int .i64 t278, .string t279, .int .i64 t280, .string t281, .bool t282] 35 (0, 0)) (by (with_reducible repeat (first | refine k2_ ?_ _ | refine k3_ ?_ | refine k1_ ?_ _)); refine blk_put (cs := #[.int .i64 t277, .int .i64 t278, .string t279, .int .i64 t280, .string t281, .bool false]) ?_ 5 _ rfl; (with_reducible repeat (first | refine k2_ ?_ _ | refine k3_ ?_ | refine k1_ ?_ _)); refine blk_put (cs := #[.int .i64 t277, .int .i64 t278, .string t279, .int .i64 t280, .string (⟨#[]⟩ : ByteArray), .bool false]) ?_ 4 _ rfl; (with_reducible repeat (first | refine k2_ ?_ _ | refine k3_ ?_ | refine k1_ ?_ _)); refine blk_put (cs := #[.int .i64 t277, .int .i64 t278, .string t279, .int .i64 0, .string (⟨#[]⟩ : ByteArray), .bool false]) ?_ 3 _ rfl; (with_reducible repeat (first | refine k2_ ?_ _ | refine k3_ ?_ | refine k1_ ?_ _)); refine blk_put (cs := #[.int .i64 t277, .int .i64 t278, .string (⟨#[]⟩ : ByteArray), .int .i64 0, .string (⟨#[]⟩ : ByteArray), .bool false]) ?_ 2 _ rfl; (with_reducible repeat (first | refine k2_ ?_ _ | refine k3_ ?_ | refine k1_ ?_ _)); refine blk_put (cs := #[.int .i64 t277, .int .i64 0, .string (⟨#[]⟩ : ByteArray), .int .i64 0, .string (⟨#[]⟩ : ByteArray), .bool false]) ?_ 1 _ rfl; (with_reducible repeat (first | refine k2_ ?_ _ | refine k3_ ?_ | refine k1_ ?_ _)); refine blk_put (cs := #[.int .i64 0, .int .i64 0, .string (⟨#[]⟩ : ByteArray), .int .i64 0, .string (⟨#[]⟩ : ByteArray), .bool false]) ?_ 0 _ rfl; (with_reducible repeat (first | refine k2_ ?_ _ | refine k3_ ?_ | refine k1_ ?_ _)); exact BK284.out) hb); have n3_ := am_ (bt_ (by repeat (with_reducible first | exact HB.out | apply p3_ | apply p1_ | apply p2_ | refine bs_ ?_ GE265.out | refine bs_ ?_ GE284.out)) hb); clear HO_11; clear BK265; clear BK284; clear HB; have HO_11 := n0_; have BK265 := n1_; have BK284 := n2_; have HB := n3_; clear n0_ n1_ n2_ n3_; (try clear hb); have hcz78_0 : w77.cell? ⟨gb284, 0, none⟩ = some (.int .i64 t277) := (bc_ BK284.out 0).trans rfl; have hcz78_1 : w77.cell? ⟨gb284, 1, none⟩ = some (.int .i64 t278) := (bc_ BK284.out 1).trans rfl; have hcz78_2 : w77.cell? ⟨gb284, 2, none⟩ = some (.string t279) := (bc_ BK284.out 2).trans rfl; have hcz78_3 : w77.cell? ⟨gb284, 3, none⟩ = some (.int .i64 t280) := (bc_ BK284.out 3).trans rfl; have hcz78_4 : w77.cell? ⟨gb284, 4, none⟩ = some (.string t281) := (bc_ BK284.out 4).trans rfl; have hcz78_5 : w77.cell? ⟨gb284, 5, none⟩ = some (.bool t282) := (bc_ BK284.out 5).trans rfl; have hfz78_0 := bf_ BK284.out 0; have hfz78_1 := bf_ BK284.out 1; have hfz78_2 := bf_ BK284.out 2; have hfz78_3 := bf_ BK284.out 3; have hfz78_4 := bf_ BK284.out 4; have hfz78_5 := bf_ BK284.out 5) | (go_at_call 11; (with_reducible refine (pinfoldref11_TableMay_c.calls _ _ t267 t286 _ ?side1 ?side2 A72.out).mono ?_); (case side1 => repeat (first | exact (Kd.R_reads' HO_11.out).2.2 | (with_reducible refine c1_ ?_ _) | (with_reducible refine c2_ ?_ _) | (with_reducible refine c3_ ?_))); (case side2 => exact (Kd.R_reads' HO_11.out).2.1); rintro e w79 ⟨rfl, hb⟩; have n0_ := am_ (Kd.R_below (by (with_reducible repeat (first | apply r1_ | apply r2_ | apply r3_)); exact HO_11.out) hb); have n1_ := am_ (kb_ (g := gb265) (o := .cells #[.int .i64 a0_0, .int .i64 a0_1, .slice A0_2 l0_2.length c0_2, .slice A0_3 l0_3.length c0_3, .int .i64 a0_4, .string a0_5, .slice A0_6 l0_6.length c0_6] 26 (0, 0)) (by (with_reducible repeat (first | refine k2_ ?_ _ | refine k3_ ?_ | refine k1_ ?_ _)); exact BK265.out) hb); have n2_ := am_ (kb_ (g := gb284) (o := .cells #[.int .i64 t277, .int .i64 t278, .string t279, .int .i64 t280, .string t281, .bool t282] 35 (0, 0)) (by (with_reducible repeat (first | refine k2_ ?_ _ | refine k3_ ?_ | refine k1_ ?_ _)); exact BK284.out) hb); have n3_ := am_ (bt_ (by repeat (with_reducible first | exact HB.out | apply p3_ | apply p1_ | apply p2_ | refine bs_ ?_ GE265.out | refine bs_ ?_ GE284.out)) hb); clear HO_11; clear BK265; clear BK284; clear HB; have HO_11 := n0_; have BK265 := n1_; have BK284 := n2_; have HB := n3_; clear n0_ n1_ n2_ n3_; (try clear hb)))
         go_ret
         exact ⟨by first | rfl | (simp [errW_none, errW_some] <;> rfl) | (simp [*, errW_none, errW_some] <;> rfl), by repeat (with_reducible first | exact HB.out | apply p3_ | apply p1_ | apply p2_ | refine bs_ ?_ GE265.out | refine bs_ ?_ GE284.out)⟩
        replace c70 := e3_ c70
        subst c70
        have H1 : (none) = some r := by rw [if_neg (show ¬ (false = true) by decide)] at H; exact H
        clear H
        have H := H1
        clear H1
        exact absurd H (by simp)
       replace c68 := e3_ c68
       subst c68
       have H1 : (none) = some r := by rw [if_neg (show ¬ (false = true) by decide)] at H; exact H
       clear H
       have H := H1
       clear H1
       exact absurd H (by simp)
  rw [if_neg c10] at H
  have c10b0 : (t272 == 0) = false := e2_ c10
  have c10b1 : (t272 != 0) = true := bne_iff_ne.mpr c10
  by_cases c80 : (t267.length : Int) = 0
  rotate_left
  ·rw [if_neg c80] at H
   exact absurd H (by simp)
  rw [if_pos c80] at H
  have c80b0 : ((t267.length : Int) == 0) = true := beq_iff_eq.mpr c80
  have c80b1 : ((t267.length : Int) != 0) = false := e1_ c80
  clear c80
  obtain rfl := e5_ H
  go_enter Tryd.func3, Tryd.ntmps3
  go_wp2_with (first | ((with_reducible refine gate_dst (N := 5) rfl ?_); refine box_event ?hg (N := 5) ?hd (cs := #[.int .i64 a0_0, .int .i64 a0_1, .slice A0_2 l0_2.length c0_2, .slice A0_3 l0_3.length c0_3, .int .i64 a0_4, .string a0_5, .slice A0_6 l0_6.length c0_6]) (t := 26) ?hr ?_; (case hd => rfl); (case hg => rfl); (case hr => first | (go_simp; done) | (go_simp; rfl)); intro gb265 hg w81 hbox hb; have n0_ := am_ (bt_ (by repeat (with_reducible first | exact HB.out | apply p3_ | apply p1_ | apply p2_)) hb); have n1_ := am_ (hbox); have n2_ := am_ ((by rw [hg]; exact (bz_ (by repeat (with_reducible first | exact HB.out | apply p3_ | apply p1_ | apply p2_))) : w.heap.size ≤ gb265)); have n3_ := am_ ((by rw [hg]; exact (bz_ (by repeat (with_reducible first | exact HB.out | apply p3_ | apply p1_ | apply p2_))) : w.heap.size ≤ gb265)); clear HB; have HB := n0_; have BK265 := n1_; have GW265 := n2_; have GE265 := n3_; clear n0_ n1_ n2_ n3_; clear hb hbox hg) | ((with_reducible refine gate_callee (f := 6) rfl ?_); refine goesL_ (some 21) rfl rfl Tryd.func6 (by kernel_rfl) rfl #[] rfl (by (try simp only [List.map_toArray, List.map_cons, List.map_nil]); first | done | rfl | (simp only [List.length_drop, List.length_take]; rfl)) ?_; (with_reducible refine (pinfoldlaw15_awake.calls k  true _ A6.out).mono ?_); rintro e w82 ⟨rfl, hb⟩; refine ⟨_, rfl, ?_⟩; have n0_ := am_ (kb_ (g := gb265) (o := .cells #[.int .i64 a0_0, .int .i64 a0_1, .slice A0_2 l0_2.length c0_2, .slice A0_3 l0_3.length c0_3, .int .i64 a0_4, .string a0_5, .slice A0_6 l0_6.length c0_6] 26 (0, 0)) (by (with_reducible repeat (first | refine k2_ ?_ _ | refine k3_ ?_ | refine k1_ ?_ _)); exact BK265.out) hb); have n1_ := am_ (bt_ (by repeat (with_reducible first | exact HB.out | apply p3_ | apply p1_ | apply p2_ | refine bs_ ?_ GE265.out)) hb); clear BK265; clear HB; have BK265 := n0_; have HB := n1_; clear n0_ n1_; (try clear hb); have hcz83_0 : w82.cell? ⟨gb265, 0, none⟩ = some (.int .i64 a0_0) := (bc_ BK265.out 0).trans rfl; have hcz83_1 : w82.cell? ⟨gb265, 1, none⟩ = some (.int .i64 a0_1) := (bc_ BK265.out 1).trans rfl; have hcz83_2 : w82.cell? ⟨gb265, 2, none⟩ = some (.slice A0_2 l0_2.length c0_2) := (bc_ BK265.out 2).trans rfl; have hcz83_3 : w82.cell? ⟨gb265, 3, none⟩ = some (.slice A0_3 l0_3.length c0_3) := (bc_ BK265.out 3).trans rfl; have hcz83_4 : w82.cell? ⟨gb265, 4, none⟩ = some (.int .i64 a0_4) := (bc_ BK265.out 4).trans rfl; have hcz83_5 : w82.cell? ⟨gb265, 5, none⟩ = some (.string a0_5) := (bc_ BK265.out 5).trans rfl; have hcz83_6 : w82.cell? ⟨gb265, 6, none⟩ = some (.slice A0_6 l0_6.length c0_6) := (bc_ BK265.out 6).trans rfl; have hfz83_0 := bf_ BK265.out 0; have hfz83_1 := bf_ BK265.out 1; have hfz83_2 := bf_ BK265.out 2; have hfz83_3 := bf_ BK265.out 3; have hfz83_4 := bf_ BK265.out 4; have hfz83_5 := bf_ BK265.out 5; have hfz83_6 := bf_ BK265.out 6) | ((with_reducible refine gate_callee (f := 7) rfl ?_); refine goesL_ (some 29) rfl rfl Tryd.func7 (by kernel_rfl) rfl #[.agg #[.int .i64 a0_0, .int .i64 a0_1, .slice A0_2 l0_2.length c0_2, .slice A0_3 l0_3.length c0_3, .int .i64 a0_4, .string a0_5, .slice A0_6 l0_6.length c0_6], .slice A1 l1.length c1, .int .i64 a2, .string a3, .int .i64 a4] rfl (by (try simp only [List.map_toArray, List.map_cons, List.map_nil]); first | done | rfl | (simp only [List.length_drop, List.length_take]; rfl)) ?_; (with_reducible refine (offer_Offer.calls a0_0 a0_1 _ _ l0_2 _ _ l0_3 a0_4 a0_5 _ _ l0_6 _ _ l1 a2 a3 a4 t267 t270 t271 _ ?side1 ?side2 ?side3 ?side4 ?side5 ?side6 ?side7 ?side8 A8.out).mono ?_); (case side1 => repeat (first | exact (c4_ HR0_2.out HB.out) | (with_reducible refine c1_ ?_ _) | (with_reducible refine c2_ ?_ _) | (with_reducible refine c3_ ?_))); (case side2 => exact HC0_2.out); (case side3 => repeat (first | exact (c4_ HR0_3.out HB.out) | (with_reducible refine c1_ ?_ _) | (with_reducible refine c2_ ?_ _) | (with_reducible refine c3_ ?_))); (case side4 => exact HC0_3.out); (case side5 => repeat (first | exact (c4_ HR0_6.out HB.out) | (with_reducible refine c1_ ?_ _) | (with_reducible refine c2_ ?_ _) | (with_reducible refine c3_ ?_))); (case side6 => exact HC0_6.out); (case side7 => repeat (first | exact (c4_ HR1.out HB.out) | (with_reducible refine c1_ ?_ _) | (with_reducible refine c2_ ?_ _) | (with_reducible refine c3_ ?_))); (case side8 => exact HC1.out); rintro e w84 ⟨v268, rfl, ho0, hb⟩; refine ⟨_, rfl, ?_⟩; have n0_ := am_ (Kd.R_lower ho0 (bz_ (by repeat (with_reducible first | exact HB.out | apply p3_ | apply p1_ | apply p2_ | refine bs_ ?_ GE265.out)))); have n1_ := am_ (kb_ (g := gb265) (o := .cells #[.int .i64 a0_0, .int .i64 a0_1, .slice A0_2 l0_2.length c0_2, .slice A0_3 l0_3.length c0_3, .int .i64 a0_4, .string a0_5, .slice A0_6 l0_6.length c0_6] 26 (0, 0)) (by (with_reducible repeat (first | refine k2_ ?_ _ | refine k3_ ?_ | refine k1_ ?_ _)); exact BK265.out) hb); have n2_ := am_ (bt_ (by repeat (with_reducible first | exact HB.out | apply p3_ | apply p1_ | apply p2_ | refine bs_ ?_ GE265.out)) hb); clear BK265; clear HB; have HO269 := n0_; have BK265 := n1_; have HB := n2_; clear n0_ n1_ n2_; (try clear hb); (try clear ho0)) | ((with_reducible refine gate_callee (f := 8) rfl ?_); refine goesL_ (some 34) rfl rfl Tryd.func8 (by kernel_rfl) rfl #[.int .i64 t271] rfl (by (try simp only [List.map_toArray, List.map_cons, List.map_nil]); first | done | rfl | (simp only [List.length_drop, List.length_take]; rfl)) ?_; (with_reducible refine (pinfoldlaw0_Num.calls t271 t272 _ A9.out).mono ?_); rintro e w' ⟨rfl, ⟨nd, rfl⟩⟩; refine ⟨_, rfl, ?_⟩; obtain ⟨Ao85, co85, eo85⟩ := Kd.R_slice HO269.out; subst eo85))
  go_ret
  exact ⟨by first | rfl | (simp [errW_none, errW_some] <;> rfl) | (simp [*, errW_none, errW_some] <;> rfl), by repeat (with_reducible first | exact HB.out | apply p3_ | apply p1_ | apply p2_ | refine bs_ ?_ GE265.out)⟩
 replace c7 := e3_ c7
 subst c7
 have H1 : (none) = some r := by rw [if_neg (show ¬ (false = true) by decide)] at H; exact H
 clear H
 have H := H1
 clear H1
 exact absurd H (by simp)

/-- THE ONE PURE STATEMENT of pinfoldlaw15_OfferOthers. -/
def pinfoldlaw15_OfferOthers.Pure : Prop := ∀ (a0_0 : Int) (a0_1 : Int) (l0_2 : List Int) (l0_3 : List (S56)) (a0_4 : Int) (a0_5 : ByteArray) (l0_6 : List (S58)) (l1 : List (S35)) (a2 : Int) (a3 : ByteArray) (a4 : Int), (Lit.int .i64 a0_0).wf = true → (Lit.int .i64 a0_1).wf = true → (l0_2.length * Tryd.prog.bytesOf 3 ≤ 140737488351232 ∧ ∀ y0_ ∈ l0_2, (Lit.int .i64 y0_).wf = true) → (l0_3.length * Tryd.prog.bytesOf 56 ≤ 140737488351232 ∧ ∀ y0_ ∈ l0_3, (y0_.f0.size ≤ 140737488351232 ∧ (Lit.int .i64 y0_.f1).wf = true)) → (Lit.int .i64 a0_4).wf = true → a0_5.size ≤ 140737488351232 → (l0_6.length * Tryd.prog.bytesOf 58 ≤ 140737488351232 ∧ ∀ y0_ ∈ l0_6, (y0_.f0.size ≤ 140737488351232 ∧ ((Lit.int .i64 y0_.f1).wf = true ∧ ((Lit.int .i64 y0_.f2).wf = true ∧ ((Lit.int .i64 y0_.f3).wf = true ∧ (y0_.f4.size ≤ 140737488351232 ∧ (y0_.f5.size ≤ 140737488351232 ∧ (Lit.int .i64 y0_.f6).wf = true))))))) → (l1.length * Tryd.prog.bytesOf 35 ≤ 140737488351232 ∧ ∀ y0_ ∈ l1, ((Lit.int .i64 y0_.f0).wf = true ∧ ((Lit.int .i64 y0_.f1).wf = true ∧ (y0_.f2.size ≤ 140737488351232 ∧ ((Lit.int .i64 y0_.f3).wf = true ∧ (y0_.f4.size ≤ 140737488351232 ∧ True)))))) → (Lit.int .i64 a2).wf = true → a3.size ≤ 140737488351232 → (Lit.int .i64 a4).wf = true → ∃ k, pinfoldlaw15_OfferOthers.f k a0_0 a0_1 l0_2 l0_3 a0_4 a0_5 l0_6 l1 a2 a3 a4 = some true
theorem pinfoldlaw15_OfferOthers.walk (P : pinfoldlaw15_OfferOthers.Pure) (a0_0 : Int) (a0_1 : Int) (A0_2 : Option Addr) (c0_2 : Nat) (l0_2 : List Int) (A0_3 : Option Addr) (c0_3 : Nat) (l0_3 : List (S56)) (a0_4 : Int) (a0_5 : ByteArray) (A0_6 : Option Addr) (c0_6 : Nat) (l0_6 : List (S58)) (A1 : Option Addr) (c1 : Nat) (l1 : List (S35)) (a2 : Int) (a3 : ByteArray) (a4 : Int) (w : World) (hr0_2 : Kd.C (Kd.int .i64) w A0_2 l0_2.length l0_2) (hc0_2 : l0_2.length ≤ c0_2) (hr0_3 : Kd.C k56 w A0_3 l0_3.length l0_3) (hc0_3 : l0_3.length ≤ c0_3) (hr0_6 : Kd.C k58 w A0_6 l0_6.length l0_6) (hc0_6 : l0_6.length ≤ c0_6) (hr1 : Kd.C k35 w A1 l1.length l1) (hc1 : l1.length ≤ c1) (w0_0 : (Lit.int .i64 a0_0).wf = true) (w0_1 : (Lit.int .i64 a0_1).wf = true) (w0_2 : (l0_2.length * Tryd.prog.bytesOf 3 ≤ 140737488351232 ∧ ∀ y0_ ∈ l0_2, (Lit.int .i64 y0_).wf = true)) (w0_3 : (l0_3.length * Tryd.prog.bytesOf 56 ≤ 140737488351232 ∧ ∀ y0_ ∈ l0_3, (y0_.f0.size ≤ 140737488351232 ∧ (Lit.int .i64 y0_.f1).wf = true))) (w0_4 : (Lit.int .i64 a0_4).wf = true) (w0_5 : a0_5.size ≤ 140737488351232) (w0_6 : (l0_6.length * Tryd.prog.bytesOf 58 ≤ 140737488351232 ∧ ∀ y0_ ∈ l0_6, (y0_.f0.size ≤ 140737488351232 ∧ ((Lit.int .i64 y0_.f1).wf = true ∧ ((Lit.int .i64 y0_.f2).wf = true ∧ ((Lit.int .i64 y0_.f3).wf = true ∧ (y0_.f4.size ≤ 140737488351232 ∧ (y0_.f5.size ≤ 140737488351232 ∧ (Lit.int .i64 y0_.f6).wf = true)))))))) (w1 : (l1.length * Tryd.prog.bytesOf 35 ≤ 140737488351232 ∧ ∀ y0_ ∈ l1, ((Lit.int .i64 y0_.f0).wf = true ∧ ((Lit.int .i64 y0_.f1).wf = true ∧ (y0_.f2.size ≤ 140737488351232 ∧ ((Lit.int .i64 y0_.f3).wf = true ∧ (y0_.f4.size ≤ 140737488351232 ∧ True))))))) (w2 : (Lit.int .i64 a2).wf = true) (w3 : a3.size ≤ 140737488351232) (w4 : (Lit.int .i64 a4).wf = true) :
  Calls Tryd.prog 3 #[.agg #[.int .i64 a0_0, .int .i64 a0_1, .slice A0_2 l0_2.length c0_2, .slice A0_3 l0_3.length c0_3, .int .i64 a0_4, .string a0_5, .slice A0_6 l0_6.length c0_6], .slice A1 l1.length c1, .int .i64 a2, .string a3, .int .i64 a4] w fun e w' => e = .returned (.bool true) ∧ Below w.heap.size w w' := by
 obtain ⟨k, h⟩ := P a0_0 a0_1 l0_2 l0_3 a0_4 a0_5 l0_6 l1 a2 a3 a4 w0_0 w0_1 w0_2 w0_3 w0_4 w0_5 w0_6 w1 w2 w3 w4
 refine (pinfoldlaw15_OfferOthers.calls k a0_0 a0_1 _ _ l0_2 _ _ l0_3 a0_4 a0_5 _ _ l0_6 _ _ l1 a2 a3 a4 true w hr0_2 hc0_2 hr0_3 hc0_3 hr0_6 hc0_6 hr1 hc1 h).mono ?_
 rintro e w' ⟨rfl, hd⟩
 exact ⟨rfl, hd⟩

end Go.Proofs.YtdhckibkljafgaaDoor.PH
