-- Made by wip/pr.py out of the translation (a turned copy of the kit's print; contracts by hand where said).
import Derived.Test.YtmoobaehoccihaaDoorPEx0
import Derived.Test.YtmoobaehoccihaaDoorPEx20
import Derived.Test.YtmoobaehoccihaaDoorPEx13
import Derived.Test.YtmoobaehoccihaaDoorPEx9
namespace Go.Proofs.YtmoobaehoccihaaDoor.PE
open Go.RowKit Go.Proofs.YtmoobaehoccihaaDoorW.PrintWords Go.Proofs.YtmoobaehoccihaaDoorW.PrintLast Go.Proofs.YtmoobaehoccihaaDoorW.PrintMore
-- shrunk
attribute [local go_sem] max2_int min2_int max_two min_two max_three min_three max_four min_four   -- for this text's walks alone
set_option linter.unusedVariables false
set_option linter.unusedSimpArgs false

/-! ### pinfoldlaw18_DropTwice: function 7 -/
mutual
def pinfoldlaw18_DropTwice.j0 : Nat → List (S42) → Int → ByteArray → Int → List (S42) → List (S42) → Bool → Int → Int → List Int → List (S72) → Int → ByteArray → List (S74) → Option (Bool)
 | 0, _, _, _, _, _, _, _, _, _, _, _, _, _, _ => none
 | k + 1, x1, x2, x3, x4, x11, x13, x51, x182000, x182001, x182002, x182003, x182004, x182005, x182006 => if x51 = true then (some ((wrap64 ((x11.length : Int) + (x13.length : Int))) == 0)) else ((drop_Release.f x182000 x182001 x182002 x182003 x182004 x182005 x182006 x11 x2 x3 x4).bind fun bt193 => ((drop_Decline.f x182000 x182001 x182002 x182003 x182004 x182005 x182006 x11 x2 x3 x4).bind fun bt197 => ((drop_Release.f x182000 x182001 x182002 x182003 x182004 x182005 x182006 x13 x2 x3 x4).bind fun bt201 => ((drop_Decline.f x182000 x182001 x182002 x182003 x182004 x182005 x182006 x13 x2 x3 x4).bind fun bt205 => ((pinfoldlaw0_Num.f bt193.2).bind fun t209 => (if t209 = 0 then ((pinfoldlaw0_Num.f bt197.2).bind fun t210 => (if t210 = 0 then ((pinfoldlaw0_Num.f bt201.2).bind fun t211 => (if t211 = 0 then ((pinfoldlaw0_Num.f bt205.2).bind fun t212 => (pinfoldlaw18_DropTwice.j1 k x1 x11 x13 bt193.1 bt197.1 bt201.1 bt205.1 (t212 != 0))) else (pinfoldlaw18_DropTwice.j1 k x1 x11 x13 bt193.1 bt197.1 bt201.1 bt205.1 true))) else (pinfoldlaw18_DropTwice.j1 k x1 x11 x13 bt193.1 bt197.1 bt201.1 bt205.1 true))) else (pinfoldlaw18_DropTwice.j1 k x1 x11 x13 bt193.1 bt197.1 bt201.1 bt205.1 true)))))))
def pinfoldlaw18_DropTwice.j1 : Nat → List (S42) → List (S42) → List (S42) → List (S42) → List (S42) → List (S42) → List (S42) → Bool → Option (Bool)
 | 0, _, _, _, _, _, _, _, _ => none
 | k + 1, x1, x11, x13, x15, x17, x19, x21, x111 => if x111 = true then (none) else ((pinfoldlaw0_SameLeases.f k x11 x1).bind fun t213 => ((pinfoldlaw0_SameLeases.f k x15 x11).bind fun t214 => (if t214 = true then (if t213 = true then ((pinfoldlaw0_SameLeases.f k x19 x13).bind fun t215 => (if t215 = true then ((pinfoldlaw0_SameLeases.f k x21 x13).bind fun t216 => (if t216 = true then (some true) else ((pinfoldlaw0_SameLeases.f k x13 x1).bind fun t217 => (if t217 = true then ((pinfoldlaw0_SameLeases.f k x15 x11).bind fun t218 => (if t218 = true then ((pinfoldlaw0_SameLeases.f k x21 x13).bind fun t219 => (some t219)) else (none))) else (none))))) else ((pinfoldlaw0_SameLeases.f k x13 x1).bind fun t220 => (if t220 = true then ((pinfoldlaw0_SameLeases.f k x15 x11).bind fun t221 => (if t221 = true then ((pinfoldlaw0_SameLeases.f k x21 x13).bind fun t222 => (some t222)) else (none))) else (none))))) else ((pinfoldlaw0_SameLeases.f k x17 x11).bind fun t223 => (if t223 = true then ((pinfoldlaw0_SameLeases.f k x19 x13).bind fun t224 => (if t224 = true then ((pinfoldlaw0_SameLeases.f k x21 x13).bind fun t225 => (if t225 = true then (some true) else ((pinfoldlaw0_SameLeases.f k x13 x1).bind fun t226 => (if t226 = true then ((pinfoldlaw0_SameLeases.f k x15 x11).bind fun t227 => (if t227 = true then ((pinfoldlaw0_SameLeases.f k x21 x13).bind fun t228 => (some t228)) else (none))) else (none))))) else ((pinfoldlaw0_SameLeases.f k x13 x1).bind fun t229 => (if t229 = true then ((pinfoldlaw0_SameLeases.f k x15 x11).bind fun t230 => (if t230 = true then ((pinfoldlaw0_SameLeases.f k x21 x13).bind fun t231 => (some t231)) else (none))) else (none))))) else ((pinfoldlaw0_SameLeases.f k x13 x1).bind fun t232 => (if t232 = true then ((pinfoldlaw0_SameLeases.f k x15 x11).bind fun t233 => (if t233 = true then ((pinfoldlaw0_SameLeases.f k x21 x13).bind fun t234 => (some t234)) else (none))) else (none)))))) else ((pinfoldlaw0_SameLeases.f k x13 x1).bind fun t235 => (if t235 = true then ((pinfoldlaw0_SameLeases.f k x15 x11).bind fun t236 => (if t236 = true then ((pinfoldlaw0_SameLeases.f k x21 x13).bind fun t237 => (some t237)) else (none))) else (none))))))
end
def pinfoldlaw18_DropTwice.f (k : Nat) (a0_0 : Int) (a0_1 : Int) (l0_2 : List Int) (l0_3 : List (S72)) (a0_4 : Int) (a0_5 : ByteArray) (l0_6 : List (S74)) (l1 : List (S42)) (a2 : Int) (a3 : ByteArray) (a4 : Int) : Option (Bool) := (pinfoldlaw18_awake.f k).bind fun t182 => (if t182 = true then ((drop_Release.f a0_0 a0_1 l0_2 l0_3 a0_4 a0_5 l0_6 l1 a2 a3 a4).bind fun bt183 => ((drop_Decline.f a0_0 a0_1 l0_2 l0_3 a0_4 a0_5 l0_6 l1 a2 a3 a4).bind fun bt187 => ((pinfoldlaw0_Num.f bt183.2).bind fun t191 => (if t191 = 0 then ((pinfoldlaw0_Num.f bt187.2).bind fun t192 => (pinfoldlaw18_DropTwice.j0 k l1 a2 a3 a4 bt183.1 bt187.1 (t192 != 0) a0_0 a0_1 l0_2 l0_3 a0_4 a0_5 l0_6)) else (pinfoldlaw18_DropTwice.j0 k l1 a2 a3 a4 bt183.1 bt187.1 true a0_0 a0_1 l0_2 l0_3 a0_4 a0_5 l0_6))))) else (none))
theorem pinfoldlaw18_DropTwice.mono_l : ∀ k, (∀ y0 y1 y2 y3 y4 y5 y6 y7 y8 y9 y10 y11 y12 y13, LeO (pinfoldlaw18_DropTwice.j0 k y0 y1 y2 y3 y4 y5 y6 y7 y8 y9 y10 y11 y12 y13) (pinfoldlaw18_DropTwice.j0 (k + 1) y0 y1 y2 y3 y4 y5 y6 y7 y8 y9 y10 y11 y12 y13)) ∧ (∀ y0 y1 y2 y3 y4 y5 y6 y7, LeO (pinfoldlaw18_DropTwice.j1 k y0 y1 y2 y3 y4 y5 y6 y7) (pinfoldlaw18_DropTwice.j1 (k + 1) y0 y1 y2 y3 y4 y5 y6 y7))
 | 0 => ⟨fun _ _ _ _ _ _ _ _ _ _ _ _ _ _ r h => by simp [pinfoldlaw18_DropTwice.j0] at h, fun _ _ _ _ _ _ _ _ r h => by simp [pinfoldlaw18_DropTwice.j1] at h⟩
 | k + 1 => by
  obtain ⟨ih0, ih1⟩ := pinfoldlaw18_DropTwice.mono_l k
  refine ⟨?_, ?_⟩
  ·intro y0 y1 y2 y3 y4 y5 y6 y7 y8 y9 y10 y11 y12 y13
   unfold pinfoldlaw18_DropTwice.j0
   repeat' first
   | (with_reducible exact ih0 _ _ _ _ _ _ _ _ _ _ _ _ _ _)
   | (with_reducible exact ih1 _ _ _ _ _ _ _ _)
   | (with_reducible exact pinfoldlaw0_SameLeases.mono _ _ _)
   | (with_reducible exact pinfoldlaw18_awake.mono _)
   | (with_reducible exact LeO.refl _)
   | (with_reducible exact LeO.none _)
   | (with_reducible refine LeO.ite ?_ ?_)
   | (with_reducible refine LeO.bind ?_ (fun _ => ?_))
   | exact ih0 _ _ _ _ _ _ _ _ _ _ _ _ _ _
   | exact ih1 _ _ _ _ _ _ _ _
   | exact pinfoldlaw0_SameLeases.mono _ _ _
   | exact pinfoldlaw18_awake.mono _
   | exact LeO.none _
   | refine LeO.ite ?_ ?_
   | refine LeO.bind ?_ (fun _ => ?_)
  ·intro y0 y1 y2 y3 y4 y5 y6 y7
   unfold pinfoldlaw18_DropTwice.j1
   repeat' first
   | (with_reducible exact ih0 _ _ _ _ _ _ _ _ _ _ _ _ _ _)
   | (with_reducible exact ih1 _ _ _ _ _ _ _ _)
   | (with_reducible exact pinfoldlaw0_SameLeases.mono _ _ _)
   | (with_reducible exact pinfoldlaw18_awake.mono _)
   | (with_reducible exact LeO.refl _)
   | (with_reducible exact LeO.none _)
   | (with_reducible refine LeO.ite ?_ ?_)
   | (with_reducible refine LeO.bind ?_ (fun _ => ?_))
   | exact ih0 _ _ _ _ _ _ _ _ _ _ _ _ _ _
   | exact ih1 _ _ _ _ _ _ _ _
   | exact pinfoldlaw0_SameLeases.mono _ _ _
   | exact pinfoldlaw18_awake.mono _
   | exact LeO.none _
   | refine LeO.ite ?_ ?_
   | refine LeO.bind ?_ (fun _ => ?_)
theorem pinfoldlaw18_DropTwice.mono : ∀ a0 a1 a2 a3 a4 a5 a6 a7 a8 a9 a10 k, LeO (pinfoldlaw18_DropTwice.f k a0 a1 a2 a3 a4 a5 a6 a7 a8 a9 a10) (pinfoldlaw18_DropTwice.f (k + 1) a0 a1 a2 a3 a4 a5 a6 a7 a8 a9 a10) := by
 intro a0 a1 a2 a3 a4 a5 a6 a7 a8 a9 a10 k
 obtain ⟨ih0, ih1⟩ := pinfoldlaw18_DropTwice.mono_l k
 unfold pinfoldlaw18_DropTwice.f
 repeat' first
   | (with_reducible exact ih0 _ _ _ _ _ _ _ _ _ _ _ _ _ _)
   | (with_reducible exact ih1 _ _ _ _ _ _ _ _)
   | (with_reducible exact pinfoldlaw0_SameLeases.mono _ _ _)
   | (with_reducible exact pinfoldlaw18_awake.mono _)
   | (with_reducible exact LeO.refl _)
   | (with_reducible exact LeO.none _)
   | (with_reducible refine LeO.ite ?_ ?_)
   | (with_reducible refine LeO.bind ?_ (fun _ => ?_))
   | exact ih0 _ _ _ _ _ _ _ _ _ _ _ _ _ _
   | exact ih1 _ _ _ _ _ _ _ _
   | exact pinfoldlaw0_SameLeases.mono _ _ _
   | exact pinfoldlaw18_awake.mono _
   | exact LeO.none _
   | refine LeO.ite ?_ ?_
   | refine LeO.bind ?_ (fun _ => ?_)
set_option maxHeartbeats 8000000 in
set_option maxRecDepth 100000 in
theorem pinfoldlaw18_DropTwice.calls (k : Nat) (a0_0 : Int) (a0_1 : Int) (A0_2 : Option Addr) (c0_2 : Nat) (l0_2 : List Int) (A0_3 : Option Addr) (c0_3 : Nat) (l0_3 : List (S72)) (a0_4 : Int) (a0_5 : ByteArray) (A0_6 : Option Addr) (c0_6 : Nat) (l0_6 : List (S74)) (A1 : Option Addr) (c1 : Nat) (l1 : List (S42)) (a2 : Int) (a3 : ByteArray) (a4 : Int) (r : Bool) (w : World) (hr0_2 : Kd.C (Kd.int .i64) w A0_2 l0_2.length l0_2) (hc0_2 : l0_2.length ≤ c0_2) (hr0_3 : Kd.C k72 w A0_3 l0_3.length l0_3) (hc0_3 : l0_3.length ≤ c0_3) (hr0_6 : Kd.C k74 w A0_6 l0_6.length l0_6) (hc0_6 : l0_6.length ≤ c0_6) (hr1 : Kd.C k42 w A1 l1.length l1) (hc1 : l1.length ≤ c1) (h : pinfoldlaw18_DropTwice.f k a0_0 a0_1 l0_2 l0_3 a0_4 a0_5 l0_6 l1 a2 a3 a4 = some r) :
  Calls Tryd.prog 7 #[.agg #[.int .i64 a0_0, .int .i64 a0_1, .slice A0_2 l0_2.length c0_2, .slice A0_3 l0_3.length c0_3, .int .i64 a0_4, .string a0_5, .slice A0_6 l0_6.length c0_6], .slice A1 l1.length c1, .int .i64 a2, .string a3, .int .i64 a4] w fun e w' => e = .returned (.bool r) ∧ Below w.heap.size w w' := by
 have hu26 := Tryd.underlying26
 have HR0_2 := am_ hr0_2
 have HC0_2 := am_ hc0_2
 clear hr0_2 hc0_2
 have HR0_3 := am_ hr0_3
 have HC0_3 := am_ hc0_3
 clear hr0_3 hc0_3
 have HR0_6 := am_ hr0_6
 have HC0_6 := am_ hc0_6
 clear hr0_6 hc0_6
 have HR1 := am_ hr1
 have HC1 := am_ hc1
 clear hr1 hc1
 have HB := am_ (Below.refl w.heap.size w)
 have H : ((pinfoldlaw18_awake.f k).bind fun t182 => (if t182 = true then ((drop_Release.f a0_0 a0_1 l0_2 l0_3 a0_4 a0_5 l0_6 l1 a2 a3 a4).bind fun bt183 => ((drop_Decline.f a0_0 a0_1 l0_2 l0_3 a0_4 a0_5 l0_6 l1 a2 a3 a4).bind fun bt187 => ((pinfoldlaw0_Num.f bt183.2).bind fun t191 => (if t191 = 0 then ((pinfoldlaw0_Num.f bt187.2).bind fun t192 => (pinfoldlaw18_DropTwice.j0 k l1 a2 a3 a4 bt183.1 bt187.1 (t192 != 0) a0_0 a0_1 l0_2 l0_3 a0_4 a0_5 l0_6)) else (pinfoldlaw18_DropTwice.j0 k l1 a2 a3 a4 bt183.1 bt187.1 true a0_0 a0_1 l0_2 l0_3 a0_4 a0_5 l0_6))))) else (none))) = some r := h
 clear h
 replace H := e4_ H
 obtain ⟨t182, A60, H⟩ := H
 replace H : (if t182 = true then ((drop_Release.f a0_0 a0_1 l0_2 l0_3 a0_4 a0_5 l0_6 l1 a2 a3 a4).bind fun bt183 => ((drop_Decline.f a0_0 a0_1 l0_2 l0_3 a0_4 a0_5 l0_6 l1 a2 a3 a4).bind fun bt187 => ((pinfoldlaw0_Num.f bt183.2).bind fun t191 => (if t191 = 0 then ((pinfoldlaw0_Num.f bt187.2).bind fun t192 => (pinfoldlaw18_DropTwice.j0 k l1 a2 a3 a4 bt183.1 bt187.1 (t192 != 0) a0_0 a0_1 l0_2 l0_3 a0_4 a0_5 l0_6)) else (pinfoldlaw18_DropTwice.j0 k l1 a2 a3 a4 bt183.1 bt187.1 true a0_0 a0_1 l0_2 l0_3 a0_4 a0_5 l0_6))))) else (none)) = some r := H
 have A6 := am_ A60
 clear A60
 by_cases c7 : t182 = true
 ·subst c7
  have H1 : ((drop_Release.f a0_0 a0_1 l0_2 l0_3 a0_4 a0_5 l0_6 l1 a2 a3 a4).bind fun bt183 => ((drop_Decline.f a0_0 a0_1 l0_2 l0_3 a0_4 a0_5 l0_6 l1 a2 a3 a4).bind fun bt187 => ((pinfoldlaw0_Num.f bt183.2).bind fun t191 => (if t191 = 0 then ((pinfoldlaw0_Num.f bt187.2).bind fun t192 => (pinfoldlaw18_DropTwice.j0 k l1 a2 a3 a4 bt183.1 bt187.1 (t192 != 0) a0_0 a0_1 l0_2 l0_3 a0_4 a0_5 l0_6)) else (pinfoldlaw18_DropTwice.j0 k l1 a2 a3 a4 bt183.1 bt187.1 true a0_0 a0_1 l0_2 l0_3 a0_4 a0_5 l0_6))))) = some r := by rw [if_pos rfl] at H; exact H
  clear H
  have H := H1
  clear H1
  replace H := e4_ H
  obtain ⟨⟨t183, t186⟩, A80, H⟩ := H
  replace H : ((drop_Decline.f a0_0 a0_1 l0_2 l0_3 a0_4 a0_5 l0_6 l1 a2 a3 a4).bind fun bt187 => ((pinfoldlaw0_Num.f t186).bind fun t191 => (if t191 = 0 then ((pinfoldlaw0_Num.f bt187.2).bind fun t192 => (pinfoldlaw18_DropTwice.j0 k l1 a2 a3 a4 t183 bt187.1 (t192 != 0) a0_0 a0_1 l0_2 l0_3 a0_4 a0_5 l0_6)) else (pinfoldlaw18_DropTwice.j0 k l1 a2 a3 a4 t183 bt187.1 true a0_0 a0_1 l0_2 l0_3 a0_4 a0_5 l0_6)))) = some r := H
  have A8 := am_ A80
  clear A80
  replace H := e4_ H
  obtain ⟨⟨t187, t190⟩, A90, H⟩ := H
  replace H : ((pinfoldlaw0_Num.f t186).bind fun t191 => (if t191 = 0 then ((pinfoldlaw0_Num.f t190).bind fun t192 => (pinfoldlaw18_DropTwice.j0 k l1 a2 a3 a4 t183 t187 (t192 != 0) a0_0 a0_1 l0_2 l0_3 a0_4 a0_5 l0_6)) else (pinfoldlaw18_DropTwice.j0 k l1 a2 a3 a4 t183 t187 true a0_0 a0_1 l0_2 l0_3 a0_4 a0_5 l0_6))) = some r := H
  have A9 := am_ A90
  clear A90
  have HC10 := am_ H
  clear H
  go_enter Tryd.func7, Tryd.ntmps7
  go_upto_region 5 with (first | ((with_reducible refine gate_dst (N := 5) rfl ?_); refine box_event ?hg (N := 5) ?hd (cs := #[.int .i64 a0_0, .int .i64 a0_1, .slice A0_2 l0_2.length c0_2, .slice A0_3 l0_3.length c0_3, .int .i64 a0_4, .string a0_5, .slice A0_6 l0_6.length c0_6]) (t := 26) ?hr ?_; (case hd => rfl); (case hg => rfl); (case hr => first | (go_simp; done) | (go_simp; rfl)); intro gb181 hg w11 hbox hb; have n0_ := am_ (bt_ (by repeat (with_reducible first | exact HB.out | apply p3_ | apply p1_ | apply p2_)) hb); have n1_ := am_ (hbox); have n2_ := am_ ((by rw [hg]; exact (bz_ (by repeat (with_reducible first | exact HB.out | apply p3_ | apply p1_ | apply p2_))) : w.heap.size ≤ gb181)); have n3_ := am_ ((by rw [hg]; exact (bz_ (by repeat (with_reducible first | exact HB.out | apply p3_ | apply p1_ | apply p2_))) : w.heap.size ≤ gb181)); clear HB; have HB := n0_; have BK181 := n1_; have GW181 := n2_; have GE181 := n3_; clear n0_ n1_ n2_ n3_; clear hb hbox hg) | ((with_reducible refine gate_callee (f := 24) rfl ?_); refine goesL_ (some 24) rfl rfl Tryd.func24 (by kernel_rfl) rfl #[] rfl (by (try simp only [List.map_toArray, List.map_cons, List.map_nil]); first | done | rfl | (simp only [List.length_drop, List.length_take]; rfl)) ?_; (with_reducible refine (pinfoldlaw18_awake.calls k  true _ A6.out).mono ?_); rintro e w12 ⟨rfl, hb⟩; refine ⟨_, rfl, ?_⟩; have n0_ := am_ (kb_ (g := gb181) (o := .cells #[.int .i64 a0_0, .int .i64 a0_1, .slice A0_2 l0_2.length c0_2, .slice A0_3 l0_3.length c0_3, .int .i64 a0_4, .string a0_5, .slice A0_6 l0_6.length c0_6] 26 (0, 0)) (by (with_reducible repeat (first | refine k2_ ?_ _ | refine k3_ ?_ | refine k1_ ?_ _)); exact BK181.out) hb); have n1_ := am_ (bt_ (by repeat (with_reducible first | exact HB.out | apply p3_ | apply p1_ | apply p2_ | refine bs_ ?_ GE181.out)) hb); clear BK181; clear HB; have BK181 := n0_; have HB := n1_; clear n0_ n1_; (try clear hb); have hcz13_0 : w12.cell? ⟨gb181, 0, none⟩ = some (.int .i64 a0_0) := (bc_ BK181.out 0).trans rfl; have hcz13_1 : w12.cell? ⟨gb181, 1, none⟩ = some (.int .i64 a0_1) := (bc_ BK181.out 1).trans rfl; have hcz13_2 : w12.cell? ⟨gb181, 2, none⟩ = some (.slice A0_2 l0_2.length c0_2) := (bc_ BK181.out 2).trans rfl; have hcz13_3 : w12.cell? ⟨gb181, 3, none⟩ = some (.slice A0_3 l0_3.length c0_3) := (bc_ BK181.out 3).trans rfl; have hcz13_4 : w12.cell? ⟨gb181, 4, none⟩ = some (.int .i64 a0_4) := (bc_ BK181.out 4).trans rfl; have hcz13_5 : w12.cell? ⟨gb181, 5, none⟩ = some (.string a0_5) := (bc_ BK181.out 5).trans rfl; have hcz13_6 : w12.cell? ⟨gb181, 6, none⟩ = some (.slice A0_6 l0_6.length c0_6) := (bc_ BK181.out 6).trans rfl; have hfz13_0 := bf_ BK181.out 0; have hfz13_1 := bf_ BK181.out 1; have hfz13_2 := bf_ BK181.out 2; have hfz13_3 := bf_ BK181.out 3; have hfz13_4 := bf_ BK181.out 4; have hfz13_5 := bf_ BK181.out 5; have hfz13_6 := bf_ BK181.out 6) | ((with_reducible refine gate_callee (f := 15) rfl ?_); refine goesL_ (some 32) rfl rfl Tryd.func15 (by kernel_rfl) rfl #[.agg #[.int .i64 a0_0, .int .i64 a0_1, .slice A0_2 l0_2.length c0_2, .slice A0_3 l0_3.length c0_3, .int .i64 a0_4, .string a0_5, .slice A0_6 l0_6.length c0_6], .slice A1 l1.length c1, .int .i64 a2, .string a3, .int .i64 a4] rfl (by (try simp only [List.map_toArray, List.map_cons, List.map_nil]); first | done | rfl | (simp only [List.length_drop, List.length_take]; rfl)) ?_; (with_reducible refine (drop_Release.calls a0_0 a0_1 _ _ l0_2 _ _ l0_3 a0_4 a0_5 _ _ l0_6 _ _ l1 a2 a3 a4 t183 t186 _ ?side1 ?side2 ?side3 ?side4 ?side5 ?side6 ?side7 ?side8 A8.out).mono ?_); (case side1 => repeat (first | exact (c4_ HR0_2.out HB.out) | (with_reducible refine c1_ ?_ _) | (with_reducible refine c2_ ?_ _) | (with_reducible refine c3_ ?_))); (case side2 => exact HC0_2.out); (case side3 => repeat (first | exact (c4_ HR0_3.out HB.out) | (with_reducible refine c1_ ?_ _) | (with_reducible refine c2_ ?_ _) | (with_reducible refine c3_ ?_))); (case side4 => exact HC0_3.out); (case side5 => repeat (first | exact (c4_ HR0_6.out HB.out) | (with_reducible refine c1_ ?_ _) | (with_reducible refine c2_ ?_ _) | (with_reducible refine c3_ ?_))); (case side6 => exact HC0_6.out); (case side7 => repeat (first | exact (c4_ HR1.out HB.out) | (with_reducible refine c1_ ?_ _) | (with_reducible refine c2_ ?_ _) | (with_reducible refine c3_ ?_))); (case side8 => exact HC1.out); rintro e w14 ⟨v184, rfl, ho0, hb⟩; refine ⟨_, rfl, ?_⟩; have n0_ := am_ (Kd.R_lower ho0 (bz_ (by repeat (with_reducible first | exact HB.out | apply p3_ | apply p1_ | apply p2_ | refine bs_ ?_ GE181.out)))); have n1_ := am_ (kb_ (g := gb181) (o := .cells #[.int .i64 a0_0, .int .i64 a0_1, .slice A0_2 l0_2.length c0_2, .slice A0_3 l0_3.length c0_3, .int .i64 a0_4, .string a0_5, .slice A0_6 l0_6.length c0_6] 26 (0, 0)) (by (with_reducible repeat (first | refine k2_ ?_ _ | refine k3_ ?_ | refine k1_ ?_ _)); exact BK181.out) hb); have n2_ := am_ (bt_ (by repeat (with_reducible first | exact HB.out | apply p3_ | apply p1_ | apply p2_ | refine bs_ ?_ GE181.out)) hb); clear BK181; clear HB; have HO185 := n0_; have BK181 := n1_; have HB := n2_; clear n0_ n1_ n2_; (try clear hb); (try clear ho0); have hcz15_0 : w14.cell? ⟨gb181, 0, none⟩ = some (.int .i64 a0_0) := (bc_ BK181.out 0).trans rfl; have hcz15_1 : w14.cell? ⟨gb181, 1, none⟩ = some (.int .i64 a0_1) := (bc_ BK181.out 1).trans rfl; have hcz15_2 : w14.cell? ⟨gb181, 2, none⟩ = some (.slice A0_2 l0_2.length c0_2) := (bc_ BK181.out 2).trans rfl; have hcz15_3 : w14.cell? ⟨gb181, 3, none⟩ = some (.slice A0_3 l0_3.length c0_3) := (bc_ BK181.out 3).trans rfl; have hcz15_4 : w14.cell? ⟨gb181, 4, none⟩ = some (.int .i64 a0_4) := (bc_ BK181.out 4).trans rfl; have hcz15_5 : w14.cell? ⟨gb181, 5, none⟩ = some (.string a0_5) := (bc_ BK181.out 5).trans rfl; have hcz15_6 : w14.cell? ⟨gb181, 6, none⟩ = some (.slice A0_6 l0_6.length c0_6) := (bc_ BK181.out 6).trans rfl; have hfz15_0 := bf_ BK181.out 0; have hfz15_1 := bf_ BK181.out 1; have hfz15_2 := bf_ BK181.out 2; have hfz15_3 := bf_ BK181.out 3; have hfz15_4 := bf_ BK181.out 4; have hfz15_5 := bf_ BK181.out 5; have hfz15_6 := bf_ BK181.out 6) | ((with_reducible refine gate_callee (f := 17) rfl ?_); refine goesL_ (some 41) rfl rfl Tryd.func17 (by kernel_rfl) rfl #[.agg #[.int .i64 a0_0, .int .i64 a0_1, .slice A0_2 l0_2.length c0_2, .slice A0_3 l0_3.length c0_3, .int .i64 a0_4, .string a0_5, .slice A0_6 l0_6.length c0_6], .slice A1 l1.length c1, .int .i64 a2, .string a3, .int .i64 a4] rfl (by (try simp only [List.map_toArray, List.map_cons, List.map_nil]); first | done | rfl | (simp only [List.length_drop, List.length_take]; rfl)) ?_; (with_reducible refine (drop_Decline.calls a0_0 a0_1 _ _ l0_2 _ _ l0_3 a0_4 a0_5 _ _ l0_6 _ _ l1 a2 a3 a4 t187 t190 _ ?side1 ?side2 ?side3 ?side4 ?side5 ?side6 ?side7 ?side8 A9.out).mono ?_); (case side1 => repeat (first | exact (c4_ HR0_2.out HB.out) | (with_reducible refine c1_ ?_ _) | (with_reducible refine c2_ ?_ _) | (with_reducible refine c3_ ?_))); (case side2 => exact HC0_2.out); (case side3 => repeat (first | exact (c4_ HR0_3.out HB.out) | (with_reducible refine c1_ ?_ _) | (with_reducible refine c2_ ?_ _) | (with_reducible refine c3_ ?_))); (case side4 => exact HC0_3.out); (case side5 => repeat (first | exact (c4_ HR0_6.out HB.out) | (with_reducible refine c1_ ?_ _) | (with_reducible refine c2_ ?_ _) | (with_reducible refine c3_ ?_))); (case side6 => exact HC0_6.out); (case side7 => repeat (first | exact (c4_ HR1.out HB.out) | (with_reducible refine c1_ ?_ _) | (with_reducible refine c2_ ?_ _) | (with_reducible refine c3_ ?_))); (case side8 => exact HC1.out); rintro e w16 ⟨v188, rfl, ho0, hb⟩; refine ⟨_, rfl, ?_⟩; have n0_ := am_ (r5_ (by (with_reducible repeat (first | apply r1_ | apply r2_ | apply r3_)); exact HO185.out) (r4_ ho0) hb); have n1_ := am_ (Kd.R_lower (Kd.R_new' ho0 (Kd.R_lt (by (with_reducible repeat (first | apply r1_ | apply r2_ | apply r3_)); exact HO185.out))) (bz_ (by repeat (with_reducible first | exact HB.out | apply p3_ | apply p1_ | apply p2_ | refine bs_ ?_ GE181.out)))); have n2_ := am_ (kb_ (g := gb181) (o := .cells #[.int .i64 a0_0, .int .i64 a0_1, .slice A0_2 l0_2.length c0_2, .slice A0_3 l0_3.length c0_3, .int .i64 a0_4, .string a0_5, .slice A0_6 l0_6.length c0_6] 26 (0, 0)) (by (with_reducible repeat (first | refine k2_ ?_ _ | refine k3_ ?_ | refine k1_ ?_ _)); exact BK181.out) hb); have n3_ := am_ (bt_ (by repeat (with_reducible first | exact HB.out | apply p3_ | apply p1_ | apply p2_ | refine bs_ ?_ GE181.out)) hb); clear HO185; clear BK181; clear HB; have HO185 := n0_; have HO189 := n1_; have BK181 := n2_; have HB := n3_; clear n0_ n1_ n2_ n3_; (try clear hb); (try clear ho0)))
  (try simp only [Act.put, List.setIfInBounds_toArray, List.set_cons_zero, List.set_cons_succ])
  go_cut [51] (fun v51 wc => ∃ (kq : Nat) (x51_9 : Bool), v51 = .bool x51_9 ∧ Aside0 (pinfoldlaw18_DropTwice.j0 kq l1 a2 a3 a4 t183 t187 x51_9 a0_0 a0_1 l0_2 l0_3 a0_4 a0_5 l0_6 = some r) ∧ Aside0 (kq ≤ k) ∧ Aside0 (Kd.R k42 42 wc w.heap.size (fun k_ => some k_ ≠ (v188 : Value).ownBlock) v184 t183) ∧ Aside0 (Kd.R k42 42 wc w.heap.size (fun k_ => some k_ ≠ (v184 : Value).ownBlock) v188 t187) ∧ Aside0 (wc.heap[gb181]? = some (.cells #[.int .i64 a0_0, .int .i64 a0_1, (.slice A0_2 l0_2.length c0_2), (.slice A0_3 l0_3.length c0_3), .int .i64 a0_4, .string a0_5, (.slice A0_6 l0_6.length c0_6)] 26 (0, 0))) ∧ Aside0 (Below w.heap.size w wc))
  case first =>
   have H := HC10.out
   clear HC10
   replace H := e4_ H
   obtain ⟨t191, A170, H⟩ := H
   replace H : (if t191 = 0 then ((pinfoldlaw0_Num.f t190).bind fun t192 => (pinfoldlaw18_DropTwice.j0 k l1 a2 a3 a4 t183 t187 (t192 != 0) a0_0 a0_1 l0_2 l0_3 a0_4 a0_5 l0_6)) else (pinfoldlaw18_DropTwice.j0 k l1 a2 a3 a4 t183 t187 true a0_0 a0_1 l0_2 l0_3 a0_4 a0_5 l0_6)) = some r := H
   have A17 := am_ A170
   clear A170
   by_cases c18 : t191 = 0
   ·rw [if_pos c18] at H
    have c18b0 : (t191 == 0) = true := beq_iff_eq.mpr c18
    have c18b1 : (t191 != 0) = false := e1_ c18
    clear c18
    (first | rw [c18b0] | (simp only [i64_w, i32_w]; rw [c18b0]) | skip)
    replace H := e4_ H
    obtain ⟨t192, A190, H⟩ := H
    replace H : (pinfoldlaw18_DropTwice.j0 k l1 a2 a3 a4 t183 t187 (t192 != 0) a0_0 a0_1 l0_2 l0_3 a0_4 a0_5 l0_6) = some r := H
    have A19 := am_ A190
    clear A190
    have H' := am_ H
    clear H
    go_wp2_with (first | ((with_reducible refine gate_callee (f := 20) rfl ?_); refine goesL_ (some 45) rfl rfl Tryd.func20 (by kernel_rfl) rfl #[.int .i64 t186] rfl (by (try simp only [List.map_toArray, List.map_cons, List.map_nil]); first | done | rfl | (simp only [List.length_drop, List.length_take]; rfl)) ?_; (with_reducible refine (pinfoldlaw0_Num.calls t186 t191 _ A17.out).mono ?_); rintro e w' ⟨rfl, ⟨nd, rfl⟩⟩; refine ⟨_, rfl, ?_⟩) | (go_at_call 20; (with_reducible refine (pinfoldlaw0_Num.calls t190 t192 _ A19.out).mono ?_); rintro e w' ⟨rfl, ⟨nd, rfl⟩⟩))
    go_meet
    case rel => exact ⟨_, ((t192 != 0)), (by first | rfl | (simp; done) | (simp [*]; done)), H', ⟨by first | omega | exact Nat.le_refl _⟩, ⟨by (with_reducible repeat (first | apply r1_ | apply r2_ | apply r3_)); exact Kd.R_mono HO185.out (fun _ hk => hk.2)⟩, ⟨by (with_reducible repeat (first | apply r1_ | apply r2_ | apply r3_)); exact Kd.R_mono HO189.out (fun _ hk => hk.2)⟩, ⟨by (with_reducible repeat (first | refine k2_ ?_ _ | refine k3_ ?_ | refine k1_ ?_ _)); exact BK181.out⟩, ⟨by repeat (with_reducible first | exact HB.out | apply p3_ | apply p1_ | apply p2_ | refine bs_ ?_ GE181.out)⟩⟩
   rw [if_neg c18] at H
   have c18b0 : (t191 == 0) = false := e2_ c18
   have c18b1 : (t191 != 0) = true := bne_iff_ne.mpr c18
   (first | rw [c18b0] | (simp only [i64_w, i32_w]; rw [c18b0]) | skip)
   have H' := am_ H
   clear H
   go_wp2_with (first | ((with_reducible refine gate_callee (f := 20) rfl ?_); refine goesL_ (some 45) rfl rfl Tryd.func20 (by kernel_rfl) rfl #[.int .i64 t186] rfl (by (try simp only [List.map_toArray, List.map_cons, List.map_nil]); first | done | rfl | (simp only [List.length_drop, List.length_take]; rfl)) ?_; (with_reducible refine (pinfoldlaw0_Num.calls t186 t191 _ A17.out).mono ?_); rintro e w' ⟨rfl, ⟨nd, rfl⟩⟩; refine ⟨_, rfl, ?_⟩))
   go_meet
   case rel => exact ⟨_, (true), (by first | rfl | (simp; done) | (simp [*]; done)), H', ⟨by first | omega | exact Nat.le_refl _⟩, ⟨by (with_reducible repeat (first | apply r1_ | apply r2_ | apply r3_)); exact Kd.R_mono HO185.out (fun _ hk => hk.2)⟩, ⟨by (with_reducible repeat (first | apply r1_ | apply r2_ | apply r3_)); exact Kd.R_mono HO189.out (fun _ hk => hk.2)⟩, ⟨by (with_reducible repeat (first | refine k2_ ?_ _ | refine k3_ ?_ | refine k1_ ?_ _)); exact BK181.out⟩, ⟨by repeat (with_reducible first | exact HB.out | apply p3_ | apply p1_ | apply p2_ | refine bs_ ?_ GE181.out)⟩⟩
  case rest =>
   clear HC10
   (try clear c1); (try clear c7); (try clear hcz13_0); (try clear hcz13_1); (try clear hcz13_2); (try clear hcz13_3); (try clear hcz13_4); (try clear hcz13_5); (try clear hcz13_6); (try clear hcz15_0); (try clear hcz15_1); (try clear hcz15_2); (try clear hcz15_3); (try clear hcz15_4); (try clear hcz15_5); (try clear hcz15_6); (try clear hfz13_0); (try clear hfz13_1); (try clear hfz13_2); (try clear hfz13_3); (try clear hfz13_4); (try clear hfz13_5); (try clear hfz13_6); (try clear hfz15_0); (try clear hfz15_1); (try clear hfz15_2); (try clear hfz15_3); (try clear hfz15_4); (try clear hfz15_5); (try clear hfz15_6)
   obtain ⟨kq, x51_9, rfl, HA, HJ9, HO_11, HO_13, BK181, HB⟩ := hcut
   cases kq with
   | zero => exact absurd HA.out (by simp [pinfoldlaw18_DropTwice.j0])
   | succ kj9 =>
    have H := HA.out
    clear HA
    simp only [pinfoldlaw18_DropTwice.j0] at H
    by_cases c20 : x51_9 = true
    ·subst c20
     have H1 : (some ((wrap64 ((t183.length : Int) + (t187.length : Int))) == 0)) = some r := by rw [if_pos rfl] at H; exact H
     clear H
     have H := H1
     clear H1
     obtain rfl := e5_ H
     obtain ⟨Ao21, co21, eo21⟩ := Kd.R_slice HO_11.out
     subst eo21
     obtain ⟨Ao22, co22, eo22⟩ := Kd.R_slice HO_13.out
     subst eo22
     go_wp2
     go_ret
     exact ⟨by first | rfl | (simp [errW_none, errW_some] <;> rfl) | (simp [*, errW_none, errW_some] <;> rfl), by repeat (with_reducible first | exact HB.out | apply p3_ | apply p1_ | apply p2_ | refine bs_ ?_ GE181.out)⟩
    replace c20 := e3_ c20
    subst c20
    have H1 : ((drop_Release.f a0_0 a0_1 l0_2 l0_3 a0_4 a0_5 l0_6 t183 a2 a3 a4).bind fun bt193 => ((drop_Decline.f a0_0 a0_1 l0_2 l0_3 a0_4 a0_5 l0_6 t183 a2 a3 a4).bind fun bt197 => ((drop_Release.f a0_0 a0_1 l0_2 l0_3 a0_4 a0_5 l0_6 t187 a2 a3 a4).bind fun bt201 => ((drop_Decline.f a0_0 a0_1 l0_2 l0_3 a0_4 a0_5 l0_6 t187 a2 a3 a4).bind fun bt205 => ((pinfoldlaw0_Num.f bt193.2).bind fun t209 => (if t209 = 0 then ((pinfoldlaw0_Num.f bt197.2).bind fun t210 => (if t210 = 0 then ((pinfoldlaw0_Num.f bt201.2).bind fun t211 => (if t211 = 0 then ((pinfoldlaw0_Num.f bt205.2).bind fun t212 => (pinfoldlaw18_DropTwice.j1 kj9 l1 t183 t187 bt193.1 bt197.1 bt201.1 bt205.1 (t212 != 0))) else (pinfoldlaw18_DropTwice.j1 kj9 l1 t183 t187 bt193.1 bt197.1 bt201.1 bt205.1 true))) else (pinfoldlaw18_DropTwice.j1 kj9 l1 t183 t187 bt193.1 bt197.1 bt201.1 bt205.1 true))) else (pinfoldlaw18_DropTwice.j1 kj9 l1 t183 t187 bt193.1 bt197.1 bt201.1 bt205.1 true))))))) = some r := by rw [if_neg (show ¬ (false = true) by decide)] at H; exact H
    clear H
    have H := H1
    clear H1
    replace H := e4_ H
    obtain ⟨⟨t193, t196⟩, A230, H⟩ := H
    replace H : ((drop_Decline.f a0_0 a0_1 l0_2 l0_3 a0_4 a0_5 l0_6 t183 a2 a3 a4).bind fun bt197 => ((drop_Release.f a0_0 a0_1 l0_2 l0_3 a0_4 a0_5 l0_6 t187 a2 a3 a4).bind fun bt201 => ((drop_Decline.f a0_0 a0_1 l0_2 l0_3 a0_4 a0_5 l0_6 t187 a2 a3 a4).bind fun bt205 => ((pinfoldlaw0_Num.f t196).bind fun t209 => (if t209 = 0 then ((pinfoldlaw0_Num.f bt197.2).bind fun t210 => (if t210 = 0 then ((pinfoldlaw0_Num.f bt201.2).bind fun t211 => (if t211 = 0 then ((pinfoldlaw0_Num.f bt205.2).bind fun t212 => (pinfoldlaw18_DropTwice.j1 kj9 l1 t183 t187 t193 bt197.1 bt201.1 bt205.1 (t212 != 0))) else (pinfoldlaw18_DropTwice.j1 kj9 l1 t183 t187 t193 bt197.1 bt201.1 bt205.1 true))) else (pinfoldlaw18_DropTwice.j1 kj9 l1 t183 t187 t193 bt197.1 bt201.1 bt205.1 true))) else (pinfoldlaw18_DropTwice.j1 kj9 l1 t183 t187 t193 bt197.1 bt201.1 bt205.1 true)))))) = some r := H
    have A23 := am_ A230
    clear A230
    replace H := e4_ H
    obtain ⟨⟨t197, t200⟩, A240, H⟩ := H
    replace H : ((drop_Release.f a0_0 a0_1 l0_2 l0_3 a0_4 a0_5 l0_6 t187 a2 a3 a4).bind fun bt201 => ((drop_Decline.f a0_0 a0_1 l0_2 l0_3 a0_4 a0_5 l0_6 t187 a2 a3 a4).bind fun bt205 => ((pinfoldlaw0_Num.f t196).bind fun t209 => (if t209 = 0 then ((pinfoldlaw0_Num.f t200).bind fun t210 => (if t210 = 0 then ((pinfoldlaw0_Num.f bt201.2).bind fun t211 => (if t211 = 0 then ((pinfoldlaw0_Num.f bt205.2).bind fun t212 => (pinfoldlaw18_DropTwice.j1 kj9 l1 t183 t187 t193 t197 bt201.1 bt205.1 (t212 != 0))) else (pinfoldlaw18_DropTwice.j1 kj9 l1 t183 t187 t193 t197 bt201.1 bt205.1 true))) else (pinfoldlaw18_DropTwice.j1 kj9 l1 t183 t187 t193 t197 bt201.1 bt205.1 true))) else (pinfoldlaw18_DropTwice.j1 kj9 l1 t183 t187 t193 t197 bt201.1 bt205.1 true))))) = some r := H
    have A24 := am_ A240
    clear A240
    replace H := e4_ H
    obtain ⟨⟨t201, t204⟩, A250, H⟩ := H
    replace H : ((drop_Decline.f a0_0 a0_1 l0_2 l0_3 a0_4 a0_5 l0_6 t187 a2 a3 a4).bind fun bt205 => ((pinfoldlaw0_Num.f t196).bind fun t209 => (if t209 = 0 then ((pinfoldlaw0_Num.f t200).bind fun t210 => (if t210 = 0 then ((pinfoldlaw0_Num.f t204).bind fun t211 => (if t211 = 0 then ((pinfoldlaw0_Num.f bt205.2).bind fun t212 => (pinfoldlaw18_DropTwice.j1 kj9 l1 t183 t187 t193 t197 t201 bt205.1 (t212 != 0))) else (pinfoldlaw18_DropTwice.j1 kj9 l1 t183 t187 t193 t197 t201 bt205.1 true))) else (pinfoldlaw18_DropTwice.j1 kj9 l1 t183 t187 t193 t197 t201 bt205.1 true))) else (pinfoldlaw18_DropTwice.j1 kj9 l1 t183 t187 t193 t197 t201 bt205.1 true)))) = some r := H
    have A25 := am_ A250
    clear A250
    replace H := e4_ H
    obtain ⟨⟨t205, t208⟩, A260, H⟩ := H
    replace H : ((pinfoldlaw0_Num.f t196).bind fun t209 => (if t209 = 0 then ((pinfoldlaw0_Num.f t200).bind fun t210 => (if t210 = 0 then ((pinfoldlaw0_Num.f t204).bind fun t211 => (if t211 = 0 then ((pinfoldlaw0_Num.f t208).bind fun t212 => (pinfoldlaw18_DropTwice.j1 kj9 l1 t183 t187 t193 t197 t201 t205 (t212 != 0))) else (pinfoldlaw18_DropTwice.j1 kj9 l1 t183 t187 t193 t197 t201 t205 true))) else (pinfoldlaw18_DropTwice.j1 kj9 l1 t183 t187 t193 t197 t201 t205 true))) else (pinfoldlaw18_DropTwice.j1 kj9 l1 t183 t187 t193 t197 t201 t205 true))) = some r := H
    have A26 := am_ A260
    clear A260
    have HC27 := am_ H
    clear H
    have hcz28_0 : wc.cell? ⟨gb181, 0, none⟩ = some (.int .i64 a0_0) := (bc_ BK181.out 0).trans rfl; have hcz28_1 : wc.cell? ⟨gb181, 1, none⟩ = some (.int .i64 a0_1) := (bc_ BK181.out 1).trans rfl; have hcz28_2 : wc.cell? ⟨gb181, 2, none⟩ = some (.slice A0_2 l0_2.length c0_2) := (bc_ BK181.out 2).trans rfl; have hcz28_3 : wc.cell? ⟨gb181, 3, none⟩ = some (.slice A0_3 l0_3.length c0_3) := (bc_ BK181.out 3).trans rfl; have hcz28_4 : wc.cell? ⟨gb181, 4, none⟩ = some (.int .i64 a0_4) := (bc_ BK181.out 4).trans rfl; have hcz28_5 : wc.cell? ⟨gb181, 5, none⟩ = some (.string a0_5) := (bc_ BK181.out 5).trans rfl; have hcz28_6 : wc.cell? ⟨gb181, 6, none⟩ = some (.slice A0_6 l0_6.length c0_6) := (bc_ BK181.out 6).trans rfl; have hfz28_0 := bf_ BK181.out 0; have hfz28_1 := bf_ BK181.out 1; have hfz28_2 := bf_ BK181.out 2; have hfz28_3 := bf_ BK181.out 3; have hfz28_4 := bf_ BK181.out 4; have hfz28_5 := bf_ BK181.out 5; have hfz28_6 := bf_ BK181.out 6
    obtain ⟨Ao29, co29, eo29⟩ := Kd.R_slice HO_11.out
    subst eo29
    go_upto_region 11 with (first | ((with_reducible refine gate_callee (f := 15) rfl ?_); refine goesL_ (some 64) rfl rfl Tryd.func15 (by kernel_rfl) rfl #[.agg #[.int .i64 a0_0, .int .i64 a0_1, .slice A0_2 l0_2.length c0_2, .slice A0_3 l0_3.length c0_3, .int .i64 a0_4, .string a0_5, .slice A0_6 l0_6.length c0_6], .slice Ao29 t183.length co29, .int .i64 a2, .string a3, .int .i64 a4] rfl (by (try simp only [List.map_toArray, List.map_cons, List.map_nil]); first | done | rfl | (simp only [List.length_drop, List.length_take]; rfl)) ?_; (with_reducible refine (drop_Release.calls a0_0 a0_1 _ _ l0_2 _ _ l0_3 a0_4 a0_5 _ _ l0_6 _ _ t183 a2 a3 a4 t193 t196 _ ?side1 ?side2 ?side3 ?side4 ?side5 ?side6 ?side7 ?side8 A23.out).mono ?_); (case side1 => repeat (first | exact (c4_ HR0_2.out HB.out) | (with_reducible refine c1_ ?_ _) | (with_reducible refine c2_ ?_ _) | (with_reducible refine c3_ ?_))); (case side2 => exact HC0_2.out); (case side3 => repeat (first | exact (c4_ HR0_3.out HB.out) | (with_reducible refine c1_ ?_ _) | (with_reducible refine c2_ ?_ _) | (with_reducible refine c3_ ?_))); (case side4 => exact HC0_3.out); (case side5 => repeat (first | exact (c4_ HR0_6.out HB.out) | (with_reducible refine c1_ ?_ _) | (with_reducible refine c2_ ?_ _) | (with_reducible refine c3_ ?_))); (case side6 => exact HC0_6.out); (case side7 => repeat (first | exact (Kd.R_reads' HO_11.out).2.2 | (with_reducible refine c1_ ?_ _) | (with_reducible refine c2_ ?_ _) | (with_reducible refine c3_ ?_))); (case side8 => exact (Kd.R_reads' HO_11.out).2.1); rintro e w30 ⟨v194, rfl, ho0, hb⟩; refine ⟨_, rfl, ?_⟩; have n0_ := am_ (r5_ (by (with_reducible repeat (first | apply r1_ | apply r2_ | apply r3_)); exact HO_11.out) (r4_ ho0) hb); have n1_ := am_ (r5_ (by (with_reducible repeat (first | apply r1_ | apply r2_ | apply r3_)); exact HO_13.out) (r4_ ho0) hb); have n2_ := am_ (Kd.R_lower (Kd.R_new' (Kd.R_new' ho0 (Kd.R_lt (by (with_reducible repeat (first | apply r1_ | apply r2_ | apply r3_)); exact HO_11.out))) (Kd.R_lt (by (with_reducible repeat (first | apply r1_ | apply r2_ | apply r3_)); exact HO_13.out))) (bz_ (by repeat (with_reducible first | exact HB.out | apply p3_ | apply p1_ | apply p2_ | refine bs_ ?_ GE181.out)))); have n3_ := am_ (kb_ (g := gb181) (o := .cells #[.int .i64 a0_0, .int .i64 a0_1, .slice A0_2 l0_2.length c0_2, .slice A0_3 l0_3.length c0_3, .int .i64 a0_4, .string a0_5, .slice A0_6 l0_6.length c0_6] 26 (0, 0)) (by (with_reducible repeat (first | refine k2_ ?_ _ | refine k3_ ?_ | refine k1_ ?_ _)); exact BK181.out) hb); have n4_ := am_ (bt_ (by repeat (with_reducible first | exact HB.out | apply p3_ | apply p1_ | apply p2_ | refine bs_ ?_ GE181.out)) hb); clear HO_11; clear HO_13; clear BK181; clear HB; have HO_11 := n0_; have HO_13 := n1_; have HO195 := n2_; have BK181 := n3_; have HB := n4_; clear n0_ n1_ n2_ n3_ n4_; (try clear hb); (try clear ho0); have hcz31_0 : w30.cell? ⟨gb181, 0, none⟩ = some (.int .i64 a0_0) := (bc_ BK181.out 0).trans rfl; have hcz31_1 : w30.cell? ⟨gb181, 1, none⟩ = some (.int .i64 a0_1) := (bc_ BK181.out 1).trans rfl; have hcz31_2 : w30.cell? ⟨gb181, 2, none⟩ = some (.slice A0_2 l0_2.length c0_2) := (bc_ BK181.out 2).trans rfl; have hcz31_3 : w30.cell? ⟨gb181, 3, none⟩ = some (.slice A0_3 l0_3.length c0_3) := (bc_ BK181.out 3).trans rfl; have hcz31_4 : w30.cell? ⟨gb181, 4, none⟩ = some (.int .i64 a0_4) := (bc_ BK181.out 4).trans rfl; have hcz31_5 : w30.cell? ⟨gb181, 5, none⟩ = some (.string a0_5) := (bc_ BK181.out 5).trans rfl; have hcz31_6 : w30.cell? ⟨gb181, 6, none⟩ = some (.slice A0_6 l0_6.length c0_6) := (bc_ BK181.out 6).trans rfl; have hfz31_0 := bf_ BK181.out 0; have hfz31_1 := bf_ BK181.out 1; have hfz31_2 := bf_ BK181.out 2; have hfz31_3 := bf_ BK181.out 3; have hfz31_4 := bf_ BK181.out 4; have hfz31_5 := bf_ BK181.out 5; have hfz31_6 := bf_ BK181.out 6) | ((with_reducible refine gate_callee (f := 17) rfl ?_); refine goesL_ (some 73) rfl rfl Tryd.func17 (by kernel_rfl) rfl #[.agg #[.int .i64 a0_0, .int .i64 a0_1, .slice A0_2 l0_2.length c0_2, .slice A0_3 l0_3.length c0_3, .int .i64 a0_4, .string a0_5, .slice A0_6 l0_6.length c0_6], .slice Ao29 t183.length co29, .int .i64 a2, .string a3, .int .i64 a4] rfl (by (try simp only [List.map_toArray, List.map_cons, List.map_nil]); first | done | rfl | (simp only [List.length_drop, List.length_take]; rfl)) ?_; (with_reducible refine (drop_Decline.calls a0_0 a0_1 _ _ l0_2 _ _ l0_3 a0_4 a0_5 _ _ l0_6 _ _ t183 a2 a3 a4 t197 t200 _ ?side1 ?side2 ?side3 ?side4 ?side5 ?side6 ?side7 ?side8 A24.out).mono ?_); (case side1 => repeat (first | exact (c4_ HR0_2.out HB.out) | (with_reducible refine c1_ ?_ _) | (with_reducible refine c2_ ?_ _) | (with_reducible refine c3_ ?_))); (case side2 => exact HC0_2.out); (case side3 => repeat (first | exact (c4_ HR0_3.out HB.out) | (with_reducible refine c1_ ?_ _) | (with_reducible refine c2_ ?_ _) | (with_reducible refine c3_ ?_))); (case side4 => exact HC0_3.out); (case side5 => repeat (first | exact (c4_ HR0_6.out HB.out) | (with_reducible refine c1_ ?_ _) | (with_reducible refine c2_ ?_ _) | (with_reducible refine c3_ ?_))); (case side6 => exact HC0_6.out); (case side7 => repeat (first | exact (Kd.R_reads' HO_11.out).2.2 | (with_reducible refine c1_ ?_ _) | (with_reducible refine c2_ ?_ _) | (with_reducible refine c3_ ?_))); (case side8 => exact (Kd.R_reads' HO_11.out).2.1); rintro e w32 ⟨v198, rfl, ho0, hb⟩; refine ⟨_, rfl, ?_⟩; have n0_ := am_ (r5_ (by (with_reducible repeat (first | apply r1_ | apply r2_ | apply r3_)); exact HO_11.out) (r4_ ho0) hb); have n1_ := am_ (r5_ (by (with_reducible repeat (first | apply r1_ | apply r2_ | apply r3_)); exact HO_13.out) (r4_ ho0) hb); have n2_ := am_ (r5_ (by (with_reducible repeat (first | apply r1_ | apply r2_ | apply r3_)); exact HO195.out) (r4_ ho0) hb); have n3_ := am_ (Kd.R_lower (Kd.R_new' (Kd.R_new' (Kd.R_new' ho0 (Kd.R_lt (by (with_reducible repeat (first | apply r1_ | apply r2_ | apply r3_)); exact HO_11.out))) (Kd.R_lt (by (with_reducible repeat (first | apply r1_ | apply r2_ | apply r3_)); exact HO_13.out))) (Kd.R_lt (by (with_reducible repeat (first | apply r1_ | apply r2_ | apply r3_)); exact HO195.out))) (bz_ (by repeat (with_reducible first | exact HB.out | apply p3_ | apply p1_ | apply p2_ | refine bs_ ?_ GE181.out)))); have n4_ := am_ (kb_ (g := gb181) (o := .cells #[.int .i64 a0_0, .int .i64 a0_1, .slice A0_2 l0_2.length c0_2, .slice A0_3 l0_3.length c0_3, .int .i64 a0_4, .string a0_5, .slice A0_6 l0_6.length c0_6] 26 (0, 0)) (by (with_reducible repeat (first | refine k2_ ?_ _ | refine k3_ ?_ | refine k1_ ?_ _)); exact BK181.out) hb); have n5_ := am_ (bt_ (by repeat (with_reducible first | exact HB.out | apply p3_ | apply p1_ | apply p2_ | refine bs_ ?_ GE181.out)) hb); clear HO_11; clear HO_13; clear HO195; clear BK181; clear HB; have HO_11 := n0_; have HO_13 := n1_; have HO195 := n2_; have HO199 := n3_; have BK181 := n4_; have HB := n5_; clear n0_ n1_ n2_ n3_ n4_ n5_; (try clear hb); (try clear ho0); have hcz33_0 : w32.cell? ⟨gb181, 0, none⟩ = some (.int .i64 a0_0) := (bc_ BK181.out 0).trans rfl; have hcz33_1 : w32.cell? ⟨gb181, 1, none⟩ = some (.int .i64 a0_1) := (bc_ BK181.out 1).trans rfl; have hcz33_2 : w32.cell? ⟨gb181, 2, none⟩ = some (.slice A0_2 l0_2.length c0_2) := (bc_ BK181.out 2).trans rfl; have hcz33_3 : w32.cell? ⟨gb181, 3, none⟩ = some (.slice A0_3 l0_3.length c0_3) := (bc_ BK181.out 3).trans rfl; have hcz33_4 : w32.cell? ⟨gb181, 4, none⟩ = some (.int .i64 a0_4) := (bc_ BK181.out 4).trans rfl; have hcz33_5 : w32.cell? ⟨gb181, 5, none⟩ = some (.string a0_5) := (bc_ BK181.out 5).trans rfl; have hcz33_6 : w32.cell? ⟨gb181, 6, none⟩ = some (.slice A0_6 l0_6.length c0_6) := (bc_ BK181.out 6).trans rfl; have hfz33_0 := bf_ BK181.out 0; have hfz33_1 := bf_ BK181.out 1; have hfz33_2 := bf_ BK181.out 2; have hfz33_3 := bf_ BK181.out 3; have hfz33_4 := bf_ BK181.out 4; have hfz33_5 := bf_ BK181.out 5; have hfz33_6 := bf_ BK181.out 6; obtain ⟨Ao34, co34, eo34⟩ := Kd.R_slice HO_13.out; subst eo34) | ((with_reducible refine gate_callee (f := 15) rfl ?_); refine goesL_ (some 82) rfl rfl Tryd.func15 (by kernel_rfl) rfl #[.agg #[.int .i64 a0_0, .int .i64 a0_1, .slice A0_2 l0_2.length c0_2, .slice A0_3 l0_3.length c0_3, .int .i64 a0_4, .string a0_5, .slice A0_6 l0_6.length c0_6], .slice Ao34 t187.length co34, .int .i64 a2, .string a3, .int .i64 a4] rfl (by (try simp only [List.map_toArray, List.map_cons, List.map_nil]); first | done | rfl | (simp only [List.length_drop, List.length_take]; rfl)) ?_; (with_reducible refine (drop_Release.calls a0_0 a0_1 _ _ l0_2 _ _ l0_3 a0_4 a0_5 _ _ l0_6 _ _ t187 a2 a3 a4 t201 t204 _ ?side1 ?side2 ?side3 ?side4 ?side5 ?side6 ?side7 ?side8 A25.out).mono ?_); (case side1 => repeat (first | exact (c4_ HR0_2.out HB.out) | (with_reducible refine c1_ ?_ _) | (with_reducible refine c2_ ?_ _) | (with_reducible refine c3_ ?_))); (case side2 => exact HC0_2.out); (case side3 => repeat (first | exact (c4_ HR0_3.out HB.out) | (with_reducible refine c1_ ?_ _) | (with_reducible refine c2_ ?_ _) | (with_reducible refine c3_ ?_))); (case side4 => exact HC0_3.out); (case side5 => repeat (first | exact (c4_ HR0_6.out HB.out) | (with_reducible refine c1_ ?_ _) | (with_reducible refine c2_ ?_ _) | (with_reducible refine c3_ ?_))); (case side6 => exact HC0_6.out); (case side7 => repeat (first | exact (Kd.R_reads' HO_13.out).2.2 | (with_reducible refine c1_ ?_ _) | (with_reducible refine c2_ ?_ _) | (with_reducible refine c3_ ?_))); (case side8 => exact (Kd.R_reads' HO_13.out).2.1); rintro e w35 ⟨v202, rfl, ho0, hb⟩; refine ⟨_, rfl, ?_⟩; have n0_ := am_ (r5_ (by (with_reducible repeat (first | apply r1_ | apply r2_ | apply r3_)); exact HO_11.out) (r4_ ho0) hb); have n1_ := am_ (r5_ (by (with_reducible repeat (first | apply r1_ | apply r2_ | apply r3_)); exact HO_13.out) (r4_ ho0) hb); have n2_ := am_ (r5_ (by (with_reducible repeat (first | apply r1_ | apply r2_ | apply r3_)); exact HO195.out) (r4_ ho0) hb); have n3_ := am_ (r5_ (by (with_reducible repeat (first | apply r1_ | apply r2_ | apply r3_)); exact HO199.out) (r4_ ho0) hb); have n4_ := am_ (Kd.R_lower (Kd.R_new' (Kd.R_new' (Kd.R_new' (Kd.R_new' ho0 (Kd.R_lt (by (with_reducible repeat (first | apply r1_ | apply r2_ | apply r3_)); exact HO_11.out))) (Kd.R_lt (by (with_reducible repeat (first | apply r1_ | apply r2_ | apply r3_)); exact HO_13.out))) (Kd.R_lt (by (with_reducible repeat (first | apply r1_ | apply r2_ | apply r3_)); exact HO195.out))) (Kd.R_lt (by (with_reducible repeat (first | apply r1_ | apply r2_ | apply r3_)); exact HO199.out))) (bz_ (by repeat (with_reducible first | exact HB.out | apply p3_ | apply p1_ | apply p2_ | refine bs_ ?_ GE181.out)))); have n5_ := am_ (kb_ (g := gb181) (o := .cells #[.int .i64 a0_0, .int .i64 a0_1, .slice A0_2 l0_2.length c0_2, .slice A0_3 l0_3.length c0_3, .int .i64 a0_4, .string a0_5, .slice A0_6 l0_6.length c0_6] 26 (0, 0)) (by (with_reducible repeat (first | refine k2_ ?_ _ | refine k3_ ?_ | refine k1_ ?_ _)); exact BK181.out) hb); have n6_ := am_ (bt_ (by repeat (with_reducible first | exact HB.out | apply p3_ | apply p1_ | apply p2_ | refine bs_ ?_ GE181.out)) hb); clear HO_11; clear HO_13; clear HO195; clear HO199; clear BK181; clear HB; have HO_11 := n0_; have HO_13 := n1_; have HO195 := n2_; have HO199 := n3_; have HO203 := n4_; have BK181 := n5_; have HB := n6_; clear n0_ n1_ n2_ n3_ n4_ n5_ n6_; (try clear hb); (try clear ho0); have hcz36_0 : w35.cell? ⟨gb181, 0, none⟩ = some (.int .i64 a0_0) := (bc_ BK181.out 0).trans rfl; have hcz36_1 : w35.cell? ⟨gb181, 1, none⟩ = some (.int .i64 a0_1) := (bc_ BK181.out 1).trans rfl; have hcz36_2 : w35.cell? ⟨gb181, 2, none⟩ = some (.slice A0_2 l0_2.length c0_2) := (bc_ BK181.out 2).trans rfl; have hcz36_3 : w35.cell? ⟨gb181, 3, none⟩ = some (.slice A0_3 l0_3.length c0_3) := (bc_ BK181.out 3).trans rfl; have hcz36_4 : w35.cell? ⟨gb181, 4, none⟩ = some (.int .i64 a0_4) := (bc_ BK181.out 4).trans rfl; have hcz36_5 : w35.cell? ⟨gb181, 5, none⟩ = some (.string a0_5) := (bc_ BK181.out 5).trans rfl; have hcz36_6 : w35.cell? ⟨gb181, 6, none⟩ = some (.slice A0_6 l0_6.length c0_6) := (bc_ BK181.out 6).trans rfl; have hfz36_0 := bf_ BK181.out 0; have hfz36_1 := bf_ BK181.out 1; have hfz36_2 := bf_ BK181.out 2; have hfz36_3 := bf_ BK181.out 3; have hfz36_4 := bf_ BK181.out 4; have hfz36_5 := bf_ BK181.out 5; have hfz36_6 := bf_ BK181.out 6) | ((with_reducible refine gate_callee (f := 17) rfl ?_); refine goesL_ (some 91) rfl rfl Tryd.func17 (by kernel_rfl) rfl #[.agg #[.int .i64 a0_0, .int .i64 a0_1, .slice A0_2 l0_2.length c0_2, .slice A0_3 l0_3.length c0_3, .int .i64 a0_4, .string a0_5, .slice A0_6 l0_6.length c0_6], .slice Ao34 t187.length co34, .int .i64 a2, .string a3, .int .i64 a4] rfl (by (try simp only [List.map_toArray, List.map_cons, List.map_nil]); first | done | rfl | (simp only [List.length_drop, List.length_take]; rfl)) ?_; (with_reducible refine (drop_Decline.calls a0_0 a0_1 _ _ l0_2 _ _ l0_3 a0_4 a0_5 _ _ l0_6 _ _ t187 a2 a3 a4 t205 t208 _ ?side1 ?side2 ?side3 ?side4 ?side5 ?side6 ?side7 ?side8 A26.out).mono ?_); (case side1 => repeat (first | exact (c4_ HR0_2.out HB.out) | (with_reducible refine c1_ ?_ _) | (with_reducible refine c2_ ?_ _) | (with_reducible refine c3_ ?_))); (case side2 => exact HC0_2.out); (case side3 => repeat (first | exact (c4_ HR0_3.out HB.out) | (with_reducible refine c1_ ?_ _) | (with_reducible refine c2_ ?_ _) | (with_reducible refine c3_ ?_))); (case side4 => exact HC0_3.out); (case side5 => repeat (first | exact (c4_ HR0_6.out HB.out) | (with_reducible refine c1_ ?_ _) | (with_reducible refine c2_ ?_ _) | (with_reducible refine c3_ ?_))); (case side6 => exact HC0_6.out); (case side7 => repeat (first | exact (Kd.R_reads' HO_13.out).2.2 | (with_reducible refine c1_ ?_ _) | (with_reducible refine c2_ ?_ _) | (with_reducible refine c3_ ?_))); (case side8 => exact (Kd.R_reads' HO_13.out).2.1); rintro e w37 ⟨v206, rfl, ho0, hb⟩; refine ⟨_, rfl, ?_⟩; have n0_ := am_ (r5_ (by (with_reducible repeat (first | apply r1_ | apply r2_ | apply r3_)); exact HO_11.out) (r4_ ho0) hb); have n1_ := am_ (r5_ (by (with_reducible repeat (first | apply r1_ | apply r2_ | apply r3_)); exact HO_13.out) (r4_ ho0) hb); have n2_ := am_ (r5_ (by (with_reducible repeat (first | apply r1_ | apply r2_ | apply r3_)); exact HO195.out) (r4_ ho0) hb); have n3_ := am_ (r5_ (by (with_reducible repeat (first | apply r1_ | apply r2_ | apply r3_)); exact HO199.out) (r4_ ho0) hb); have n4_ := am_ (r5_ (by (with_reducible repeat (first | apply r1_ | apply r2_ | apply r3_)); exact HO203.out) (r4_ ho0) hb); have n5_ := am_ (Kd.R_lower (Kd.R_new' (Kd.R_new' (Kd.R_new' (Kd.R_new' (Kd.R_new' ho0 (Kd.R_lt (by (with_reducible repeat (first | apply r1_ | apply r2_ | apply r3_)); exact HO_11.out))) (Kd.R_lt (by (with_reducible repeat (first | apply r1_ | apply r2_ | apply r3_)); exact HO_13.out))) (Kd.R_lt (by (with_reducible repeat (first | apply r1_ | apply r2_ | apply r3_)); exact HO195.out))) (Kd.R_lt (by (with_reducible repeat (first | apply r1_ | apply r2_ | apply r3_)); exact HO199.out))) (Kd.R_lt (by (with_reducible repeat (first | apply r1_ | apply r2_ | apply r3_)); exact HO203.out))) (bz_ (by repeat (with_reducible first | exact HB.out | apply p3_ | apply p1_ | apply p2_ | refine bs_ ?_ GE181.out)))); have n6_ := am_ (kb_ (g := gb181) (o := .cells #[.int .i64 a0_0, .int .i64 a0_1, .slice A0_2 l0_2.length c0_2, .slice A0_3 l0_3.length c0_3, .int .i64 a0_4, .string a0_5, .slice A0_6 l0_6.length c0_6] 26 (0, 0)) (by (with_reducible repeat (first | refine k2_ ?_ _ | refine k3_ ?_ | refine k1_ ?_ _)); exact BK181.out) hb); have n7_ := am_ (bt_ (by repeat (with_reducible first | exact HB.out | apply p3_ | apply p1_ | apply p2_ | refine bs_ ?_ GE181.out)) hb); clear HO_11; clear HO_13; clear HO195; clear HO199; clear HO203; clear BK181; clear HB; have HO_11 := n0_; have HO_13 := n1_; have HO195 := n2_; have HO199 := n3_; have HO203 := n4_; have HO207 := n5_; have BK181 := n6_; have HB := n7_; clear n0_ n1_ n2_ n3_ n4_ n5_ n6_ n7_; (try clear hb); (try clear ho0)))
    (try simp only [Act.put, List.setIfInBounds_toArray, List.set_cons_zero, List.set_cons_succ])
    go_cut [111] (fun v111 wc => ∃ (kq : Nat) (x111_26 : Bool), v111 = .bool x111_26 ∧ Aside0 (pinfoldlaw18_DropTwice.j1 kq l1 t183 t187 t193 t197 t201 t205 x111_26 = some r) ∧ Aside0 (kq ≤ kj9) ∧ Aside0 (Kd.R k42 42 wc w.heap.size (fun k_ => some k_ ≠ ((.slice Ao34 t187.length co34) : Value).ownBlock ∧ some k_ ≠ (v194 : Value).ownBlock ∧ some k_ ≠ (v198 : Value).ownBlock ∧ some k_ ≠ (v202 : Value).ownBlock ∧ some k_ ≠ (v206 : Value).ownBlock) (.slice Ao29 t183.length co29) t183) ∧ Aside0 (Kd.R k42 42 wc w.heap.size (fun k_ => some k_ ≠ ((.slice Ao29 t183.length co29) : Value).ownBlock ∧ some k_ ≠ (v194 : Value).ownBlock ∧ some k_ ≠ (v198 : Value).ownBlock ∧ some k_ ≠ (v202 : Value).ownBlock ∧ some k_ ≠ (v206 : Value).ownBlock) (.slice Ao34 t187.length co34) t187) ∧ Aside0 (Kd.R k42 42 wc w.heap.size (fun k_ => some k_ ≠ ((.slice Ao29 t183.length co29) : Value).ownBlock ∧ some k_ ≠ ((.slice Ao34 t187.length co34) : Value).ownBlock ∧ some k_ ≠ (v198 : Value).ownBlock ∧ some k_ ≠ (v202 : Value).ownBlock ∧ some k_ ≠ (v206 : Value).ownBlock) v194 t193) ∧ Aside0 (Kd.R k42 42 wc w.heap.size (fun k_ => some k_ ≠ ((.slice Ao29 t183.length co29) : Value).ownBlock ∧ some k_ ≠ ((.slice Ao34 t187.length co34) : Value).ownBlock ∧ some k_ ≠ (v194 : Value).ownBlock ∧ some k_ ≠ (v202 : Value).ownBlock ∧ some k_ ≠ (v206 : Value).ownBlock) v198 t197) ∧ Aside0 (Kd.R k42 42 wc w.heap.size (fun k_ => some k_ ≠ ((.slice Ao29 t183.length co29) : Value).ownBlock ∧ some k_ ≠ ((.slice Ao34 t187.length co34) : Value).ownBlock ∧ some k_ ≠ (v194 : Value).ownBlock ∧ some k_ ≠ (v198 : Value).ownBlock ∧ some k_ ≠ (v206 : Value).ownBlock) v202 t201) ∧ Aside0 (Kd.R k42 42 wc w.heap.size (fun k_ => some k_ ≠ ((.slice Ao29 t183.length co29) : Value).ownBlock ∧ some k_ ≠ ((.slice Ao34 t187.length co34) : Value).ownBlock ∧ some k_ ≠ (v194 : Value).ownBlock ∧ some k_ ≠ (v198 : Value).ownBlock ∧ some k_ ≠ (v202 : Value).ownBlock) v206 t205) ∧ Aside0 (wc.heap[gb181]? = some (.cells #[.int .i64 a0_0, .int .i64 a0_1, (.slice A0_2 l0_2.length c0_2), (.slice A0_3 l0_3.length c0_3), .int .i64 a0_4, .string a0_5, (.slice A0_6 l0_6.length c0_6)] 26 (0, 0))) ∧ Aside0 (Below w.heap.size w wc))
    case first =>
     have H := HC27.out
     clear HC27
     replace H := e4_ H
     obtain ⟨t209, A380, H⟩ := H
     replace H : (if t209 = 0 then ((pinfoldlaw0_Num.f t200).bind fun t210 => (if t210 = 0 then ((pinfoldlaw0_Num.f t204).bind fun t211 => (if t211 = 0 then ((pinfoldlaw0_Num.f t208).bind fun t212 => (pinfoldlaw18_DropTwice.j1 kj9 l1 t183 t187 t193 t197 t201 t205 (t212 != 0))) else (pinfoldlaw18_DropTwice.j1 kj9 l1 t183 t187 t193 t197 t201 t205 true))) else (pinfoldlaw18_DropTwice.j1 kj9 l1 t183 t187 t193 t197 t201 t205 true))) else (pinfoldlaw18_DropTwice.j1 kj9 l1 t183 t187 t193 t197 t201 t205 true)) = some r := H
     have A38 := am_ A380
     clear A380
     by_cases c39 : t209 = 0
     ·rw [if_pos c39] at H
      have c39b0 : (t209 == 0) = true := beq_iff_eq.mpr c39
      have c39b1 : (t209 != 0) = false := e1_ c39
      clear c39
      (first | rw [c39b0] | (simp only [i64_w, i32_w]; rw [c39b0]) | skip)
      replace H := e4_ H
      obtain ⟨t210, A400, H⟩ := H
      replace H : (if t210 = 0 then ((pinfoldlaw0_Num.f t204).bind fun t211 => (if t211 = 0 then ((pinfoldlaw0_Num.f t208).bind fun t212 => (pinfoldlaw18_DropTwice.j1 kj9 l1 t183 t187 t193 t197 t201 t205 (t212 != 0))) else (pinfoldlaw18_DropTwice.j1 kj9 l1 t183 t187 t193 t197 t201 t205 true))) else (pinfoldlaw18_DropTwice.j1 kj9 l1 t183 t187 t193 t197 t201 t205 true)) = some r := H
      have A40 := am_ A400
      clear A400
      by_cases c41 : t210 = 0
      ·rw [if_pos c41] at H
       have c41b0 : (t210 == 0) = true := beq_iff_eq.mpr c41
       have c41b1 : (t210 != 0) = false := e1_ c41
       clear c41
       replace H := e4_ H
       obtain ⟨t211, A420, H⟩ := H
       replace H : (if t211 = 0 then ((pinfoldlaw0_Num.f t208).bind fun t212 => (pinfoldlaw18_DropTwice.j1 kj9 l1 t183 t187 t193 t197 t201 t205 (t212 != 0))) else (pinfoldlaw18_DropTwice.j1 kj9 l1 t183 t187 t193 t197 t201 t205 true)) = some r := H
       have A42 := am_ A420
       clear A420
       by_cases c43 : t211 = 0
       ·rw [if_pos c43] at H
        have c43b0 : (t211 == 0) = true := beq_iff_eq.mpr c43
        have c43b1 : (t211 != 0) = false := e1_ c43
        clear c43
        replace H := e4_ H
        obtain ⟨t212, A440, H⟩ := H
        replace H : (pinfoldlaw18_DropTwice.j1 kj9 l1 t183 t187 t193 t197 t201 t205 (t212 != 0)) = some r := H
        have A44 := am_ A440
        clear A440
        have H' := am_ H
        clear H
        go_wp2_with (first | ((with_reducible refine gate_callee (f := 20) rfl ?_); refine goesL_ (some 95) rfl rfl Tryd.func20 (by kernel_rfl) rfl #[.int .i64 t196] rfl (by (try simp only [List.map_toArray, List.map_cons, List.map_nil]); first | done | rfl | (simp only [List.length_drop, List.length_take]; rfl)) ?_; (with_reducible refine (pinfoldlaw0_Num.calls t196 t209 _ A38.out).mono ?_); rintro e w' ⟨rfl, ⟨nd, rfl⟩⟩; refine ⟨_, rfl, ?_⟩) | (go_at_call 20; (with_reducible refine (pinfoldlaw0_Num.calls t200 t210 _ A40.out).mono ?_); rintro e w' ⟨rfl, ⟨nd, rfl⟩⟩) | (go_at_call 20; (with_reducible refine (pinfoldlaw0_Num.calls t204 t211 _ A42.out).mono ?_); rintro e w' ⟨rfl, ⟨nd, rfl⟩⟩) | (go_at_call 20; (with_reducible refine (pinfoldlaw0_Num.calls t208 t212 _ A44.out).mono ?_); rintro e w' ⟨rfl, ⟨nd, rfl⟩⟩))
        go_meet
        case rel => exact ⟨_, ((t212 != 0)), (by first | rfl | (simp; done) | (simp [*]; done)), H', ⟨by have := HJ9.out; first | omega | exact Nat.le_refl _⟩, ⟨by (with_reducible repeat (first | apply r1_ | apply r2_ | apply r3_)); exact Kd.R_mono HO_11.out (fun _ hk => ⟨hk.1.1.1.1, ⟨hk.1.1.1.2, ⟨hk.1.1.2, ⟨hk.1.2, hk.2⟩⟩⟩⟩)⟩, ⟨by (with_reducible repeat (first | apply r1_ | apply r2_ | apply r3_)); exact Kd.R_mono HO_13.out (fun _ hk => ⟨hk.1.1.1.1, ⟨hk.1.1.1.2, ⟨hk.1.1.2, ⟨hk.1.2, hk.2⟩⟩⟩⟩)⟩, ⟨by (with_reducible repeat (first | apply r1_ | apply r2_ | apply r3_)); exact Kd.R_mono HO195.out (fun _ hk => ⟨hk.1.1.1.1.2, ⟨hk.1.1.1.2, ⟨hk.1.1.2, ⟨hk.1.2, hk.2⟩⟩⟩⟩)⟩, ⟨by (with_reducible repeat (first | apply r1_ | apply r2_ | apply r3_)); exact Kd.R_mono HO199.out (fun _ hk => ⟨hk.1.1.1.1.2, ⟨hk.1.1.1.2, ⟨hk.1.1.2, ⟨hk.1.2, hk.2⟩⟩⟩⟩)⟩, ⟨by (with_reducible repeat (first | apply r1_ | apply r2_ | apply r3_)); exact Kd.R_mono HO203.out (fun _ hk => ⟨hk.1.1.1.1.2, ⟨hk.1.1.1.2, ⟨hk.1.1.2, ⟨hk.1.2, hk.2⟩⟩⟩⟩)⟩, ⟨by (with_reducible repeat (first | apply r1_ | apply r2_ | apply r3_)); exact Kd.R_mono HO207.out (fun _ hk => ⟨hk.1.1.1.1.2, ⟨hk.1.1.1.2, ⟨hk.1.1.2, ⟨hk.1.2, hk.2⟩⟩⟩⟩)⟩, ⟨by (with_reducible repeat (first | refine k2_ ?_ _ | refine k3_ ?_ | refine k1_ ?_ _)); exact BK181.out⟩, ⟨by repeat (with_reducible first | exact HB.out | apply p3_ | apply p1_ | apply p2_ | refine bs_ ?_ GE181.out)⟩⟩
       rw [if_neg c43] at H
       have c43b0 : (t211 == 0) = false := e2_ c43
       have c43b1 : (t211 != 0) = true := bne_iff_ne.mpr c43
       have H' := am_ H
       clear H
       go_wp2_with (first | ((with_reducible refine gate_callee (f := 20) rfl ?_); refine goesL_ (some 95) rfl rfl Tryd.func20 (by kernel_rfl) rfl #[.int .i64 t196] rfl (by (try simp only [List.map_toArray, List.map_cons, List.map_nil]); first | done | rfl | (simp only [List.length_drop, List.length_take]; rfl)) ?_; (with_reducible refine (pinfoldlaw0_Num.calls t196 t209 _ A38.out).mono ?_); rintro e w' ⟨rfl, ⟨nd, rfl⟩⟩; refine ⟨_, rfl, ?_⟩) | (go_at_call 20; (with_reducible refine (pinfoldlaw0_Num.calls t200 t210 _ A40.out).mono ?_); rintro e w' ⟨rfl, ⟨nd, rfl⟩⟩) | (go_at_call 20; (with_reducible refine (pinfoldlaw0_Num.calls t204 t211 _ A42.out).mono ?_); rintro e w' ⟨rfl, ⟨nd, rfl⟩⟩))
       go_meet
       case rel => exact ⟨_, (true), (by first | rfl | (simp; done) | (simp [*]; done)), H', ⟨by have := HJ9.out; first | omega | exact Nat.le_refl _⟩, ⟨by (with_reducible repeat (first | apply r1_ | apply r2_ | apply r3_)); exact Kd.R_mono HO_11.out (fun _ hk => ⟨hk.1.1.1.1, ⟨hk.1.1.1.2, ⟨hk.1.1.2, ⟨hk.1.2, hk.2⟩⟩⟩⟩)⟩, ⟨by (with_reducible repeat (first | apply r1_ | apply r2_ | apply r3_)); exact Kd.R_mono HO_13.out (fun _ hk => ⟨hk.1.1.1.1, ⟨hk.1.1.1.2, ⟨hk.1.1.2, ⟨hk.1.2, hk.2⟩⟩⟩⟩)⟩, ⟨by (with_reducible repeat (first | apply r1_ | apply r2_ | apply r3_)); exact Kd.R_mono HO195.out (fun _ hk => ⟨hk.1.1.1.1.2, ⟨hk.1.1.1.2, ⟨hk.1.1.2, ⟨hk.1.2, hk.2⟩⟩⟩⟩)⟩, ⟨by (with_reducible repeat (first | apply r1_ | apply r2_ | apply r3_)); exact Kd.R_mono HO199.out (fun _ hk => ⟨hk.1.1.1.1.2, ⟨hk.1.1.1.2, ⟨hk.1.1.2, ⟨hk.1.2, hk.2⟩⟩⟩⟩)⟩, ⟨by (with_reducible repeat (first | apply r1_ | apply r2_ | apply r3_)); exact Kd.R_mono HO203.out (fun _ hk => ⟨hk.1.1.1.1.2, ⟨hk.1.1.1.2, ⟨hk.1.1.2, ⟨hk.1.2, hk.2⟩⟩⟩⟩)⟩, ⟨by (with_reducible repeat (first | apply r1_ | apply r2_ | apply r3_)); exact Kd.R_mono HO207.out (fun _ hk => ⟨hk.1.1.1.1.2, ⟨hk.1.1.1.2, ⟨hk.1.1.2, ⟨hk.1.2, hk.2⟩⟩⟩⟩)⟩, ⟨by (with_reducible repeat (first | refine k2_ ?_ _ | refine k3_ ?_ | refine k1_ ?_ _)); exact BK181.out⟩, ⟨by repeat (with_reducible first | exact HB.out | apply p3_ | apply p1_ | apply p2_ | refine bs_ ?_ GE181.out)⟩⟩
      rw [if_neg c41] at H
      have c41b0 : (t210 == 0) = false := e2_ c41
      have c41b1 : (t210 != 0) = true := bne_iff_ne.mpr c41
      have H' := am_ H
      clear H
      go_wp2_with (first | ((with_reducible refine gate_callee (f := 20) rfl ?_); refine goesL_ (some 95) rfl rfl Tryd.func20 (by kernel_rfl) rfl #[.int .i64 t196] rfl (by (try simp only [List.map_toArray, List.map_cons, List.map_nil]); first | done | rfl | (simp only [List.length_drop, List.length_take]; rfl)) ?_; (with_reducible refine (pinfoldlaw0_Num.calls t196 t209 _ A38.out).mono ?_); rintro e w' ⟨rfl, ⟨nd, rfl⟩⟩; refine ⟨_, rfl, ?_⟩) | (go_at_call 20; (with_reducible refine (pinfoldlaw0_Num.calls t200 t210 _ A40.out).mono ?_); rintro e w' ⟨rfl, ⟨nd, rfl⟩⟩))
      go_meet
      case rel => exact ⟨_, (true), (by first | rfl | (simp; done) | (simp [*]; done)), H', ⟨by have := HJ9.out; first | omega | exact Nat.le_refl _⟩, ⟨by (with_reducible repeat (first | apply r1_ | apply r2_ | apply r3_)); exact Kd.R_mono HO_11.out (fun _ hk => ⟨hk.1.1.1.1, ⟨hk.1.1.1.2, ⟨hk.1.1.2, ⟨hk.1.2, hk.2⟩⟩⟩⟩)⟩, ⟨by (with_reducible repeat (first | apply r1_ | apply r2_ | apply r3_)); exact Kd.R_mono HO_13.out (fun _ hk => ⟨hk.1.1.1.1, ⟨hk.1.1.1.2, ⟨hk.1.1.2, ⟨hk.1.2, hk.2⟩⟩⟩⟩)⟩, ⟨by (with_reducible repeat (first | apply r1_ | apply r2_ | apply r3_)); exact Kd.R_mono HO195.out (fun _ hk => ⟨hk.1.1.1.1.2, ⟨hk.1.1.1.2, ⟨hk.1.1.2, ⟨hk.1.2, hk.2⟩⟩⟩⟩)⟩, ⟨by (with_reducible repeat (first | apply r1_ | apply r2_ | apply r3_)); exact Kd.R_mono HO199.out (fun _ hk => ⟨hk.1.1.1.1.2, ⟨hk.1.1.1.2, ⟨hk.1.1.2, ⟨hk.1.2, hk.2⟩⟩⟩⟩)⟩, ⟨by (with_reducible repeat (first | apply r1_ | apply r2_ | apply r3_)); exact Kd.R_mono HO203.out (fun _ hk => ⟨hk.1.1.1.1.2, ⟨hk.1.1.1.2, ⟨hk.1.1.2, ⟨hk.1.2, hk.2⟩⟩⟩⟩)⟩, ⟨by (with_reducible repeat (first | apply r1_ | apply r2_ | apply r3_)); exact Kd.R_mono HO207.out (fun _ hk => ⟨hk.1.1.1.1.2, ⟨hk.1.1.1.2, ⟨hk.1.1.2, ⟨hk.1.2, hk.2⟩⟩⟩⟩)⟩, ⟨by (with_reducible repeat (first | refine k2_ ?_ _ | refine k3_ ?_ | refine k1_ ?_ _)); exact BK181.out⟩, ⟨by repeat (with_reducible first | exact HB.out | apply p3_ | apply p1_ | apply p2_ | refine bs_ ?_ GE181.out)⟩⟩
     rw [if_neg c39] at H
     have c39b0 : (t209 == 0) = false := e2_ c39
     have c39b1 : (t209 != 0) = true := bne_iff_ne.mpr c39
     (first | rw [c39b0] | (simp only [i64_w, i32_w]; rw [c39b0]) | skip)
     have H' := am_ H
     clear H
     go_wp2_with (first | ((with_reducible refine gate_callee (f := 20) rfl ?_); refine goesL_ (some 95) rfl rfl Tryd.func20 (by kernel_rfl) rfl #[.int .i64 t196] rfl (by (try simp only [List.map_toArray, List.map_cons, List.map_nil]); first | done | rfl | (simp only [List.length_drop, List.length_take]; rfl)) ?_; (with_reducible refine (pinfoldlaw0_Num.calls t196 t209 _ A38.out).mono ?_); rintro e w' ⟨rfl, ⟨nd, rfl⟩⟩; refine ⟨_, rfl, ?_⟩))
     go_meet
     case rel => exact ⟨_, (true), (by first | rfl | (simp; done) | (simp [*]; done)), H', ⟨by have := HJ9.out; first | omega | exact Nat.le_refl _⟩, ⟨by (with_reducible repeat (first | apply r1_ | apply r2_ | apply r3_)); exact Kd.R_mono HO_11.out (fun _ hk => ⟨hk.1.1.1.1, ⟨hk.1.1.1.2, ⟨hk.1.1.2, ⟨hk.1.2, hk.2⟩⟩⟩⟩)⟩, ⟨by (with_reducible repeat (first | apply r1_ | apply r2_ | apply r3_)); exact Kd.R_mono HO_13.out (fun _ hk => ⟨hk.1.1.1.1, ⟨hk.1.1.1.2, ⟨hk.1.1.2, ⟨hk.1.2, hk.2⟩⟩⟩⟩)⟩, ⟨by (with_reducible repeat (first | apply r1_ | apply r2_ | apply r3_)); exact Kd.R_mono HO195.out (fun _ hk => ⟨hk.1.1.1.1.2, ⟨hk.1.1.1.2, ⟨hk.1.1.2, ⟨hk.1.2, hk.2⟩⟩⟩⟩)⟩, ⟨by (with_reducible repeat (first | apply r1_ | apply r2_ | apply r3_)); exact Kd.R_mono HO199.out (fun _ hk => ⟨hk.1.1.1.1.2, ⟨hk.1.1.1.2, ⟨hk.1.1.2, ⟨hk.1.2, hk.2⟩⟩⟩⟩)⟩, ⟨by (with_reducible repeat (first | apply r1_ | apply r2_ | apply r3_)); exact Kd.R_mono HO203.out (fun _ hk => ⟨hk.1.1.1.1.2, ⟨hk.1.1.1.2, ⟨hk.1.1.2, ⟨hk.1.2, hk.2⟩⟩⟩⟩)⟩, ⟨by (with_reducible repeat (first | apply r1_ | apply r2_ | apply r3_)); exact Kd.R_mono HO207.out (fun _ hk => ⟨hk.1.1.1.1.2, ⟨hk.1.1.1.2, ⟨hk.1.1.2, ⟨hk.1.2, hk.2⟩⟩⟩⟩)⟩, ⟨by (with_reducible repeat (first | refine k2_ ?_ _ | refine k3_ ?_ | refine k1_ ?_ _)); exact BK181.out⟩, ⟨by repeat (with_reducible first | exact HB.out | apply p3_ | apply p1_ | apply p2_ | refine bs_ ?_ GE181.out)⟩⟩
    case rest =>
     clear HC27
     (try clear c1); (try clear c7); (try clear c20); (try clear hcz13_0); (try clear hcz13_1); (try clear hcz13_2); (try clear hcz13_3); (try clear hcz13_4); (try clear hcz13_5); (try clear hcz13_6); (try clear hcz15_0); (try clear hcz15_1); (try clear hcz15_2); (try clear hcz15_3); (try clear hcz15_4); (try clear hcz15_5); (try clear hcz15_6); (try clear hcz28_0); (try clear hcz28_1); (try clear hcz28_2); (try clear hcz28_3); (try clear hcz28_4); (try clear hcz28_5); (try clear hcz28_6); (try clear hcz31_0); (try clear hcz31_1); (try clear hcz31_2); (try clear hcz31_3); (try clear hcz31_4); (try clear hcz31_5); (try clear hcz31_6); (try clear hcz33_0); (try clear hcz33_1); (try clear hcz33_2); (try clear hcz33_3); (try clear hcz33_4); (try clear hcz33_5); (try clear hcz33_6); (try clear hcz36_0); (try clear hcz36_1); (try clear hcz36_2); (try clear hcz36_3); (try clear hcz36_4); (try clear hcz36_5); (try clear hcz36_6); (try clear hfz13_0); (try clear hfz13_1); (try clear hfz13_2); (try clear hfz13_3); (try clear hfz13_4); (try clear hfz13_5); (try clear hfz13_6); (try clear hfz15_0); (try clear hfz15_1); (try clear hfz15_2); (try clear hfz15_3); (try clear hfz15_4); (try clear hfz15_5); (try clear hfz15_6); (try clear hfz28_0); (try clear hfz28_1); (try clear hfz28_2); (try clear hfz28_3); (try clear hfz28_4); (try clear hfz28_5); (try clear hfz28_6); (try clear hfz31_0); (try clear hfz31_1); (try clear hfz31_2); (try clear hfz31_3); (try clear hfz31_4); (try clear hfz31_5); (try clear hfz31_6); (try clear hfz33_0); (try clear hfz33_1); (try clear hfz33_2); (try clear hfz33_3); (try clear hfz33_4); (try clear hfz33_5); (try clear hfz33_6); (try clear hfz36_0); (try clear hfz36_1); (try clear hfz36_2); (try clear hfz36_3); (try clear hfz36_4); (try clear hfz36_5); (try clear hfz36_6)
     obtain ⟨kq, x111_26, rfl, HA, HJ26, HO_11, HO_13, HO_15, HO_17, HO_19, HO_21, BK181, HB⟩ := hcut
     cases kq with
     | zero => exact absurd HA.out (by simp [pinfoldlaw18_DropTwice.j1])
     | succ kj26 =>
      have H := HA.out
      clear HA
      simp only [pinfoldlaw18_DropTwice.j1] at H
      by_cases c45 : x111_26 = true
      ·subst c45
       have H1 : (none) = some r := by rw [if_pos rfl] at H; exact H
       clear H
       have H := H1
       clear H1
       exact absurd H (by simp)
      replace c45 := e3_ c45
      subst c45
      have H1 : ((pinfoldlaw0_SameLeases.f kj26 t183 l1).bind fun t213 => ((pinfoldlaw0_SameLeases.f kj26 t193 t183).bind fun t214 => (if t214 = true then (if t213 = true then ((pinfoldlaw0_SameLeases.f kj26 t201 t187).bind fun t215 => (if t215 = true then ((pinfoldlaw0_SameLeases.f kj26 t205 t187).bind fun t216 => (if t216 = true then (some true) else ((pinfoldlaw0_SameLeases.f kj26 t187 l1).bind fun t217 => (if t217 = true then ((pinfoldlaw0_SameLeases.f kj26 t193 t183).bind fun t218 => (if t218 = true then ((pinfoldlaw0_SameLeases.f kj26 t205 t187).bind fun t219 => (some t219)) else (none))) else (none))))) else ((pinfoldlaw0_SameLeases.f kj26 t187 l1).bind fun t220 => (if t220 = true then ((pinfoldlaw0_SameLeases.f kj26 t193 t183).bind fun t221 => (if t221 = true then ((pinfoldlaw0_SameLeases.f kj26 t205 t187).bind fun t222 => (some t222)) else (none))) else (none))))) else ((pinfoldlaw0_SameLeases.f kj26 t197 t183).bind fun t223 => (if t223 = true then ((pinfoldlaw0_SameLeases.f kj26 t201 t187).bind fun t224 => (if t224 = true then ((pinfoldlaw0_SameLeases.f kj26 t205 t187).bind fun t225 => (if t225 = true then (some true) else ((pinfoldlaw0_SameLeases.f kj26 t187 l1).bind fun t226 => (if t226 = true then ((pinfoldlaw0_SameLeases.f kj26 t193 t183).bind fun t227 => (if t227 = true then ((pinfoldlaw0_SameLeases.f kj26 t205 t187).bind fun t228 => (some t228)) else (none))) else (none))))) else ((pinfoldlaw0_SameLeases.f kj26 t187 l1).bind fun t229 => (if t229 = true then ((pinfoldlaw0_SameLeases.f kj26 t193 t183).bind fun t230 => (if t230 = true then ((pinfoldlaw0_SameLeases.f kj26 t205 t187).bind fun t231 => (some t231)) else (none))) else (none))))) else ((pinfoldlaw0_SameLeases.f kj26 t187 l1).bind fun t232 => (if t232 = true then ((pinfoldlaw0_SameLeases.f kj26 t193 t183).bind fun t233 => (if t233 = true then ((pinfoldlaw0_SameLeases.f kj26 t205 t187).bind fun t234 => (some t234)) else (none))) else (none)))))) else ((pinfoldlaw0_SameLeases.f kj26 t187 l1).bind fun t235 => (if t235 = true then ((pinfoldlaw0_SameLeases.f kj26 t193 t183).bind fun t236 => (if t236 = true then ((pinfoldlaw0_SameLeases.f kj26 t205 t187).bind fun t237 => (some t237)) else (none))) else (none)))))) = some r := by rw [if_neg (show ¬ (false = true) by decide)] at H; exact H
      clear H
      have H := H1
      clear H1
      replace H := e4_ H
      obtain ⟨t213, A460, H⟩ := H
      replace H : ((pinfoldlaw0_SameLeases.f kj26 t193 t183).bind fun t214 => (if t214 = true then (if t213 = true then ((pinfoldlaw0_SameLeases.f kj26 t201 t187).bind fun t215 => (if t215 = true then ((pinfoldlaw0_SameLeases.f kj26 t205 t187).bind fun t216 => (if t216 = true then (some true) else ((pinfoldlaw0_SameLeases.f kj26 t187 l1).bind fun t217 => (if t217 = true then ((pinfoldlaw0_SameLeases.f kj26 t193 t183).bind fun t218 => (if t218 = true then ((pinfoldlaw0_SameLeases.f kj26 t205 t187).bind fun t219 => (some t219)) else (none))) else (none))))) else ((pinfoldlaw0_SameLeases.f kj26 t187 l1).bind fun t220 => (if t220 = true then ((pinfoldlaw0_SameLeases.f kj26 t193 t183).bind fun t221 => (if t221 = true then ((pinfoldlaw0_SameLeases.f kj26 t205 t187).bind fun t222 => (some t222)) else (none))) else (none))))) else ((pinfoldlaw0_SameLeases.f kj26 t197 t183).bind fun t223 => (if t223 = true then ((pinfoldlaw0_SameLeases.f kj26 t201 t187).bind fun t224 => (if t224 = true then ((pinfoldlaw0_SameLeases.f kj26 t205 t187).bind fun t225 => (if t225 = true then (some true) else ((pinfoldlaw0_SameLeases.f kj26 t187 l1).bind fun t226 => (if t226 = true then ((pinfoldlaw0_SameLeases.f kj26 t193 t183).bind fun t227 => (if t227 = true then ((pinfoldlaw0_SameLeases.f kj26 t205 t187).bind fun t228 => (some t228)) else (none))) else (none))))) else ((pinfoldlaw0_SameLeases.f kj26 t187 l1).bind fun t229 => (if t229 = true then ((pinfoldlaw0_SameLeases.f kj26 t193 t183).bind fun t230 => (if t230 = true then ((pinfoldlaw0_SameLeases.f kj26 t205 t187).bind fun t231 => (some t231)) else (none))) else (none))))) else ((pinfoldlaw0_SameLeases.f kj26 t187 l1).bind fun t232 => (if t232 = true then ((pinfoldlaw0_SameLeases.f kj26 t193 t183).bind fun t233 => (if t233 = true then ((pinfoldlaw0_SameLeases.f kj26 t205 t187).bind fun t234 => (some t234)) else (none))) else (none)))))) else ((pinfoldlaw0_SameLeases.f kj26 t187 l1).bind fun t235 => (if t235 = true then ((pinfoldlaw0_SameLeases.f kj26 t193 t183).bind fun t236 => (if t236 = true then ((pinfoldlaw0_SameLeases.f kj26 t205 t187).bind fun t237 => (some t237)) else (none))) else (none))))) = some r := H
      have A46 := am_ A460
      clear A460
      replace H := e4_ H
      obtain ⟨t214, A470, H⟩ := H
      replace H : (if t214 = true then (if t213 = true then ((pinfoldlaw0_SameLeases.f kj26 t201 t187).bind fun t215 => (if t215 = true then ((pinfoldlaw0_SameLeases.f kj26 t205 t187).bind fun t216 => (if t216 = true then (some true) else ((pinfoldlaw0_SameLeases.f kj26 t187 l1).bind fun t217 => (if t217 = true then ((pinfoldlaw0_SameLeases.f kj26 t193 t183).bind fun t218 => (if t218 = true then ((pinfoldlaw0_SameLeases.f kj26 t205 t187).bind fun t219 => (some t219)) else (none))) else (none))))) else ((pinfoldlaw0_SameLeases.f kj26 t187 l1).bind fun t220 => (if t220 = true then ((pinfoldlaw0_SameLeases.f kj26 t193 t183).bind fun t221 => (if t221 = true then ((pinfoldlaw0_SameLeases.f kj26 t205 t187).bind fun t222 => (some t222)) else (none))) else (none))))) else ((pinfoldlaw0_SameLeases.f kj26 t197 t183).bind fun t223 => (if t223 = true then ((pinfoldlaw0_SameLeases.f kj26 t201 t187).bind fun t224 => (if t224 = true then ((pinfoldlaw0_SameLeases.f kj26 t205 t187).bind fun t225 => (if t225 = true then (some true) else ((pinfoldlaw0_SameLeases.f kj26 t187 l1).bind fun t226 => (if t226 = true then ((pinfoldlaw0_SameLeases.f kj26 t193 t183).bind fun t227 => (if t227 = true then ((pinfoldlaw0_SameLeases.f kj26 t205 t187).bind fun t228 => (some t228)) else (none))) else (none))))) else ((pinfoldlaw0_SameLeases.f kj26 t187 l1).bind fun t229 => (if t229 = true then ((pinfoldlaw0_SameLeases.f kj26 t193 t183).bind fun t230 => (if t230 = true then ((pinfoldlaw0_SameLeases.f kj26 t205 t187).bind fun t231 => (some t231)) else (none))) else (none))))) else ((pinfoldlaw0_SameLeases.f kj26 t187 l1).bind fun t232 => (if t232 = true then ((pinfoldlaw0_SameLeases.f kj26 t193 t183).bind fun t233 => (if t233 = true then ((pinfoldlaw0_SameLeases.f kj26 t205 t187).bind fun t234 => (some t234)) else (none))) else (none)))))) else ((pinfoldlaw0_SameLeases.f kj26 t187 l1).bind fun t235 => (if t235 = true then ((pinfoldlaw0_SameLeases.f kj26 t193 t183).bind fun t236 => (if t236 = true then ((pinfoldlaw0_SameLeases.f kj26 t205 t187).bind fun t237 => (some t237)) else (none))) else (none)))) = some r := H
      have A47 := am_ A470
      clear A470
      by_cases c48 : t214 = true
      ·subst c48
       have H1 : (if t213 = true then ((pinfoldlaw0_SameLeases.f kj26 t201 t187).bind fun t215 => (if t215 = true then ((pinfoldlaw0_SameLeases.f kj26 t205 t187).bind fun t216 => (if t216 = true then (some true) else ((pinfoldlaw0_SameLeases.f kj26 t187 l1).bind fun t217 => (if t217 = true then ((pinfoldlaw0_SameLeases.f kj26 t193 t183).bind fun t218 => (if t218 = true then ((pinfoldlaw0_SameLeases.f kj26 t205 t187).bind fun t219 => (some t219)) else (none))) else (none))))) else ((pinfoldlaw0_SameLeases.f kj26 t187 l1).bind fun t220 => (if t220 = true then ((pinfoldlaw0_SameLeases.f kj26 t193 t183).bind fun t221 => (if t221 = true then ((pinfoldlaw0_SameLeases.f kj26 t205 t187).bind fun t222 => (some t222)) else (none))) else (none))))) else ((pinfoldlaw0_SameLeases.f kj26 t197 t183).bind fun t223 => (if t223 = true then ((pinfoldlaw0_SameLeases.f kj26 t201 t187).bind fun t224 => (if t224 = true then ((pinfoldlaw0_SameLeases.f kj26 t205 t187).bind fun t225 => (if t225 = true then (some true) else ((pinfoldlaw0_SameLeases.f kj26 t187 l1).bind fun t226 => (if t226 = true then ((pinfoldlaw0_SameLeases.f kj26 t193 t183).bind fun t227 => (if t227 = true then ((pinfoldlaw0_SameLeases.f kj26 t205 t187).bind fun t228 => (some t228)) else (none))) else (none))))) else ((pinfoldlaw0_SameLeases.f kj26 t187 l1).bind fun t229 => (if t229 = true then ((pinfoldlaw0_SameLeases.f kj26 t193 t183).bind fun t230 => (if t230 = true then ((pinfoldlaw0_SameLeases.f kj26 t205 t187).bind fun t231 => (some t231)) else (none))) else (none))))) else ((pinfoldlaw0_SameLeases.f kj26 t187 l1).bind fun t232 => (if t232 = true then ((pinfoldlaw0_SameLeases.f kj26 t193 t183).bind fun t233 => (if t233 = true then ((pinfoldlaw0_SameLeases.f kj26 t205 t187).bind fun t234 => (some t234)) else (none))) else (none)))))) = some r := by rw [if_pos rfl] at H; exact H
       clear H
       have H := H1
       clear H1
       by_cases c49 : t213 = true
       ·subst c49
        have H1 : ((pinfoldlaw0_SameLeases.f kj26 t201 t187).bind fun t215 => (if t215 = true then ((pinfoldlaw0_SameLeases.f kj26 t205 t187).bind fun t216 => (if t216 = true then (some true) else ((pinfoldlaw0_SameLeases.f kj26 t187 l1).bind fun t217 => (if t217 = true then ((pinfoldlaw0_SameLeases.f kj26 t193 t183).bind fun t218 => (if t218 = true then ((pinfoldlaw0_SameLeases.f kj26 t205 t187).bind fun t219 => (some t219)) else (none))) else (none))))) else ((pinfoldlaw0_SameLeases.f kj26 t187 l1).bind fun t220 => (if t220 = true then ((pinfoldlaw0_SameLeases.f kj26 t193 t183).bind fun t221 => (if t221 = true then ((pinfoldlaw0_SameLeases.f kj26 t205 t187).bind fun t222 => (some t222)) else (none))) else (none))))) = some r := by rw [if_pos rfl] at H; exact H
        clear H
        have H := H1
        clear H1
        replace H := e4_ H
        obtain ⟨t215, A500, H⟩ := H
        replace H : (if t215 = true then ((pinfoldlaw0_SameLeases.f kj26 t205 t187).bind fun t216 => (if t216 = true then (some true) else ((pinfoldlaw0_SameLeases.f kj26 t187 l1).bind fun t217 => (if t217 = true then ((pinfoldlaw0_SameLeases.f kj26 t193 t183).bind fun t218 => (if t218 = true then ((pinfoldlaw0_SameLeases.f kj26 t205 t187).bind fun t219 => (some t219)) else (none))) else (none))))) else ((pinfoldlaw0_SameLeases.f kj26 t187 l1).bind fun t220 => (if t220 = true then ((pinfoldlaw0_SameLeases.f kj26 t193 t183).bind fun t221 => (if t221 = true then ((pinfoldlaw0_SameLeases.f kj26 t205 t187).bind fun t222 => (some t222)) else (none))) else (none)))) = some r := H
        have A50 := am_ A500
        clear A500
        by_cases c51 : t215 = true
        ·subst c51
         have H1 : ((pinfoldlaw0_SameLeases.f kj26 t205 t187).bind fun t216 => (if t216 = true then (some true) else ((pinfoldlaw0_SameLeases.f kj26 t187 l1).bind fun t217 => (if t217 = true then ((pinfoldlaw0_SameLeases.f kj26 t193 t183).bind fun t218 => (if t218 = true then ((pinfoldlaw0_SameLeases.f kj26 t205 t187).bind fun t219 => (some t219)) else (none))) else (none))))) = some r := by rw [if_pos rfl] at H; exact H
         clear H
         have H := H1
         clear H1
         replace H := e4_ H
         obtain ⟨t216, A520, H⟩ := H
         replace H : (if t216 = true then (some true) else ((pinfoldlaw0_SameLeases.f kj26 t187 l1).bind fun t217 => (if t217 = true then ((pinfoldlaw0_SameLeases.f kj26 t193 t183).bind fun t218 => (if t218 = true then ((pinfoldlaw0_SameLeases.f kj26 t205 t187).bind fun t219 => (some t219)) else (none))) else (none)))) = some r := H
         have A52 := am_ A520
         clear A520
         by_cases c53 : t216 = true
         ·subst c53
          have H1 : (some true) = some r := by rw [if_pos rfl] at H; exact H
          clear H
          have H := H1
          clear H1
          obtain rfl := e5_ H
          go_wp2_with (first | ((with_reducible refine gate_callee (f := 19) rfl ?_); refine goesL_ (some 114) rfl rfl Tryd.func19 (by kernel_rfl) rfl #[.slice Ao29 t183.length co29, .slice A1 l1.length c1] rfl (by (try simp only [List.map_toArray, List.map_cons, List.map_nil]); first | done | rfl | (simp only [List.length_drop, List.length_take]; rfl)) ?_; (with_reducible refine (pinfoldlaw0_SameLeases.calls kj26 _ _ t183 _ _ l1 true _ ?side1 ?side2 ?side3 ?side4 A46.out).mono ?_); (case side1 => repeat (first | exact (Kd.R_reads' HO_11.out).2.2 | (with_reducible refine c1_ ?_ _) | (with_reducible refine c2_ ?_ _) | (with_reducible refine c3_ ?_))); (case side2 => exact (Kd.R_reads' HO_11.out).2.1); (case side3 => repeat (first | exact (c4_ HR1.out HB.out) | (with_reducible refine c1_ ?_ _) | (with_reducible refine c2_ ?_ _) | (with_reducible refine c3_ ?_))); (case side4 => exact HC1.out); rintro e w' ⟨rfl, ⟨nd, rfl⟩⟩; refine ⟨_, rfl, ?_⟩; obtain ⟨Ao54, co54, eo54⟩ := Kd.R_slice HO_15.out; subst eo54) | ((with_reducible refine gate_callee (f := 19) rfl ?_); refine goesL_ (some 118) rfl rfl Tryd.func19 (by kernel_rfl) rfl #[.slice Ao54 t193.length co54, .slice Ao29 t183.length co29] rfl (by (try simp only [List.map_toArray, List.map_cons, List.map_nil]); first | done | rfl | (simp only [List.length_drop, List.length_take]; rfl)) ?_; (with_reducible refine (pinfoldlaw0_SameLeases.calls kj26 _ _ t193 _ _ t183 true _ ?side1 ?side2 ?side3 ?side4 A47.out).mono ?_); (case side1 => repeat (first | exact (Kd.R_reads' HO_15.out).2.2 | (with_reducible refine c1_ ?_ _) | (with_reducible refine c2_ ?_ _) | (with_reducible refine c3_ ?_))); (case side2 => exact (Kd.R_reads' HO_15.out).2.1); (case side3 => repeat (first | exact (Kd.R_reads' HO_11.out).2.2 | (with_reducible refine c1_ ?_ _) | (with_reducible refine c2_ ?_ _) | (with_reducible refine c3_ ?_))); (case side4 => exact (Kd.R_reads' HO_11.out).2.1); rintro e w' ⟨rfl, ⟨nd, rfl⟩⟩; refine ⟨_, rfl, ?_⟩; obtain ⟨Ao55, co55, eo55⟩ := Kd.R_slice HO_19.out; subst eo55) | (go_at_call 19; (with_reducible refine (pinfoldlaw0_SameLeases.calls kj26 _ _ t201 _ _ t187 true _ ?side1 ?side2 ?side3 ?side4 A50.out).mono ?_); (case side1 => repeat (first | exact (Kd.R_reads' HO_19.out).2.2 | (with_reducible refine c1_ ?_ _) | (with_reducible refine c2_ ?_ _) | (with_reducible refine c3_ ?_))); (case side2 => exact (Kd.R_reads' HO_19.out).2.1); (case side3 => repeat (first | exact (Kd.R_reads' HO_13.out).2.2 | (with_reducible refine c1_ ?_ _) | (with_reducible refine c2_ ?_ _) | (with_reducible refine c3_ ?_))); (case side4 => exact (Kd.R_reads' HO_13.out).2.1); rintro e w' ⟨rfl, ⟨nd, rfl⟩⟩; obtain ⟨Ao56, co56, eo56⟩ := Kd.R_slice HO_21.out; subst eo56) | (go_at_call 19; (with_reducible refine (pinfoldlaw0_SameLeases.calls kj26 _ _ t205 _ _ t187 true _ ?side1 ?side2 ?side3 ?side4 A52.out).mono ?_); (case side1 => repeat (first | exact (Kd.R_reads' HO_21.out).2.2 | (with_reducible refine c1_ ?_ _) | (with_reducible refine c2_ ?_ _) | (with_reducible refine c3_ ?_))); (case side2 => exact (Kd.R_reads' HO_21.out).2.1); (case side3 => repeat (first | exact (Kd.R_reads' HO_13.out).2.2 | (with_reducible refine c1_ ?_ _) | (with_reducible refine c2_ ?_ _) | (with_reducible refine c3_ ?_))); (case side4 => exact (Kd.R_reads' HO_13.out).2.1); rintro e w' ⟨rfl, ⟨nd, rfl⟩⟩))
          go_ret
          exact ⟨by first | rfl | (simp [errW_none, errW_some] <;> rfl) | (simp [*, errW_none, errW_some] <;> rfl), by repeat (with_reducible first | exact HB.out | apply p3_ | apply p1_ | apply p2_ | refine bs_ ?_ GE181.out)⟩
         replace c53 := e3_ c53
         subst c53
         have H1 : ((pinfoldlaw0_SameLeases.f kj26 t187 l1).bind fun t217 => (if t217 = true then ((pinfoldlaw0_SameLeases.f kj26 t193 t183).bind fun t218 => (if t218 = true then ((pinfoldlaw0_SameLeases.f kj26 t205 t187).bind fun t219 => (some t219)) else (none))) else (none))) = some r := by rw [if_neg (show ¬ (false = true) by decide)] at H; exact H
         clear H
         have H := H1
         clear H1
         replace H := e4_ H
         obtain ⟨t217, A570, H⟩ := H
         replace H : (if t217 = true then ((pinfoldlaw0_SameLeases.f kj26 t193 t183).bind fun t218 => (if t218 = true then ((pinfoldlaw0_SameLeases.f kj26 t205 t187).bind fun t219 => (some t219)) else (none))) else (none)) = some r := H
         have A57 := am_ A570
         clear A570
         by_cases c58 : t217 = true
         ·subst c58
          have H1 : ((pinfoldlaw0_SameLeases.f kj26 t193 t183).bind fun t218 => (if t218 = true then ((pinfoldlaw0_SameLeases.f kj26 t205 t187).bind fun t219 => (some t219)) else (none))) = some r := by rw [if_pos rfl] at H; exact H
          clear H
          have H := H1
          clear H1
          replace H := e4_ H
          obtain ⟨t218, A590, H⟩ := H
          replace H : (if t218 = true then ((pinfoldlaw0_SameLeases.f kj26 t205 t187).bind fun t219 => (some t219)) else (none)) = some r := H
          have A59 := am_ A590
          clear A590
          by_cases c60 : t218 = true
          ·subst c60
           have H1 : ((pinfoldlaw0_SameLeases.f kj26 t205 t187).bind fun t219 => (some t219)) = some r := by rw [if_pos rfl] at H; exact H
           clear H
           have H := H1
           clear H1
           replace H := e4_ H
           obtain ⟨t219, A610, H⟩ := H
           replace H : (some t219) = some r := H
           have A61 := am_ A610
           clear A610
           obtain rfl : t219 = false := e5_ (A61.out.symm.trans A52.out)
           obtain rfl := e5_ H
           go_wp2_with (first | ((with_reducible refine gate_callee (f := 19) rfl ?_); refine goesL_ (some 114) rfl rfl Tryd.func19 (by kernel_rfl) rfl #[.slice Ao29 t183.length co29, .slice A1 l1.length c1] rfl (by (try simp only [List.map_toArray, List.map_cons, List.map_nil]); first | done | rfl | (simp only [List.length_drop, List.length_take]; rfl)) ?_; (with_reducible refine (pinfoldlaw0_SameLeases.calls kj26 _ _ t183 _ _ l1 true _ ?side1 ?side2 ?side3 ?side4 A46.out).mono ?_); (case side1 => repeat (first | exact (Kd.R_reads' HO_11.out).2.2 | (with_reducible refine c1_ ?_ _) | (with_reducible refine c2_ ?_ _) | (with_reducible refine c3_ ?_))); (case side2 => exact (Kd.R_reads' HO_11.out).2.1); (case side3 => repeat (first | exact (c4_ HR1.out HB.out) | (with_reducible refine c1_ ?_ _) | (with_reducible refine c2_ ?_ _) | (with_reducible refine c3_ ?_))); (case side4 => exact HC1.out); rintro e w' ⟨rfl, ⟨nd, rfl⟩⟩; refine ⟨_, rfl, ?_⟩; obtain ⟨Ao62, co62, eo62⟩ := Kd.R_slice HO_15.out; subst eo62) | ((with_reducible refine gate_callee (f := 19) rfl ?_); refine goesL_ (some 118) rfl rfl Tryd.func19 (by kernel_rfl) rfl #[.slice Ao62 t193.length co62, .slice Ao29 t183.length co29] rfl (by (try simp only [List.map_toArray, List.map_cons, List.map_nil]); first | done | rfl | (simp only [List.length_drop, List.length_take]; rfl)) ?_; (with_reducible refine (pinfoldlaw0_SameLeases.calls kj26 _ _ t193 _ _ t183 true _ ?side1 ?side2 ?side3 ?side4 A47.out).mono ?_); (case side1 => repeat (first | exact (Kd.R_reads' HO_15.out).2.2 | (with_reducible refine c1_ ?_ _) | (with_reducible refine c2_ ?_ _) | (with_reducible refine c3_ ?_))); (case side2 => exact (Kd.R_reads' HO_15.out).2.1); (case side3 => repeat (first | exact (Kd.R_reads' HO_11.out).2.2 | (with_reducible refine c1_ ?_ _) | (with_reducible refine c2_ ?_ _) | (with_reducible refine c3_ ?_))); (case side4 => exact (Kd.R_reads' HO_11.out).2.1); rintro e w' ⟨rfl, ⟨nd, rfl⟩⟩; refine ⟨_, rfl, ?_⟩; obtain ⟨Ao63, co63, eo63⟩ := Kd.R_slice HO_19.out; subst eo63) | (go_at_call 19; (with_reducible refine (pinfoldlaw0_SameLeases.calls kj26 _ _ t201 _ _ t187 true _ ?side1 ?side2 ?side3 ?side4 A50.out).mono ?_); (case side1 => repeat (first | exact (Kd.R_reads' HO_19.out).2.2 | (with_reducible refine c1_ ?_ _) | (with_reducible refine c2_ ?_ _) | (with_reducible refine c3_ ?_))); (case side2 => exact (Kd.R_reads' HO_19.out).2.1); (case side3 => repeat (first | exact (Kd.R_reads' HO_13.out).2.2 | (with_reducible refine c1_ ?_ _) | (with_reducible refine c2_ ?_ _) | (with_reducible refine c3_ ?_))); (case side4 => exact (Kd.R_reads' HO_13.out).2.1); rintro e w' ⟨rfl, ⟨nd, rfl⟩⟩; obtain ⟨Ao64, co64, eo64⟩ := Kd.R_slice HO_21.out; subst eo64) | (go_at_call 19; (with_reducible refine (pinfoldlaw0_SameLeases.calls kj26 _ _ t205 _ _ t187 false _ ?side1 ?side2 ?side3 ?side4 A52.out).mono ?_); (case side1 => repeat (first | exact (Kd.R_reads' HO_21.out).2.2 | (with_reducible refine c1_ ?_ _) | (with_reducible refine c2_ ?_ _) | (with_reducible refine c3_ ?_))); (case side2 => exact (Kd.R_reads' HO_21.out).2.1); (case side3 => repeat (first | exact (Kd.R_reads' HO_13.out).2.2 | (with_reducible refine c1_ ?_ _) | (with_reducible refine c2_ ?_ _) | (with_reducible refine c3_ ?_))); (case side4 => exact (Kd.R_reads' HO_13.out).2.1); rintro e w' ⟨rfl, ⟨nd, rfl⟩⟩) | (go_at_call 19; (with_reducible refine (pinfoldlaw0_SameLeases.calls kj26 _ _ t187 _ _ l1 true _ ?side1 ?side2 ?side3 ?side4 A57.out).mono ?_); (case side1 => repeat (first | exact (Kd.R_reads' HO_13.out).2.2 | (with_reducible refine c1_ ?_ _) | (with_reducible refine c2_ ?_ _) | (with_reducible refine c3_ ?_))); (case side2 => exact (Kd.R_reads' HO_13.out).2.1); (case side3 => repeat (first | exact (c4_ HR1.out (by repeat (with_reducible first | exact HB.out | apply p3_ | apply p1_ | apply p2_ | refine bs_ ?_ GE181.out))) | (with_reducible refine c1_ ?_ _) | (with_reducible refine c2_ ?_ _) | (with_reducible refine c3_ ?_))); (case side4 => exact HC1.out); rintro e w' ⟨rfl, ⟨nd, rfl⟩⟩) | (go_at_call 19; (with_reducible refine (pinfoldlaw0_SameLeases.calls kj26 _ _ t193 _ _ t183 true _ ?side1 ?side2 ?side3 ?side4 A59.out).mono ?_); (case side1 => repeat (first | exact (Kd.R_reads' HO_15.out).2.2 | (with_reducible refine c1_ ?_ _) | (with_reducible refine c2_ ?_ _) | (with_reducible refine c3_ ?_))); (case side2 => exact (Kd.R_reads' HO_15.out).2.1); (case side3 => repeat (first | exact (Kd.R_reads' HO_11.out).2.2 | (with_reducible refine c1_ ?_ _) | (with_reducible refine c2_ ?_ _) | (with_reducible refine c3_ ?_))); (case side4 => exact (Kd.R_reads' HO_11.out).2.1); rintro e w' ⟨rfl, ⟨nd, rfl⟩⟩) | (go_at_call 19; (with_reducible refine (pinfoldlaw0_SameLeases.calls kj26 _ _ t205 _ _ t187 t219 _ ?side1 ?side2 ?side3 ?side4 A61.out).mono ?_); (case side1 => repeat (first | exact (Kd.R_reads' HO_21.out).2.2 | (with_reducible refine c1_ ?_ _) | (with_reducible refine c2_ ?_ _) | (with_reducible refine c3_ ?_))); (case side2 => exact (Kd.R_reads' HO_21.out).2.1); (case side3 => repeat (first | exact (Kd.R_reads' HO_13.out).2.2 | (with_reducible refine c1_ ?_ _) | (with_reducible refine c2_ ?_ _) | (with_reducible refine c3_ ?_))); (case side4 => exact (Kd.R_reads' HO_13.out).2.1); rintro e w' ⟨rfl, ⟨nd, rfl⟩⟩))
           go_ret
           exact ⟨by first | rfl | (simp [errW_none, errW_some] <;> rfl) | (simp [*, errW_none, errW_some] <;> rfl), by repeat (with_reducible first | exact HB.out | apply p3_ | apply p1_ | apply p2_ | refine bs_ ?_ GE181.out)⟩
          replace c60 := e3_ c60
          subst c60
          have H1 : (none) = some r := by rw [if_neg (show ¬ (false = true) by decide)] at H; exact H
          clear H
          have H := H1
          clear H1
          exact absurd H (by simp)
         replace c58 := e3_ c58
         subst c58
         have H1 : (none) = some r := by rw [if_neg (show ¬ (false = true) by decide)] at H; exact H
         clear H
         have H := H1
         clear H1
         exact absurd H (by simp)
        replace c51 := e3_ c51
        subst c51
        have H1 : ((pinfoldlaw0_SameLeases.f kj26 t187 l1).bind fun t220 => (if t220 = true then ((pinfoldlaw0_SameLeases.f kj26 t193 t183).bind fun t221 => (if t221 = true then ((pinfoldlaw0_SameLeases.f kj26 t205 t187).bind fun t222 => (some t222)) else (none))) else (none))) = some r := by rw [if_neg (show ¬ (false = true) by decide)] at H; exact H
        clear H
        have H := H1
        clear H1
        replace H := e4_ H
        obtain ⟨t220, A650, H⟩ := H
        replace H : (if t220 = true then ((pinfoldlaw0_SameLeases.f kj26 t193 t183).bind fun t221 => (if t221 = true then ((pinfoldlaw0_SameLeases.f kj26 t205 t187).bind fun t222 => (some t222)) else (none))) else (none)) = some r := H
        have A65 := am_ A650
        clear A650
        by_cases c66 : t220 = true
        ·subst c66
         have H1 : ((pinfoldlaw0_SameLeases.f kj26 t193 t183).bind fun t221 => (if t221 = true then ((pinfoldlaw0_SameLeases.f kj26 t205 t187).bind fun t222 => (some t222)) else (none))) = some r := by rw [if_pos rfl] at H; exact H
         clear H
         have H := H1
         clear H1
         replace H := e4_ H
         obtain ⟨t221, A670, H⟩ := H
         replace H : (if t221 = true then ((pinfoldlaw0_SameLeases.f kj26 t205 t187).bind fun t222 => (some t222)) else (none)) = some r := H
         have A67 := am_ A670
         clear A670
         by_cases c68 : t221 = true
         ·subst c68
          have H1 : ((pinfoldlaw0_SameLeases.f kj26 t205 t187).bind fun t222 => (some t222)) = some r := by rw [if_pos rfl] at H; exact H
          clear H
          have H := H1
          clear H1
          replace H := e4_ H
          obtain ⟨t222, A690, H⟩ := H
          replace H : (some t222) = some r := H
          have A69 := am_ A690
          clear A690
          obtain rfl := e5_ H
          go_wp2_with (first | ((with_reducible refine gate_callee (f := 19) rfl ?_); refine goesL_ (some 114) rfl rfl Tryd.func19 (by kernel_rfl) rfl #[.slice Ao29 t183.length co29, .slice A1 l1.length c1] rfl (by (try simp only [List.map_toArray, List.map_cons, List.map_nil]); first | done | rfl | (simp only [List.length_drop, List.length_take]; rfl)) ?_; (with_reducible refine (pinfoldlaw0_SameLeases.calls kj26 _ _ t183 _ _ l1 true _ ?side1 ?side2 ?side3 ?side4 A46.out).mono ?_); (case side1 => repeat (first | exact (Kd.R_reads' HO_11.out).2.2 | (with_reducible refine c1_ ?_ _) | (with_reducible refine c2_ ?_ _) | (with_reducible refine c3_ ?_))); (case side2 => exact (Kd.R_reads' HO_11.out).2.1); (case side3 => repeat (first | exact (c4_ HR1.out HB.out) | (with_reducible refine c1_ ?_ _) | (with_reducible refine c2_ ?_ _) | (with_reducible refine c3_ ?_))); (case side4 => exact HC1.out); rintro e w' ⟨rfl, ⟨nd, rfl⟩⟩; refine ⟨_, rfl, ?_⟩; obtain ⟨Ao70, co70, eo70⟩ := Kd.R_slice HO_15.out; subst eo70) | ((with_reducible refine gate_callee (f := 19) rfl ?_); refine goesL_ (some 118) rfl rfl Tryd.func19 (by kernel_rfl) rfl #[.slice Ao70 t193.length co70, .slice Ao29 t183.length co29] rfl (by (try simp only [List.map_toArray, List.map_cons, List.map_nil]); first | done | rfl | (simp only [List.length_drop, List.length_take]; rfl)) ?_; (with_reducible refine (pinfoldlaw0_SameLeases.calls kj26 _ _ t193 _ _ t183 true _ ?side1 ?side2 ?side3 ?side4 A47.out).mono ?_); (case side1 => repeat (first | exact (Kd.R_reads' HO_15.out).2.2 | (with_reducible refine c1_ ?_ _) | (with_reducible refine c2_ ?_ _) | (with_reducible refine c3_ ?_))); (case side2 => exact (Kd.R_reads' HO_15.out).2.1); (case side3 => repeat (first | exact (Kd.R_reads' HO_11.out).2.2 | (with_reducible refine c1_ ?_ _) | (with_reducible refine c2_ ?_ _) | (with_reducible refine c3_ ?_))); (case side4 => exact (Kd.R_reads' HO_11.out).2.1); rintro e w' ⟨rfl, ⟨nd, rfl⟩⟩; refine ⟨_, rfl, ?_⟩; obtain ⟨Ao71, co71, eo71⟩ := Kd.R_slice HO_19.out; subst eo71) | (go_at_call 19; (with_reducible refine (pinfoldlaw0_SameLeases.calls kj26 _ _ t201 _ _ t187 false _ ?side1 ?side2 ?side3 ?side4 A50.out).mono ?_); (case side1 => repeat (first | exact (Kd.R_reads' HO_19.out).2.2 | (with_reducible refine c1_ ?_ _) | (with_reducible refine c2_ ?_ _) | (with_reducible refine c3_ ?_))); (case side2 => exact (Kd.R_reads' HO_19.out).2.1); (case side3 => repeat (first | exact (Kd.R_reads' HO_13.out).2.2 | (with_reducible refine c1_ ?_ _) | (with_reducible refine c2_ ?_ _) | (with_reducible refine c3_ ?_))); (case side4 => exact (Kd.R_reads' HO_13.out).2.1); rintro e w' ⟨rfl, ⟨nd, rfl⟩⟩) | (go_at_call 19; (with_reducible refine (pinfoldlaw0_SameLeases.calls kj26 _ _ t187 _ _ l1 true _ ?side1 ?side2 ?side3 ?side4 A65.out).mono ?_); (case side1 => repeat (first | exact (Kd.R_reads' HO_13.out).2.2 | (with_reducible refine c1_ ?_ _) | (with_reducible refine c2_ ?_ _) | (with_reducible refine c3_ ?_))); (case side2 => exact (Kd.R_reads' HO_13.out).2.1); (case side3 => repeat (first | exact (c4_ HR1.out (by repeat (with_reducible first | exact HB.out | apply p3_ | apply p1_ | apply p2_ | refine bs_ ?_ GE181.out))) | (with_reducible refine c1_ ?_ _) | (with_reducible refine c2_ ?_ _) | (with_reducible refine c3_ ?_))); (case side4 => exact HC1.out); rintro e w' ⟨rfl, ⟨nd, rfl⟩⟩) | (go_at_call 19; (with_reducible refine (pinfoldlaw0_SameLeases.calls kj26 _ _ t193 _ _ t183 true _ ?side1 ?side2 ?side3 ?side4 A67.out).mono ?_); (case side1 => repeat (first | exact (Kd.R_reads' HO_15.out).2.2 | (with_reducible refine c1_ ?_ _) | (with_reducible refine c2_ ?_ _) | (with_reducible refine c3_ ?_))); (case side2 => exact (Kd.R_reads' HO_15.out).2.1); (case side3 => repeat (first | exact (Kd.R_reads' HO_11.out).2.2 | (with_reducible refine c1_ ?_ _) | (with_reducible refine c2_ ?_ _) | (with_reducible refine c3_ ?_))); (case side4 => exact (Kd.R_reads' HO_11.out).2.1); rintro e w' ⟨rfl, ⟨nd, rfl⟩⟩; obtain ⟨Ao72, co72, eo72⟩ := Kd.R_slice HO_21.out; subst eo72) | (go_at_call 19; (with_reducible refine (pinfoldlaw0_SameLeases.calls kj26 _ _ t205 _ _ t187 t222 _ ?side1 ?side2 ?side3 ?side4 A69.out).mono ?_); (case side1 => repeat (first | exact (Kd.R_reads' HO_21.out).2.2 | (with_reducible refine c1_ ?_ _) | (with_reducible refine c2_ ?_ _) | (with_reducible refine c3_ ?_))); (case side2 => exact (Kd.R_reads' HO_21.out).2.1); (case side3 => repeat (first | exact (Kd.R_reads' HO_13.out).2.2 | (with_reducible refine c1_ ?_ _) | (with_reducible refine c2_ ?_ _) | (with_reducible refine c3_ ?_))); (case side4 => exact (Kd.R_reads' HO_13.out).2.1); rintro e w' ⟨rfl, ⟨nd, rfl⟩⟩))
          go_ret
          exact ⟨by first | rfl | (simp [errW_none, errW_some] <;> rfl) | (simp [*, errW_none, errW_some] <;> rfl), by repeat (with_reducible first | exact HB.out | apply p3_ | apply p1_ | apply p2_ | refine bs_ ?_ GE181.out)⟩
         replace c68 := e3_ c68
         subst c68
         have H1 : (none) = some r := by rw [if_neg (show ¬ (false = true) by decide)] at H; exact H
         clear H
         have H := H1
         clear H1
         exact absurd H (by simp)
        replace c66 := e3_ c66
        subst c66
        have H1 : (none) = some r := by rw [if_neg (show ¬ (false = true) by decide)] at H; exact H
        clear H
        have H := H1
        clear H1
        exact absurd H (by simp)
       replace c49 := e3_ c49
       subst c49
       have H1 : ((pinfoldlaw0_SameLeases.f kj26 t197 t183).bind fun t223 => (if t223 = true then ((pinfoldlaw0_SameLeases.f kj26 t201 t187).bind fun t224 => (if t224 = true then ((pinfoldlaw0_SameLeases.f kj26 t205 t187).bind fun t225 => (if t225 = true then (some true) else ((pinfoldlaw0_SameLeases.f kj26 t187 l1).bind fun t226 => (if t226 = true then ((pinfoldlaw0_SameLeases.f kj26 t193 t183).bind fun t227 => (if t227 = true then ((pinfoldlaw0_SameLeases.f kj26 t205 t187).bind fun t228 => (some t228)) else (none))) else (none))))) else ((pinfoldlaw0_SameLeases.f kj26 t187 l1).bind fun t229 => (if t229 = true then ((pinfoldlaw0_SameLeases.f kj26 t193 t183).bind fun t230 => (if t230 = true then ((pinfoldlaw0_SameLeases.f kj26 t205 t187).bind fun t231 => (some t231)) else (none))) else (none))))) else ((pinfoldlaw0_SameLeases.f kj26 t187 l1).bind fun t232 => (if t232 = true then ((pinfoldlaw0_SameLeases.f kj26 t193 t183).bind fun t233 => (if t233 = true then ((pinfoldlaw0_SameLeases.f kj26 t205 t187).bind fun t234 => (some t234)) else (none))) else (none))))) = some r := by rw [if_neg (show ¬ (false = true) by decide)] at H; exact H
       clear H
       have H := H1
       clear H1
       replace H := e4_ H
       obtain ⟨t223, A730, H⟩ := H
       replace H : (if t223 = true then ((pinfoldlaw0_SameLeases.f kj26 t201 t187).bind fun t224 => (if t224 = true then ((pinfoldlaw0_SameLeases.f kj26 t205 t187).bind fun t225 => (if t225 = true then (some true) else ((pinfoldlaw0_SameLeases.f kj26 t187 l1).bind fun t226 => (if t226 = true then ((pinfoldlaw0_SameLeases.f kj26 t193 t183).bind fun t227 => (if t227 = true then ((pinfoldlaw0_SameLeases.f kj26 t205 t187).bind fun t228 => (some t228)) else (none))) else (none))))) else ((pinfoldlaw0_SameLeases.f kj26 t187 l1).bind fun t229 => (if t229 = true then ((pinfoldlaw0_SameLeases.f kj26 t193 t183).bind fun t230 => (if t230 = true then ((pinfoldlaw0_SameLeases.f kj26 t205 t187).bind fun t231 => (some t231)) else (none))) else (none))))) else ((pinfoldlaw0_SameLeases.f kj26 t187 l1).bind fun t232 => (if t232 = true then ((pinfoldlaw0_SameLeases.f kj26 t193 t183).bind fun t233 => (if t233 = true then ((pinfoldlaw0_SameLeases.f kj26 t205 t187).bind fun t234 => (some t234)) else (none))) else (none)))) = some r := H
       have A73 := am_ A730
       clear A730
       by_cases c74 : t223 = true
       ·subst c74
        have H1 : ((pinfoldlaw0_SameLeases.f kj26 t201 t187).bind fun t224 => (if t224 = true then ((pinfoldlaw0_SameLeases.f kj26 t205 t187).bind fun t225 => (if t225 = true then (some true) else ((pinfoldlaw0_SameLeases.f kj26 t187 l1).bind fun t226 => (if t226 = true then ((pinfoldlaw0_SameLeases.f kj26 t193 t183).bind fun t227 => (if t227 = true then ((pinfoldlaw0_SameLeases.f kj26 t205 t187).bind fun t228 => (some t228)) else (none))) else (none))))) else ((pinfoldlaw0_SameLeases.f kj26 t187 l1).bind fun t229 => (if t229 = true then ((pinfoldlaw0_SameLeases.f kj26 t193 t183).bind fun t230 => (if t230 = true then ((pinfoldlaw0_SameLeases.f kj26 t205 t187).bind fun t231 => (some t231)) else (none))) else (none))))) = some r := by rw [if_pos rfl] at H; exact H
        clear H
        have H := H1
        clear H1
        replace H := e4_ H
        obtain ⟨t224, A750, H⟩ := H
        replace H : (if t224 = true then ((pinfoldlaw0_SameLeases.f kj26 t205 t187).bind fun t225 => (if t225 = true then (some true) else ((pinfoldlaw0_SameLeases.f kj26 t187 l1).bind fun t226 => (if t226 = true then ((pinfoldlaw0_SameLeases.f kj26 t193 t183).bind fun t227 => (if t227 = true then ((pinfoldlaw0_SameLeases.f kj26 t205 t187).bind fun t228 => (some t228)) else (none))) else (none))))) else ((pinfoldlaw0_SameLeases.f kj26 t187 l1).bind fun t229 => (if t229 = true then ((pinfoldlaw0_SameLeases.f kj26 t193 t183).bind fun t230 => (if t230 = true then ((pinfoldlaw0_SameLeases.f kj26 t205 t187).bind fun t231 => (some t231)) else (none))) else (none)))) = some r := H
        have A75 := am_ A750
        clear A750
        by_cases c76 : t224 = true
        ·subst c76
         have H1 : ((pinfoldlaw0_SameLeases.f kj26 t205 t187).bind fun t225 => (if t225 = true then (some true) else ((pinfoldlaw0_SameLeases.f kj26 t187 l1).bind fun t226 => (if t226 = true then ((pinfoldlaw0_SameLeases.f kj26 t193 t183).bind fun t227 => (if t227 = true then ((pinfoldlaw0_SameLeases.f kj26 t205 t187).bind fun t228 => (some t228)) else (none))) else (none))))) = some r := by rw [if_pos rfl] at H; exact H
         clear H
         have H := H1
         clear H1
         replace H := e4_ H
         obtain ⟨t225, A770, H⟩ := H
         replace H : (if t225 = true then (some true) else ((pinfoldlaw0_SameLeases.f kj26 t187 l1).bind fun t226 => (if t226 = true then ((pinfoldlaw0_SameLeases.f kj26 t193 t183).bind fun t227 => (if t227 = true then ((pinfoldlaw0_SameLeases.f kj26 t205 t187).bind fun t228 => (some t228)) else (none))) else (none)))) = some r := H
         have A77 := am_ A770
         clear A770
         by_cases c78 : t225 = true
         ·subst c78
          have H1 : (some true) = some r := by rw [if_pos rfl] at H; exact H
          clear H
          have H := H1
          clear H1
          obtain rfl := e5_ H
          go_wp2_with (first | ((with_reducible refine gate_callee (f := 19) rfl ?_); refine goesL_ (some 114) rfl rfl Tryd.func19 (by kernel_rfl) rfl #[.slice Ao29 t183.length co29, .slice A1 l1.length c1] rfl (by (try simp only [List.map_toArray, List.map_cons, List.map_nil]); first | done | rfl | (simp only [List.length_drop, List.length_take]; rfl)) ?_; (with_reducible refine (pinfoldlaw0_SameLeases.calls kj26 _ _ t183 _ _ l1 false _ ?side1 ?side2 ?side3 ?side4 A46.out).mono ?_); (case side1 => repeat (first | exact (Kd.R_reads' HO_11.out).2.2 | (with_reducible refine c1_ ?_ _) | (with_reducible refine c2_ ?_ _) | (with_reducible refine c3_ ?_))); (case side2 => exact (Kd.R_reads' HO_11.out).2.1); (case side3 => repeat (first | exact (c4_ HR1.out HB.out) | (with_reducible refine c1_ ?_ _) | (with_reducible refine c2_ ?_ _) | (with_reducible refine c3_ ?_))); (case side4 => exact HC1.out); rintro e w' ⟨rfl, ⟨nd, rfl⟩⟩; refine ⟨_, rfl, ?_⟩; obtain ⟨Ao79, co79, eo79⟩ := Kd.R_slice HO_15.out; subst eo79) | ((with_reducible refine gate_callee (f := 19) rfl ?_); refine goesL_ (some 118) rfl rfl Tryd.func19 (by kernel_rfl) rfl #[.slice Ao79 t193.length co79, .slice Ao29 t183.length co29] rfl (by (try simp only [List.map_toArray, List.map_cons, List.map_nil]); first | done | rfl | (simp only [List.length_drop, List.length_take]; rfl)) ?_; (with_reducible refine (pinfoldlaw0_SameLeases.calls kj26 _ _ t193 _ _ t183 true _ ?side1 ?side2 ?side3 ?side4 A47.out).mono ?_); (case side1 => repeat (first | exact (Kd.R_reads' HO_15.out).2.2 | (with_reducible refine c1_ ?_ _) | (with_reducible refine c2_ ?_ _) | (with_reducible refine c3_ ?_))); (case side2 => exact (Kd.R_reads' HO_15.out).2.1); (case side3 => repeat (first | exact (Kd.R_reads' HO_11.out).2.2 | (with_reducible refine c1_ ?_ _) | (with_reducible refine c2_ ?_ _) | (with_reducible refine c3_ ?_))); (case side4 => exact (Kd.R_reads' HO_11.out).2.1); rintro e w' ⟨rfl, ⟨nd, rfl⟩⟩; refine ⟨_, rfl, ?_⟩; obtain ⟨Ao80, co80, eo80⟩ := Kd.R_slice HO_17.out; subst eo80) | (go_at_call 19; (with_reducible refine (pinfoldlaw0_SameLeases.calls kj26 _ _ t197 _ _ t183 true _ ?side1 ?side2 ?side3 ?side4 A73.out).mono ?_); (case side1 => repeat (first | exact (Kd.R_reads' HO_17.out).2.2 | (with_reducible refine c1_ ?_ _) | (with_reducible refine c2_ ?_ _) | (with_reducible refine c3_ ?_))); (case side2 => exact (Kd.R_reads' HO_17.out).2.1); (case side3 => repeat (first | exact (Kd.R_reads' HO_11.out).2.2 | (with_reducible refine c1_ ?_ _) | (with_reducible refine c2_ ?_ _) | (with_reducible refine c3_ ?_))); (case side4 => exact (Kd.R_reads' HO_11.out).2.1); rintro e w' ⟨rfl, ⟨nd, rfl⟩⟩; obtain ⟨Ao81, co81, eo81⟩ := Kd.R_slice HO_19.out; subst eo81) | (go_at_call 19; (with_reducible refine (pinfoldlaw0_SameLeases.calls kj26 _ _ t201 _ _ t187 true _ ?side1 ?side2 ?side3 ?side4 A75.out).mono ?_); (case side1 => repeat (first | exact (Kd.R_reads' HO_19.out).2.2 | (with_reducible refine c1_ ?_ _) | (with_reducible refine c2_ ?_ _) | (with_reducible refine c3_ ?_))); (case side2 => exact (Kd.R_reads' HO_19.out).2.1); (case side3 => repeat (first | exact (Kd.R_reads' HO_13.out).2.2 | (with_reducible refine c1_ ?_ _) | (with_reducible refine c2_ ?_ _) | (with_reducible refine c3_ ?_))); (case side4 => exact (Kd.R_reads' HO_13.out).2.1); rintro e w' ⟨rfl, ⟨nd, rfl⟩⟩; obtain ⟨Ao82, co82, eo82⟩ := Kd.R_slice HO_21.out; subst eo82) | (go_at_call 19; (with_reducible refine (pinfoldlaw0_SameLeases.calls kj26 _ _ t205 _ _ t187 true _ ?side1 ?side2 ?side3 ?side4 A77.out).mono ?_); (case side1 => repeat (first | exact (Kd.R_reads' HO_21.out).2.2 | (with_reducible refine c1_ ?_ _) | (with_reducible refine c2_ ?_ _) | (with_reducible refine c3_ ?_))); (case side2 => exact (Kd.R_reads' HO_21.out).2.1); (case side3 => repeat (first | exact (Kd.R_reads' HO_13.out).2.2 | (with_reducible refine c1_ ?_ _) | (with_reducible refine c2_ ?_ _) | (with_reducible refine c3_ ?_))); (case side4 => exact (Kd.R_reads' HO_13.out).2.1); rintro e w' ⟨rfl, ⟨nd, rfl⟩⟩))
          go_ret
          exact ⟨by first | rfl | (simp [errW_none, errW_some] <;> rfl) | (simp [*, errW_none, errW_some] <;> rfl), by repeat (with_reducible first | exact HB.out | apply p3_ | apply p1_ | apply p2_ | refine bs_ ?_ GE181.out)⟩
         replace c78 := e3_ c78
         subst c78
         have H1 : ((pinfoldlaw0_SameLeases.f kj26 t187 l1).bind fun t226 => (if t226 = true then ((pinfoldlaw0_SameLeases.f kj26 t193 t183).bind fun t227 => (if t227 = true then ((pinfoldlaw0_SameLeases.f kj26 t205 t187).bind fun t228 => (some t228)) else (none))) else (none))) = some r := by rw [if_neg (show ¬ (false = true) by decide)] at H; exact H
         clear H
         have H := H1
         clear H1
         replace H := e4_ H
         obtain ⟨t226, A830, H⟩ := H
         replace H : (if t226 = true then ((pinfoldlaw0_SameLeases.f kj26 t193 t183).bind fun t227 => (if t227 = true then ((pinfoldlaw0_SameLeases.f kj26 t205 t187).bind fun t228 => (some t228)) else (none))) else (none)) = some r := H
         have A83 := am_ A830
         clear A830
         by_cases c84 : t226 = true
         ·subst c84
          have H1 : ((pinfoldlaw0_SameLeases.f kj26 t193 t183).bind fun t227 => (if t227 = true then ((pinfoldlaw0_SameLeases.f kj26 t205 t187).bind fun t228 => (some t228)) else (none))) = some r := by rw [if_pos rfl] at H; exact H
          clear H
          have H := H1
          clear H1
          replace H := e4_ H
          obtain ⟨t227, A850, H⟩ := H
          replace H : (if t227 = true then ((pinfoldlaw0_SameLeases.f kj26 t205 t187).bind fun t228 => (some t228)) else (none)) = some r := H
          have A85 := am_ A850
          clear A850
          by_cases c86 : t227 = true
          ·subst c86
           have H1 : ((pinfoldlaw0_SameLeases.f kj26 t205 t187).bind fun t228 => (some t228)) = some r := by rw [if_pos rfl] at H; exact H
           clear H
           have H := H1
           clear H1
           replace H := e4_ H
           obtain ⟨t228, A870, H⟩ := H
           replace H : (some t228) = some r := H
           have A87 := am_ A870
           clear A870
           obtain rfl : t228 = false := e5_ (A87.out.symm.trans A77.out)
           obtain rfl := e5_ H
           go_wp2_with (first | ((with_reducible refine gate_callee (f := 19) rfl ?_); refine goesL_ (some 114) rfl rfl Tryd.func19 (by kernel_rfl) rfl #[.slice Ao29 t183.length co29, .slice A1 l1.length c1] rfl (by (try simp only [List.map_toArray, List.map_cons, List.map_nil]); first | done | rfl | (simp only [List.length_drop, List.length_take]; rfl)) ?_; (with_reducible refine (pinfoldlaw0_SameLeases.calls kj26 _ _ t183 _ _ l1 false _ ?side1 ?side2 ?side3 ?side4 A46.out).mono ?_); (case side1 => repeat (first | exact (Kd.R_reads' HO_11.out).2.2 | (with_reducible refine c1_ ?_ _) | (with_reducible refine c2_ ?_ _) | (with_reducible refine c3_ ?_))); (case side2 => exact (Kd.R_reads' HO_11.out).2.1); (case side3 => repeat (first | exact (c4_ HR1.out HB.out) | (with_reducible refine c1_ ?_ _) | (with_reducible refine c2_ ?_ _) | (with_reducible refine c3_ ?_))); (case side4 => exact HC1.out); rintro e w' ⟨rfl, ⟨nd, rfl⟩⟩; refine ⟨_, rfl, ?_⟩; obtain ⟨Ao88, co88, eo88⟩ := Kd.R_slice HO_15.out; subst eo88) | ((with_reducible refine gate_callee (f := 19) rfl ?_); refine goesL_ (some 118) rfl rfl Tryd.func19 (by kernel_rfl) rfl #[.slice Ao88 t193.length co88, .slice Ao29 t183.length co29] rfl (by (try simp only [List.map_toArray, List.map_cons, List.map_nil]); first | done | rfl | (simp only [List.length_drop, List.length_take]; rfl)) ?_; (with_reducible refine (pinfoldlaw0_SameLeases.calls kj26 _ _ t193 _ _ t183 true _ ?side1 ?side2 ?side3 ?side4 A47.out).mono ?_); (case side1 => repeat (first | exact (Kd.R_reads' HO_15.out).2.2 | (with_reducible refine c1_ ?_ _) | (with_reducible refine c2_ ?_ _) | (with_reducible refine c3_ ?_))); (case side2 => exact (Kd.R_reads' HO_15.out).2.1); (case side3 => repeat (first | exact (Kd.R_reads' HO_11.out).2.2 | (with_reducible refine c1_ ?_ _) | (with_reducible refine c2_ ?_ _) | (with_reducible refine c3_ ?_))); (case side4 => exact (Kd.R_reads' HO_11.out).2.1); rintro e w' ⟨rfl, ⟨nd, rfl⟩⟩; refine ⟨_, rfl, ?_⟩; obtain ⟨Ao89, co89, eo89⟩ := Kd.R_slice HO_17.out; subst eo89) | (go_at_call 19; (with_reducible refine (pinfoldlaw0_SameLeases.calls kj26 _ _ t197 _ _ t183 true _ ?side1 ?side2 ?side3 ?side4 A73.out).mono ?_); (case side1 => repeat (first | exact (Kd.R_reads' HO_17.out).2.2 | (with_reducible refine c1_ ?_ _) | (with_reducible refine c2_ ?_ _) | (with_reducible refine c3_ ?_))); (case side2 => exact (Kd.R_reads' HO_17.out).2.1); (case side3 => repeat (first | exact (Kd.R_reads' HO_11.out).2.2 | (with_reducible refine c1_ ?_ _) | (with_reducible refine c2_ ?_ _) | (with_reducible refine c3_ ?_))); (case side4 => exact (Kd.R_reads' HO_11.out).2.1); rintro e w' ⟨rfl, ⟨nd, rfl⟩⟩; obtain ⟨Ao90, co90, eo90⟩ := Kd.R_slice HO_19.out; subst eo90) | (go_at_call 19; (with_reducible refine (pinfoldlaw0_SameLeases.calls kj26 _ _ t201 _ _ t187 true _ ?side1 ?side2 ?side3 ?side4 A75.out).mono ?_); (case side1 => repeat (first | exact (Kd.R_reads' HO_19.out).2.2 | (with_reducible refine c1_ ?_ _) | (with_reducible refine c2_ ?_ _) | (with_reducible refine c3_ ?_))); (case side2 => exact (Kd.R_reads' HO_19.out).2.1); (case side3 => repeat (first | exact (Kd.R_reads' HO_13.out).2.2 | (with_reducible refine c1_ ?_ _) | (with_reducible refine c2_ ?_ _) | (with_reducible refine c3_ ?_))); (case side4 => exact (Kd.R_reads' HO_13.out).2.1); rintro e w' ⟨rfl, ⟨nd, rfl⟩⟩; obtain ⟨Ao91, co91, eo91⟩ := Kd.R_slice HO_21.out; subst eo91) | (go_at_call 19; (with_reducible refine (pinfoldlaw0_SameLeases.calls kj26 _ _ t205 _ _ t187 false _ ?side1 ?side2 ?side3 ?side4 A77.out).mono ?_); (case side1 => repeat (first | exact (Kd.R_reads' HO_21.out).2.2 | (with_reducible refine c1_ ?_ _) | (with_reducible refine c2_ ?_ _) | (with_reducible refine c3_ ?_))); (case side2 => exact (Kd.R_reads' HO_21.out).2.1); (case side3 => repeat (first | exact (Kd.R_reads' HO_13.out).2.2 | (with_reducible refine c1_ ?_ _) | (with_reducible refine c2_ ?_ _) | (with_reducible refine c3_ ?_))); (case side4 => exact (Kd.R_reads' HO_13.out).2.1); rintro e w' ⟨rfl, ⟨nd, rfl⟩⟩) | (go_at_call 19; (with_reducible refine (pinfoldlaw0_SameLeases.calls kj26 _ _ t187 _ _ l1 true _ ?side1 ?side2 ?side3 ?side4 A83.out).mono ?_); (case side1 => repeat (first | exact (Kd.R_reads' HO_13.out).2.2 | (with_reducible refine c1_ ?_ _) | (with_reducible refine c2_ ?_ _) | (with_reducible refine c3_ ?_))); (case side2 => exact (Kd.R_reads' HO_13.out).2.1); (case side3 => repeat (first | exact (c4_ HR1.out (by repeat (with_reducible first | exact HB.out | apply p3_ | apply p1_ | apply p2_ | refine bs_ ?_ GE181.out))) | (with_reducible refine c1_ ?_ _) | (with_reducible refine c2_ ?_ _) | (with_reducible refine c3_ ?_))); (case side4 => exact HC1.out); rintro e w' ⟨rfl, ⟨nd, rfl⟩⟩) | (go_at_call 19; (with_reducible refine (pinfoldlaw0_SameLeases.calls kj26 _ _ t193 _ _ t183 true _ ?side1 ?side2 ?side3 ?side4 A85.out).mono ?_); (case side1 => repeat (first | exact (Kd.R_reads' HO_15.out).2.2 | (with_reducible refine c1_ ?_ _) | (with_reducible refine c2_ ?_ _) | (with_reducible refine c3_ ?_))); (case side2 => exact (Kd.R_reads' HO_15.out).2.1); (case side3 => repeat (first | exact (Kd.R_reads' HO_11.out).2.2 | (with_reducible refine c1_ ?_ _) | (with_reducible refine c2_ ?_ _) | (with_reducible refine c3_ ?_))); (case side4 => exact (Kd.R_reads' HO_11.out).2.1); rintro e w' ⟨rfl, ⟨nd, rfl⟩⟩) | (go_at_call 19; (with_reducible refine (pinfoldlaw0_SameLeases.calls kj26 _ _ t205 _ _ t187 t228 _ ?side1 ?side2 ?side3 ?side4 A87.out).mono ?_); (case side1 => repeat (first | exact (Kd.R_reads' HO_21.out).2.2 | (with_reducible refine c1_ ?_ _) | (with_reducible refine c2_ ?_ _) | (with_reducible refine c3_ ?_))); (case side2 => exact (Kd.R_reads' HO_21.out).2.1); (case side3 => repeat (first | exact (Kd.R_reads' HO_13.out).2.2 | (with_reducible refine c1_ ?_ _) | (with_reducible refine c2_ ?_ _) | (with_reducible refine c3_ ?_))); (case side4 => exact (Kd.R_reads' HO_13.out).2.1); rintro e w' ⟨rfl, ⟨nd, rfl⟩⟩))
           go_ret
           exact ⟨by first | rfl | (simp [errW_none, errW_some] <;> rfl) | (simp [*, errW_none, errW_some] <;> rfl), by repeat (with_reducible first | exact HB.out | apply p3_ | apply p1_ | apply p2_ | refine bs_ ?_ GE181.out)⟩
          replace c86 := e3_ c86
          subst c86
          have H1 : (none) = some r := by rw [if_neg (show ¬ (false = true) by decide)] at H; exact H
          clear H
          have H := H1
          clear H1
          exact absurd H (by simp)
         replace c84 := e3_ c84
         subst c84
         have H1 : (none) = some r := by rw [if_neg (show ¬ (false = true) by decide)] at H; exact H
         clear H
         have H := H1
         clear H1
         exact absurd H (by simp)
        replace c76 := e3_ c76
        subst c76
        have H1 : ((pinfoldlaw0_SameLeases.f kj26 t187 l1).bind fun t229 => (if t229 = true then ((pinfoldlaw0_SameLeases.f kj26 t193 t183).bind fun t230 => (if t230 = true then ((pinfoldlaw0_SameLeases.f kj26 t205 t187).bind fun t231 => (some t231)) else (none))) else (none))) = some r := by rw [if_neg (show ¬ (false = true) by decide)] at H; exact H
        clear H
        have H := H1
        clear H1
        replace H := e4_ H
        obtain ⟨t229, A920, H⟩ := H
        replace H : (if t229 = true then ((pinfoldlaw0_SameLeases.f kj26 t193 t183).bind fun t230 => (if t230 = true then ((pinfoldlaw0_SameLeases.f kj26 t205 t187).bind fun t231 => (some t231)) else (none))) else (none)) = some r := H
        have A92 := am_ A920
        clear A920
        by_cases c93 : t229 = true
        ·subst c93
         have H1 : ((pinfoldlaw0_SameLeases.f kj26 t193 t183).bind fun t230 => (if t230 = true then ((pinfoldlaw0_SameLeases.f kj26 t205 t187).bind fun t231 => (some t231)) else (none))) = some r := by rw [if_pos rfl] at H; exact H
         clear H
         have H := H1
         clear H1
         replace H := e4_ H
         obtain ⟨t230, A940, H⟩ := H
         replace H : (if t230 = true then ((pinfoldlaw0_SameLeases.f kj26 t205 t187).bind fun t231 => (some t231)) else (none)) = some r := H
         have A94 := am_ A940
         clear A940
         by_cases c95 : t230 = true
         ·subst c95
          have H1 : ((pinfoldlaw0_SameLeases.f kj26 t205 t187).bind fun t231 => (some t231)) = some r := by rw [if_pos rfl] at H; exact H
          clear H
          have H := H1
          clear H1
          replace H := e4_ H
          obtain ⟨t231, A960, H⟩ := H
          replace H : (some t231) = some r := H
          have A96 := am_ A960
          clear A960
          obtain rfl := e5_ H
          go_wp2_with (first | ((with_reducible refine gate_callee (f := 19) rfl ?_); refine goesL_ (some 114) rfl rfl Tryd.func19 (by kernel_rfl) rfl #[.slice Ao29 t183.length co29, .slice A1 l1.length c1] rfl (by (try simp only [List.map_toArray, List.map_cons, List.map_nil]); first | done | rfl | (simp only [List.length_drop, List.length_take]; rfl)) ?_; (with_reducible refine (pinfoldlaw0_SameLeases.calls kj26 _ _ t183 _ _ l1 false _ ?side1 ?side2 ?side3 ?side4 A46.out).mono ?_); (case side1 => repeat (first | exact (Kd.R_reads' HO_11.out).2.2 | (with_reducible refine c1_ ?_ _) | (with_reducible refine c2_ ?_ _) | (with_reducible refine c3_ ?_))); (case side2 => exact (Kd.R_reads' HO_11.out).2.1); (case side3 => repeat (first | exact (c4_ HR1.out HB.out) | (with_reducible refine c1_ ?_ _) | (with_reducible refine c2_ ?_ _) | (with_reducible refine c3_ ?_))); (case side4 => exact HC1.out); rintro e w' ⟨rfl, ⟨nd, rfl⟩⟩; refine ⟨_, rfl, ?_⟩; obtain ⟨Ao97, co97, eo97⟩ := Kd.R_slice HO_15.out; subst eo97) | ((with_reducible refine gate_callee (f := 19) rfl ?_); refine goesL_ (some 118) rfl rfl Tryd.func19 (by kernel_rfl) rfl #[.slice Ao97 t193.length co97, .slice Ao29 t183.length co29] rfl (by (try simp only [List.map_toArray, List.map_cons, List.map_nil]); first | done | rfl | (simp only [List.length_drop, List.length_take]; rfl)) ?_; (with_reducible refine (pinfoldlaw0_SameLeases.calls kj26 _ _ t193 _ _ t183 true _ ?side1 ?side2 ?side3 ?side4 A47.out).mono ?_); (case side1 => repeat (first | exact (Kd.R_reads' HO_15.out).2.2 | (with_reducible refine c1_ ?_ _) | (with_reducible refine c2_ ?_ _) | (with_reducible refine c3_ ?_))); (case side2 => exact (Kd.R_reads' HO_15.out).2.1); (case side3 => repeat (first | exact (Kd.R_reads' HO_11.out).2.2 | (with_reducible refine c1_ ?_ _) | (with_reducible refine c2_ ?_ _) | (with_reducible refine c3_ ?_))); (case side4 => exact (Kd.R_reads' HO_11.out).2.1); rintro e w' ⟨rfl, ⟨nd, rfl⟩⟩; refine ⟨_, rfl, ?_⟩; obtain ⟨Ao98, co98, eo98⟩ := Kd.R_slice HO_17.out; subst eo98) | (go_at_call 19; (with_reducible refine (pinfoldlaw0_SameLeases.calls kj26 _ _ t197 _ _ t183 true _ ?side1 ?side2 ?side3 ?side4 A73.out).mono ?_); (case side1 => repeat (first | exact (Kd.R_reads' HO_17.out).2.2 | (with_reducible refine c1_ ?_ _) | (with_reducible refine c2_ ?_ _) | (with_reducible refine c3_ ?_))); (case side2 => exact (Kd.R_reads' HO_17.out).2.1); (case side3 => repeat (first | exact (Kd.R_reads' HO_11.out).2.2 | (with_reducible refine c1_ ?_ _) | (with_reducible refine c2_ ?_ _) | (with_reducible refine c3_ ?_))); (case side4 => exact (Kd.R_reads' HO_11.out).2.1); rintro e w' ⟨rfl, ⟨nd, rfl⟩⟩; obtain ⟨Ao99, co99, eo99⟩ := Kd.R_slice HO_19.out; subst eo99) | (go_at_call 19; (with_reducible refine (pinfoldlaw0_SameLeases.calls kj26 _ _ t201 _ _ t187 false _ ?side1 ?side2 ?side3 ?side4 A75.out).mono ?_); (case side1 => repeat (first | exact (Kd.R_reads' HO_19.out).2.2 | (with_reducible refine c1_ ?_ _) | (with_reducible refine c2_ ?_ _) | (with_reducible refine c3_ ?_))); (case side2 => exact (Kd.R_reads' HO_19.out).2.1); (case side3 => repeat (first | exact (Kd.R_reads' HO_13.out).2.2 | (with_reducible refine c1_ ?_ _) | (with_reducible refine c2_ ?_ _) | (with_reducible refine c3_ ?_))); (case side4 => exact (Kd.R_reads' HO_13.out).2.1); rintro e w' ⟨rfl, ⟨nd, rfl⟩⟩) | (go_at_call 19; (with_reducible refine (pinfoldlaw0_SameLeases.calls kj26 _ _ t187 _ _ l1 true _ ?side1 ?side2 ?side3 ?side4 A92.out).mono ?_); (case side1 => repeat (first | exact (Kd.R_reads' HO_13.out).2.2 | (with_reducible refine c1_ ?_ _) | (with_reducible refine c2_ ?_ _) | (with_reducible refine c3_ ?_))); (case side2 => exact (Kd.R_reads' HO_13.out).2.1); (case side3 => repeat (first | exact (c4_ HR1.out (by repeat (with_reducible first | exact HB.out | apply p3_ | apply p1_ | apply p2_ | refine bs_ ?_ GE181.out))) | (with_reducible refine c1_ ?_ _) | (with_reducible refine c2_ ?_ _) | (with_reducible refine c3_ ?_))); (case side4 => exact HC1.out); rintro e w' ⟨rfl, ⟨nd, rfl⟩⟩) | (go_at_call 19; (with_reducible refine (pinfoldlaw0_SameLeases.calls kj26 _ _ t193 _ _ t183 true _ ?side1 ?side2 ?side3 ?side4 A94.out).mono ?_); (case side1 => repeat (first | exact (Kd.R_reads' HO_15.out).2.2 | (with_reducible refine c1_ ?_ _) | (with_reducible refine c2_ ?_ _) | (with_reducible refine c3_ ?_))); (case side2 => exact (Kd.R_reads' HO_15.out).2.1); (case side3 => repeat (first | exact (Kd.R_reads' HO_11.out).2.2 | (with_reducible refine c1_ ?_ _) | (with_reducible refine c2_ ?_ _) | (with_reducible refine c3_ ?_))); (case side4 => exact (Kd.R_reads' HO_11.out).2.1); rintro e w' ⟨rfl, ⟨nd, rfl⟩⟩; obtain ⟨Ao100, co100, eo100⟩ := Kd.R_slice HO_21.out; subst eo100) | (go_at_call 19; (with_reducible refine (pinfoldlaw0_SameLeases.calls kj26 _ _ t205 _ _ t187 t231 _ ?side1 ?side2 ?side3 ?side4 A96.out).mono ?_); (case side1 => repeat (first | exact (Kd.R_reads' HO_21.out).2.2 | (with_reducible refine c1_ ?_ _) | (with_reducible refine c2_ ?_ _) | (with_reducible refine c3_ ?_))); (case side2 => exact (Kd.R_reads' HO_21.out).2.1); (case side3 => repeat (first | exact (Kd.R_reads' HO_13.out).2.2 | (with_reducible refine c1_ ?_ _) | (with_reducible refine c2_ ?_ _) | (with_reducible refine c3_ ?_))); (case side4 => exact (Kd.R_reads' HO_13.out).2.1); rintro e w' ⟨rfl, ⟨nd, rfl⟩⟩))
          go_ret
          exact ⟨by first | rfl | (simp [errW_none, errW_some] <;> rfl) | (simp [*, errW_none, errW_some] <;> rfl), by repeat (with_reducible first | exact HB.out | apply p3_ | apply p1_ | apply p2_ | refine bs_ ?_ GE181.out)⟩
         replace c95 := e3_ c95
         subst c95
         have H1 : (none) = some r := by rw [if_neg (show ¬ (false = true) by decide)] at H; exact H
         clear H
         have H := H1
         clear H1
         exact absurd H (by simp)
        replace c93 := e3_ c93
        subst c93
        have H1 : (none) = some r := by rw [if_neg (show ¬ (false = true) by decide)] at H; exact H
        clear H
        have H := H1
        clear H1
        exact absurd H (by simp)
       replace c74 := e3_ c74
       subst c74
       have H1 : ((pinfoldlaw0_SameLeases.f kj26 t187 l1).bind fun t232 => (if t232 = true then ((pinfoldlaw0_SameLeases.f kj26 t193 t183).bind fun t233 => (if t233 = true then ((pinfoldlaw0_SameLeases.f kj26 t205 t187).bind fun t234 => (some t234)) else (none))) else (none))) = some r := by rw [if_neg (show ¬ (false = true) by decide)] at H; exact H
       clear H
       have H := H1
       clear H1
       replace H := e4_ H
       obtain ⟨t232, A1010, H⟩ := H
       replace H : (if t232 = true then ((pinfoldlaw0_SameLeases.f kj26 t193 t183).bind fun t233 => (if t233 = true then ((pinfoldlaw0_SameLeases.f kj26 t205 t187).bind fun t234 => (some t234)) else (none))) else (none)) = some r := H
       have A101 := am_ A1010
       clear A1010
       by_cases c102 : t232 = true
       ·subst c102
        have H1 : ((pinfoldlaw0_SameLeases.f kj26 t193 t183).bind fun t233 => (if t233 = true then ((pinfoldlaw0_SameLeases.f kj26 t205 t187).bind fun t234 => (some t234)) else (none))) = some r := by rw [if_pos rfl] at H; exact H
        clear H
        have H := H1
        clear H1
        replace H := e4_ H
        obtain ⟨t233, A1030, H⟩ := H
        replace H : (if t233 = true then ((pinfoldlaw0_SameLeases.f kj26 t205 t187).bind fun t234 => (some t234)) else (none)) = some r := H
        have A103 := am_ A1030
        clear A1030
        by_cases c104 : t233 = true
        ·subst c104
         have H1 : ((pinfoldlaw0_SameLeases.f kj26 t205 t187).bind fun t234 => (some t234)) = some r := by rw [if_pos rfl] at H; exact H
         clear H
         have H := H1
         clear H1
         replace H := e4_ H
         obtain ⟨t234, A1050, H⟩ := H
         replace H : (some t234) = some r := H
         have A105 := am_ A1050
         clear A1050
         obtain rfl := e5_ H
         go_wp2_with (first | ((with_reducible refine gate_callee (f := 19) rfl ?_); refine goesL_ (some 114) rfl rfl Tryd.func19 (by kernel_rfl) rfl #[.slice Ao29 t183.length co29, .slice A1 l1.length c1] rfl (by (try simp only [List.map_toArray, List.map_cons, List.map_nil]); first | done | rfl | (simp only [List.length_drop, List.length_take]; rfl)) ?_; (with_reducible refine (pinfoldlaw0_SameLeases.calls kj26 _ _ t183 _ _ l1 false _ ?side1 ?side2 ?side3 ?side4 A46.out).mono ?_); (case side1 => repeat (first | exact (Kd.R_reads' HO_11.out).2.2 | (with_reducible refine c1_ ?_ _) | (with_reducible refine c2_ ?_ _) | (with_reducible refine c3_ ?_))); (case side2 => exact (Kd.R_reads' HO_11.out).2.1); (case side3 => repeat (first | exact (c4_ HR1.out HB.out) | (with_reducible refine c1_ ?_ _) | (with_reducible refine c2_ ?_ _) | (with_reducible refine c3_ ?_))); (case side4 => exact HC1.out); rintro e w' ⟨rfl, ⟨nd, rfl⟩⟩; refine ⟨_, rfl, ?_⟩; obtain ⟨Ao106, co106, eo106⟩ := Kd.R_slice HO_15.out; subst eo106) | ((with_reducible refine gate_callee (f := 19) rfl ?_); refine goesL_ (some 118) rfl rfl Tryd.func19 (by kernel_rfl) rfl #[.slice Ao106 t193.length co106, .slice Ao29 t183.length co29] rfl (by (try simp only [List.map_toArray, List.map_cons, List.map_nil]); first | done | rfl | (simp only [List.length_drop, List.length_take]; rfl)) ?_; (with_reducible refine (pinfoldlaw0_SameLeases.calls kj26 _ _ t193 _ _ t183 true _ ?side1 ?side2 ?side3 ?side4 A47.out).mono ?_); (case side1 => repeat (first | exact (Kd.R_reads' HO_15.out).2.2 | (with_reducible refine c1_ ?_ _) | (with_reducible refine c2_ ?_ _) | (with_reducible refine c3_ ?_))); (case side2 => exact (Kd.R_reads' HO_15.out).2.1); (case side3 => repeat (first | exact (Kd.R_reads' HO_11.out).2.2 | (with_reducible refine c1_ ?_ _) | (with_reducible refine c2_ ?_ _) | (with_reducible refine c3_ ?_))); (case side4 => exact (Kd.R_reads' HO_11.out).2.1); rintro e w' ⟨rfl, ⟨nd, rfl⟩⟩; refine ⟨_, rfl, ?_⟩; obtain ⟨Ao107, co107, eo107⟩ := Kd.R_slice HO_17.out; subst eo107) | (go_at_call 19; (with_reducible refine (pinfoldlaw0_SameLeases.calls kj26 _ _ t197 _ _ t183 false _ ?side1 ?side2 ?side3 ?side4 A73.out).mono ?_); (case side1 => repeat (first | exact (Kd.R_reads' HO_17.out).2.2 | (with_reducible refine c1_ ?_ _) | (with_reducible refine c2_ ?_ _) | (with_reducible refine c3_ ?_))); (case side2 => exact (Kd.R_reads' HO_17.out).2.1); (case side3 => repeat (first | exact (Kd.R_reads' HO_11.out).2.2 | (with_reducible refine c1_ ?_ _) | (with_reducible refine c2_ ?_ _) | (with_reducible refine c3_ ?_))); (case side4 => exact (Kd.R_reads' HO_11.out).2.1); rintro e w' ⟨rfl, ⟨nd, rfl⟩⟩) | (go_at_call 19; (with_reducible refine (pinfoldlaw0_SameLeases.calls kj26 _ _ t187 _ _ l1 true _ ?side1 ?side2 ?side3 ?side4 A101.out).mono ?_); (case side1 => repeat (first | exact (Kd.R_reads' HO_13.out).2.2 | (with_reducible refine c1_ ?_ _) | (with_reducible refine c2_ ?_ _) | (with_reducible refine c3_ ?_))); (case side2 => exact (Kd.R_reads' HO_13.out).2.1); (case side3 => repeat (first | exact (c4_ HR1.out (by repeat (with_reducible first | exact HB.out | apply p3_ | apply p1_ | apply p2_ | refine bs_ ?_ GE181.out))) | (with_reducible refine c1_ ?_ _) | (with_reducible refine c2_ ?_ _) | (with_reducible refine c3_ ?_))); (case side4 => exact HC1.out); rintro e w' ⟨rfl, ⟨nd, rfl⟩⟩) | (go_at_call 19; (with_reducible refine (pinfoldlaw0_SameLeases.calls kj26 _ _ t193 _ _ t183 true _ ?side1 ?side2 ?side3 ?side4 A103.out).mono ?_); (case side1 => repeat (first | exact (Kd.R_reads' HO_15.out).2.2 | (with_reducible refine c1_ ?_ _) | (with_reducible refine c2_ ?_ _) | (with_reducible refine c3_ ?_))); (case side2 => exact (Kd.R_reads' HO_15.out).2.1); (case side3 => repeat (first | exact (Kd.R_reads' HO_11.out).2.2 | (with_reducible refine c1_ ?_ _) | (with_reducible refine c2_ ?_ _) | (with_reducible refine c3_ ?_))); (case side4 => exact (Kd.R_reads' HO_11.out).2.1); rintro e w' ⟨rfl, ⟨nd, rfl⟩⟩; obtain ⟨Ao108, co108, eo108⟩ := Kd.R_slice HO_21.out; subst eo108) | (go_at_call 19; (with_reducible refine (pinfoldlaw0_SameLeases.calls kj26 _ _ t205 _ _ t187 t234 _ ?side1 ?side2 ?side3 ?side4 A105.out).mono ?_); (case side1 => repeat (first | exact (Kd.R_reads' HO_21.out).2.2 | (with_reducible refine c1_ ?_ _) | (with_reducible refine c2_ ?_ _) | (with_reducible refine c3_ ?_))); (case side2 => exact (Kd.R_reads' HO_21.out).2.1); (case side3 => repeat (first | exact (Kd.R_reads' HO_13.out).2.2 | (with_reducible refine c1_ ?_ _) | (with_reducible refine c2_ ?_ _) | (with_reducible refine c3_ ?_))); (case side4 => exact (Kd.R_reads' HO_13.out).2.1); rintro e w' ⟨rfl, ⟨nd, rfl⟩⟩))
         go_ret
         exact ⟨by first | rfl | (simp [errW_none, errW_some] <;> rfl) | (simp [*, errW_none, errW_some] <;> rfl), by repeat (with_reducible first | exact HB.out | apply p3_ | apply p1_ | apply p2_ | refine bs_ ?_ GE181.out)⟩
        replace c104 := e3_ c104
        subst c104
        have H1 : (none) = some r := by rw [if_neg (show ¬ (false = true) by decide)] at H; exact H
        clear H
        have H := H1
        clear H1
        exact absurd H (by simp)
       replace c102 := e3_ c102
       subst c102
       have H1 : (none) = some r := by rw [if_neg (show ¬ (false = true) by decide)] at H; exact H
       clear H
       have H := H1
       clear H1
       exact absurd H (by simp)
      replace c48 := e3_ c48
      subst c48
      have H1 : ((pinfoldlaw0_SameLeases.f kj26 t187 l1).bind fun t235 => (if t235 = true then ((pinfoldlaw0_SameLeases.f kj26 t193 t183).bind fun t236 => (if t236 = true then ((pinfoldlaw0_SameLeases.f kj26 t205 t187).bind fun t237 => (some t237)) else (none))) else (none))) = some r := by rw [if_neg (show ¬ (false = true) by decide)] at H; exact H
      clear H
      have H := H1
      clear H1
      replace H := e4_ H
      obtain ⟨t235, A1090, H⟩ := H
      replace H : (if t235 = true then ((pinfoldlaw0_SameLeases.f kj26 t193 t183).bind fun t236 => (if t236 = true then ((pinfoldlaw0_SameLeases.f kj26 t205 t187).bind fun t237 => (some t237)) else (none))) else (none)) = some r := H
      have A109 := am_ A1090
      clear A1090
      by_cases c110 : t235 = true
      ·subst c110
       have H1 : ((pinfoldlaw0_SameLeases.f kj26 t193 t183).bind fun t236 => (if t236 = true then ((pinfoldlaw0_SameLeases.f kj26 t205 t187).bind fun t237 => (some t237)) else (none))) = some r := by rw [if_pos rfl] at H; exact H
       clear H
       have H := H1
       clear H1
       replace H := e4_ H
       obtain ⟨t236, A1110, H⟩ := H
       replace H : (if t236 = true then ((pinfoldlaw0_SameLeases.f kj26 t205 t187).bind fun t237 => (some t237)) else (none)) = some r := H
       have A111 := am_ A1110
       clear A1110
       by_cases c112 : t236 = true
       ·subst c112
        have H1 : ((pinfoldlaw0_SameLeases.f kj26 t205 t187).bind fun t237 => (some t237)) = some r := by rw [if_pos rfl] at H; exact H
        clear H
        have H := H1
        clear H1
        replace H := e4_ H
        obtain ⟨t237, A1130, H⟩ := H
        replace H : (some t237) = some r := H
        have A113 := am_ A1130
        clear A1130
        obtain rfl := e5_ H
        go_wp2_with (first | ((with_reducible refine gate_callee (f := 19) rfl ?_); refine goesL_ (some 114) rfl rfl Tryd.func19 (by kernel_rfl) rfl #[.slice Ao29 t183.length co29, .slice A1 l1.length c1] rfl (by (try simp only [List.map_toArray, List.map_cons, List.map_nil]); first | done | rfl | (simp only [List.length_drop, List.length_take]; rfl)) ?_; (with_reducible refine (pinfoldlaw0_SameLeases.calls kj26 _ _ t183 _ _ l1 t213 _ ?side1 ?side2 ?side3 ?side4 A46.out).mono ?_); (case side1 => repeat (first | exact (Kd.R_reads' HO_11.out).2.2 | (with_reducible refine c1_ ?_ _) | (with_reducible refine c2_ ?_ _) | (with_reducible refine c3_ ?_))); (case side2 => exact (Kd.R_reads' HO_11.out).2.1); (case side3 => repeat (first | exact (c4_ HR1.out HB.out) | (with_reducible refine c1_ ?_ _) | (with_reducible refine c2_ ?_ _) | (with_reducible refine c3_ ?_))); (case side4 => exact HC1.out); rintro e w' ⟨rfl, ⟨nd, rfl⟩⟩; refine ⟨_, rfl, ?_⟩; obtain ⟨Ao114, co114, eo114⟩ := Kd.R_slice HO_15.out; subst eo114) | ((with_reducible refine gate_callee (f := 19) rfl ?_); refine goesL_ (some 118) rfl rfl Tryd.func19 (by kernel_rfl) rfl #[.slice Ao114 t193.length co114, .slice Ao29 t183.length co29] rfl (by (try simp only [List.map_toArray, List.map_cons, List.map_nil]); first | done | rfl | (simp only [List.length_drop, List.length_take]; rfl)) ?_; (with_reducible refine (pinfoldlaw0_SameLeases.calls kj26 _ _ t193 _ _ t183 false _ ?side1 ?side2 ?side3 ?side4 A47.out).mono ?_); (case side1 => repeat (first | exact (Kd.R_reads' HO_15.out).2.2 | (with_reducible refine c1_ ?_ _) | (with_reducible refine c2_ ?_ _) | (with_reducible refine c3_ ?_))); (case side2 => exact (Kd.R_reads' HO_15.out).2.1); (case side3 => repeat (first | exact (Kd.R_reads' HO_11.out).2.2 | (with_reducible refine c1_ ?_ _) | (with_reducible refine c2_ ?_ _) | (with_reducible refine c3_ ?_))); (case side4 => exact (Kd.R_reads' HO_11.out).2.1); rintro e w' ⟨rfl, ⟨nd, rfl⟩⟩; refine ⟨_, rfl, ?_⟩) | (go_at_call 19; (with_reducible refine (pinfoldlaw0_SameLeases.calls kj26 _ _ t187 _ _ l1 true _ ?side1 ?side2 ?side3 ?side4 A109.out).mono ?_); (case side1 => repeat (first | exact (Kd.R_reads' HO_13.out).2.2 | (with_reducible refine c1_ ?_ _) | (with_reducible refine c2_ ?_ _) | (with_reducible refine c3_ ?_))); (case side2 => exact (Kd.R_reads' HO_13.out).2.1); (case side3 => repeat (first | exact (c4_ HR1.out (by repeat (with_reducible first | exact HB.out | apply p3_ | apply p1_ | apply p2_ | refine bs_ ?_ GE181.out))) | (with_reducible refine c1_ ?_ _) | (with_reducible refine c2_ ?_ _) | (with_reducible refine c3_ ?_))); (case side4 => exact HC1.out); rintro e w' ⟨rfl, ⟨nd, rfl⟩⟩) | (go_at_call 19; (with_reducible refine (pinfoldlaw0_SameLeases.calls kj26 _ _ t193 _ _ t183 true _ ?side1 ?side2 ?side3 ?side4 A111.out).mono ?_); (case side1 => repeat (first | exact (Kd.R_reads' HO_15.out).2.2 | (with_reducible refine c1_ ?_ _) | (with_reducible refine c2_ ?_ _) | (with_reducible refine c3_ ?_))); (case side2 => exact (Kd.R_reads' HO_15.out).2.1); (case side3 => repeat (first | exact (Kd.R_reads' HO_11.out).2.2 | (with_reducible refine c1_ ?_ _) | (with_reducible refine c2_ ?_ _) | (with_reducible refine c3_ ?_))); (case side4 => exact (Kd.R_reads' HO_11.out).2.1); rintro e w' ⟨rfl, ⟨nd, rfl⟩⟩; obtain ⟨Ao115, co115, eo115⟩ := Kd.R_slice HO_21.out; subst eo115) | (go_at_call 19; (with_reducible refine (pinfoldlaw0_SameLeases.calls kj26 _ _ t205 _ _ t187 t237 _ ?side1 ?side2 ?side3 ?side4 A113.out).mono ?_); (case side1 => repeat (first | exact (Kd.R_reads' HO_21.out).2.2 | (with_reducible refine c1_ ?_ _) | (with_reducible refine c2_ ?_ _) | (with_reducible refine c3_ ?_))); (case side2 => exact (Kd.R_reads' HO_21.out).2.1); (case side3 => repeat (first | exact (Kd.R_reads' HO_13.out).2.2 | (with_reducible refine c1_ ?_ _) | (with_reducible refine c2_ ?_ _) | (with_reducible refine c3_ ?_))); (case side4 => exact (Kd.R_reads' HO_13.out).2.1); rintro e w' ⟨rfl, ⟨nd, rfl⟩⟩))
        go_ret
        exact ⟨by first | rfl | (simp [errW_none, errW_some] <;> rfl) | (simp [*, errW_none, errW_some] <;> rfl), by repeat (with_reducible first | exact HB.out | apply p3_ | apply p1_ | apply p2_ | refine bs_ ?_ GE181.out)⟩
       replace c112 := e3_ c112
       subst c112
       have H1 : (none) = some r := by rw [if_neg (show ¬ (false = true) by decide)] at H; exact H
       clear H
       have H := H1
       clear H1
       exact absurd H (by simp)
      replace c110 := e3_ c110
      subst c110
      have H1 : (none) = some r := by rw [if_neg (show ¬ (false = true) by decide)] at H; exact H
      clear H
      have H := H1
      clear H1
      exact absurd H (by simp)
 replace c7 := e3_ c7
 subst c7
 have H1 : (none) = some r := by rw [if_neg (show ¬ (false = true) by decide)] at H; exact H
 clear H
 have H := H1
 clear H1
 exact absurd H (by simp)

/-- THE ONE PURE STATEMENT of pinfoldlaw18_DropTwice. -/
def pinfoldlaw18_DropTwice.Pure : Prop := ∀ (a0_0 : Int) (a0_1 : Int) (l0_2 : List Int) (l0_3 : List (S72)) (a0_4 : Int) (a0_5 : ByteArray) (l0_6 : List (S74)) (l1 : List (S42)) (a2 : Int) (a3 : ByteArray) (a4 : Int), (Lit.int .i64 a0_0).wf = true → (Lit.int .i64 a0_1).wf = true → (l0_2.length * Tryd.prog.bytesOf 3 ≤ 140737488351232 ∧ ∀ y0_ ∈ l0_2, (Lit.int .i64 y0_).wf = true) → (l0_3.length * Tryd.prog.bytesOf 72 ≤ 140737488351232 ∧ ∀ y0_ ∈ l0_3, (y0_.f0.size ≤ 140737488351232 ∧ (Lit.int .i64 y0_.f1).wf = true)) → (Lit.int .i64 a0_4).wf = true → a0_5.size ≤ 140737488351232 → (l0_6.length * Tryd.prog.bytesOf 74 ≤ 140737488351232 ∧ ∀ y0_ ∈ l0_6, (y0_.f0.size ≤ 140737488351232 ∧ ((Lit.int .i64 y0_.f1).wf = true ∧ ((Lit.int .i64 y0_.f2).wf = true ∧ ((Lit.int .i64 y0_.f3).wf = true ∧ (y0_.f4.size ≤ 140737488351232 ∧ (y0_.f5.size ≤ 140737488351232 ∧ (Lit.int .i64 y0_.f6).wf = true))))))) → (l1.length * Tryd.prog.bytesOf 42 ≤ 140737488351232 ∧ ∀ y0_ ∈ l1, ((Lit.int .i64 y0_.f0).wf = true ∧ ((Lit.int .i64 y0_.f1).wf = true ∧ (y0_.f2.size ≤ 140737488351232 ∧ ((Lit.int .i64 y0_.f3).wf = true ∧ (y0_.f4.size ≤ 140737488351232 ∧ True)))))) → (Lit.int .i64 a2).wf = true → a3.size ≤ 140737488351232 → (Lit.int .i64 a4).wf = true → ∃ k, pinfoldlaw18_DropTwice.f k a0_0 a0_1 l0_2 l0_3 a0_4 a0_5 l0_6 l1 a2 a3 a4 = some true
theorem pinfoldlaw18_DropTwice.walk (P : pinfoldlaw18_DropTwice.Pure) (a0_0 : Int) (a0_1 : Int) (A0_2 : Option Addr) (c0_2 : Nat) (l0_2 : List Int) (A0_3 : Option Addr) (c0_3 : Nat) (l0_3 : List (S72)) (a0_4 : Int) (a0_5 : ByteArray) (A0_6 : Option Addr) (c0_6 : Nat) (l0_6 : List (S74)) (A1 : Option Addr) (c1 : Nat) (l1 : List (S42)) (a2 : Int) (a3 : ByteArray) (a4 : Int) (w : World) (hr0_2 : Kd.C (Kd.int .i64) w A0_2 l0_2.length l0_2) (hc0_2 : l0_2.length ≤ c0_2) (hr0_3 : Kd.C k72 w A0_3 l0_3.length l0_3) (hc0_3 : l0_3.length ≤ c0_3) (hr0_6 : Kd.C k74 w A0_6 l0_6.length l0_6) (hc0_6 : l0_6.length ≤ c0_6) (hr1 : Kd.C k42 w A1 l1.length l1) (hc1 : l1.length ≤ c1) (w0_0 : (Lit.int .i64 a0_0).wf = true) (w0_1 : (Lit.int .i64 a0_1).wf = true) (w0_2 : (l0_2.length * Tryd.prog.bytesOf 3 ≤ 140737488351232 ∧ ∀ y0_ ∈ l0_2, (Lit.int .i64 y0_).wf = true)) (w0_3 : (l0_3.length * Tryd.prog.bytesOf 72 ≤ 140737488351232 ∧ ∀ y0_ ∈ l0_3, (y0_.f0.size ≤ 140737488351232 ∧ (Lit.int .i64 y0_.f1).wf = true))) (w0_4 : (Lit.int .i64 a0_4).wf = true) (w0_5 : a0_5.size ≤ 140737488351232) (w0_6 : (l0_6.length * Tryd.prog.bytesOf 74 ≤ 140737488351232 ∧ ∀ y0_ ∈ l0_6, (y0_.f0.size ≤ 140737488351232 ∧ ((Lit.int .i64 y0_.f1).wf = true ∧ ((Lit.int .i64 y0_.f2).wf = true ∧ ((Lit.int .i64 y0_.f3).wf = true ∧ (y0_.f4.size ≤ 140737488351232 ∧ (y0_.f5.size ≤ 140737488351232 ∧ (Lit.int .i64 y0_.f6).wf = true)))))))) (w1 : (l1.length * Tryd.prog.bytesOf 42 ≤ 140737488351232 ∧ ∀ y0_ ∈ l1, ((Lit.int .i64 y0_.f0).wf = true ∧ ((Lit.int .i64 y0_.f1).wf = true ∧ (y0_.f2.size ≤ 140737488351232 ∧ ((Lit.int .i64 y0_.f3).wf = true ∧ (y0_.f4.size ≤ 140737488351232 ∧ True))))))) (w2 : (Lit.int .i64 a2).wf = true) (w3 : a3.size ≤ 140737488351232) (w4 : (Lit.int .i64 a4).wf = true) :
  Calls Tryd.prog 7 #[.agg #[.int .i64 a0_0, .int .i64 a0_1, .slice A0_2 l0_2.length c0_2, .slice A0_3 l0_3.length c0_3, .int .i64 a0_4, .string a0_5, .slice A0_6 l0_6.length c0_6], .slice A1 l1.length c1, .int .i64 a2, .string a3, .int .i64 a4] w fun e w' => e = .returned (.bool true) ∧ Below w.heap.size w w' := by
 obtain ⟨k, h⟩ := P a0_0 a0_1 l0_2 l0_3 a0_4 a0_5 l0_6 l1 a2 a3 a4 w0_0 w0_1 w0_2 w0_3 w0_4 w0_5 w0_6 w1 w2 w3 w4
 refine (pinfoldlaw18_DropTwice.calls k a0_0 a0_1 _ _ l0_2 _ _ l0_3 a0_4 a0_5 _ _ l0_6 _ _ l1 a2 a3 a4 true w hr0_2 hc0_2 hr0_3 hc0_3 hr0_6 hc0_6 hr1 hc1 h).mono ?_
 rintro e w' ⟨rfl, hd⟩
 exact ⟨rfl, hd⟩

end Go.Proofs.YtmoobaehoccihaaDoor.PE
