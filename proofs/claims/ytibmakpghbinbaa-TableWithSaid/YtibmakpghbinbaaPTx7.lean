-- Made by wip/pr.py out of the translation (a turned copy of the kit's print; contracts by hand where said).
import Derived.Test.YtibmakpghbinbaaPTx0
import Derived.Test.YtibmakpghbinbaaPTx3
import Derived.Test.YtibmakpghbinbaaPTx5
import Derived.Test.YtibmakpghbinbaaPTx6
namespace Go.Proofs.Ytibmakpghbinbaa.PT
open Go.RowKit Go.Proofs.YtibmakpghbinbaaW.PrintWords Go.Proofs.YtibmakpghbinbaaW.PrintLast Go.Proofs.YtibmakpghbinbaaW.PrintMore
-- shrunk
attribute [local go_sem] max2_int min2_int max_two min_two max_three min_three max_four min_four   -- for this text's walks alone
set_option linter.unusedVariables false
set_option linter.unusedSimpArgs false

/-! ### pinfoldlaw13_TableWith: function 7 -/
mutual
def pinfoldlaw13_TableWith.j0 : Nat → List (S37) → List (S37) → Int → Bool → Int → Int → ByteArray → Int → ByteArray → Bool → Int → Int → ByteArray → Int → ByteArray → Bool → Option (Bool)
 | 0, _, _, _, _, _, _, _, _, _, _, _, _, _, _, _, _ => none
 | k + 1, x0, x11, x12, x51, x162000, x162001, x162002, x162003, x162004, x162005, x163000, x163001, x163002, x163003, x163004, x163005 => if x51 = true then (none) else ((table_With.f x0 x163000 x163001 x163002 x163003 x163004 x163005).bind fun bt179 => ((table_With.f bt179.1 x162000 x162001 x162002 x162003 x162004 x162005).bind fun bt183 => (if x162000 = x163000 then (pinfoldlaw13_TableWith.j1 k x11 bt179.2 bt183.1 bt183.2 true) else ((pinfoldlaw0_Num.f x12).bind fun t187 => (pinfoldlaw13_TableWith.j1 k x11 bt179.2 bt183.1 bt183.2 (t187 != 0))))))
def pinfoldlaw13_TableWith.j1 : Nat → List (S37) → Int → List (S37) → Int → Bool → Option (Bool)
 | 0, _, _, _, _, _ => none
 | k + 1, x11, x14, x15, x16, x73 => if x73 = true then (some true) else ((pinfoldlaw0_Num.f x14).bind fun t188 => (if t188 = 0 then ((pinfoldlaw0_Num.f x16).bind fun t189 => (if t189 = 0 then ((pinfoldlaw0_SameLeases.f k x11 x15).bind fun t190 => (some t190)) else (none))) else (none)))
end
def pinfoldlaw13_TableWith.f (k : Nat) (l0 : List (S37)) (a1_0 : Int) (a1_1 : Int) (a1_2 : ByteArray) (a1_3 : Int) (a1_4 : ByteArray) (a1_5 : Bool) (a2_0 : Int) (a2_1 : Int) (a2_2 : ByteArray) (a2_3 : Int) (a2_4 : ByteArray) (a2_5 : Bool) : Option (Bool) := (pinfoldlaw13_awake.f k).bind fun t163 => (if t163 = true then ((table_With.f l0 a1_0 a1_1 a1_2 a1_3 a1_4 a1_5).bind fun bt164 => ((pinfoldlaw0_Num.f bt164.2).bind fun t168 => (if t168 = 0 then ((table_With.f bt164.1 a1_0 a1_1 a1_2 a1_3 a1_4 a1_5).bind fun bt169 => ((table_With.f bt164.1 a2_0 a2_1 a2_2 a2_3 a2_4 a2_5).bind fun bt173 => ((pinfoldlaw0_Num.f bt169.2).bind fun t177 => (if t177 = 0 then ((pinfoldlaw0_SameLeases.f k bt164.1 bt169.1).bind fun t178 => (pinfoldlaw13_TableWith.j0 k l0 bt173.1 bt173.2 (!t178) a1_0 a1_1 a1_2 a1_3 a1_4 a1_5 a2_0 a2_1 a2_2 a2_3 a2_4 a2_5)) else (pinfoldlaw13_TableWith.j0 k l0 bt173.1 bt173.2 true a1_0 a1_1 a1_2 a1_3 a1_4 a1_5 a2_0 a2_1 a2_2 a2_3 a2_4 a2_5))))) else (some ((bt164.1.length : Int) == 0))))) else (none))
theorem pinfoldlaw13_TableWith.mono_l : ∀ k, (∀ y0 y1 y2 y3 y4 y5 y6 y7 y8 y9 y10 y11 y12 y13 y14 y15, LeO (pinfoldlaw13_TableWith.j0 k y0 y1 y2 y3 y4 y5 y6 y7 y8 y9 y10 y11 y12 y13 y14 y15) (pinfoldlaw13_TableWith.j0 (k + 1) y0 y1 y2 y3 y4 y5 y6 y7 y8 y9 y10 y11 y12 y13 y14 y15)) ∧ (∀ y0 y1 y2 y3 y4, LeO (pinfoldlaw13_TableWith.j1 k y0 y1 y2 y3 y4) (pinfoldlaw13_TableWith.j1 (k + 1) y0 y1 y2 y3 y4))
 | 0 => ⟨fun _ _ _ _ _ _ _ _ _ _ _ _ _ _ _ _ r h => by simp [pinfoldlaw13_TableWith.j0] at h, fun _ _ _ _ _ r h => by simp [pinfoldlaw13_TableWith.j1] at h⟩
 | k + 1 => by
  obtain ⟨ih0, ih1⟩ := pinfoldlaw13_TableWith.mono_l k
  refine ⟨?_, ?_⟩
  ·intro y0 y1 y2 y3 y4 y5 y6 y7 y8 y9 y10 y11 y12 y13 y14 y15
   unfold pinfoldlaw13_TableWith.j0
   repeat' first
   | (with_reducible exact ih0 _ _ _ _ _ _ _ _ _ _ _ _ _ _ _ _)
   | (with_reducible exact ih1 _ _ _ _ _)
   | (with_reducible exact pinfoldlaw0_SameLeases.mono _ _ _)
   | (with_reducible exact pinfoldlaw13_awake.mono _)
   | (with_reducible exact LeO.refl _)
   | (with_reducible exact LeO.none _)
   | (with_reducible refine LeO.ite ?_ ?_)
   | (with_reducible refine LeO.bind ?_ (fun _ => ?_))
   | exact ih0 _ _ _ _ _ _ _ _ _ _ _ _ _ _ _ _
   | exact ih1 _ _ _ _ _
   | exact pinfoldlaw0_SameLeases.mono _ _ _
   | exact pinfoldlaw13_awake.mono _
   | exact LeO.none _
   | refine LeO.ite ?_ ?_
   | refine LeO.bind ?_ (fun _ => ?_)
  ·intro y0 y1 y2 y3 y4
   unfold pinfoldlaw13_TableWith.j1
   repeat' first
   | (with_reducible exact ih0 _ _ _ _ _ _ _ _ _ _ _ _ _ _ _ _)
   | (with_reducible exact ih1 _ _ _ _ _)
   | (with_reducible exact pinfoldlaw0_SameLeases.mono _ _ _)
   | (with_reducible exact pinfoldlaw13_awake.mono _)
   | (with_reducible exact LeO.refl _)
   | (with_reducible exact LeO.none _)
   | (with_reducible refine LeO.ite ?_ ?_)
   | (with_reducible refine LeO.bind ?_ (fun _ => ?_))
   | exact ih0 _ _ _ _ _ _ _ _ _ _ _ _ _ _ _ _
   | exact ih1 _ _ _ _ _
   | exact pinfoldlaw0_SameLeases.mono _ _ _
   | exact pinfoldlaw13_awake.mono _
   | exact LeO.none _
   | refine LeO.ite ?_ ?_
   | refine LeO.bind ?_ (fun _ => ?_)
theorem pinfoldlaw13_TableWith.mono : ∀ a0 a1 a2 a3 a4 a5 a6 a7 a8 a9 a10 a11 a12 k, LeO (pinfoldlaw13_TableWith.f k a0 a1 a2 a3 a4 a5 a6 a7 a8 a9 a10 a11 a12) (pinfoldlaw13_TableWith.f (k + 1) a0 a1 a2 a3 a4 a5 a6 a7 a8 a9 a10 a11 a12) := by
 intro a0 a1 a2 a3 a4 a5 a6 a7 a8 a9 a10 a11 a12 k
 obtain ⟨ih0, ih1⟩ := pinfoldlaw13_TableWith.mono_l k
 unfold pinfoldlaw13_TableWith.f
 repeat' first
   | (with_reducible exact ih0 _ _ _ _ _ _ _ _ _ _ _ _ _ _ _ _)
   | (with_reducible exact ih1 _ _ _ _ _)
   | (with_reducible exact pinfoldlaw0_SameLeases.mono _ _ _)
   | (with_reducible exact pinfoldlaw13_awake.mono _)
   | (with_reducible exact LeO.refl _)
   | (with_reducible exact LeO.none _)
   | (with_reducible refine LeO.ite ?_ ?_)
   | (with_reducible refine LeO.bind ?_ (fun _ => ?_))
   | exact ih0 _ _ _ _ _ _ _ _ _ _ _ _ _ _ _ _
   | exact ih1 _ _ _ _ _
   | exact pinfoldlaw0_SameLeases.mono _ _ _
   | exact pinfoldlaw13_awake.mono _
   | exact LeO.none _
   | refine LeO.ite ?_ ?_
   | refine LeO.bind ?_ (fun _ => ?_)
set_option maxHeartbeats 8000000 in
set_option maxRecDepth 100000 in
theorem pinfoldlaw13_TableWith.calls (k : Nat) (A0 : Option Addr) (c0 : Nat) (l0 : List (S37)) (a1_0 : Int) (a1_1 : Int) (a1_2 : ByteArray) (a1_3 : Int) (a1_4 : ByteArray) (a1_5 : Bool) (a2_0 : Int) (a2_1 : Int) (a2_2 : ByteArray) (a2_3 : Int) (a2_4 : ByteArray) (a2_5 : Bool) (r : Bool) (w : World) (hr0 : Kd.C k37 w A0 l0.length l0) (hc0 : l0.length ≤ c0) (h : pinfoldlaw13_TableWith.f k l0 a1_0 a1_1 a1_2 a1_3 a1_4 a1_5 a2_0 a2_1 a2_2 a2_3 a2_4 a2_5 = some r) :
  Calls Try.prog 7 #[.slice A0 l0.length c0, .agg #[.int .i64 a1_0, .int .i64 a1_1, .string a1_2, .int .i64 a1_3, .string a1_4, .bool a1_5], .agg #[.int .i64 a2_0, .int .i64 a2_1, .string a2_2, .int .i64 a2_3, .string a2_4, .bool a2_5]] w fun e w' => e = .returned (.bool r) ∧ Below w.heap.size w w' := by
 have hu37 := Try.underlying37
 have HR0 := am_ hr0
 have HC0 := am_ hc0
 clear hr0 hc0
 have HB := am_ (Below.refl w.heap.size w)
 have H : ((pinfoldlaw13_awake.f k).bind fun t163 => (if t163 = true then ((table_With.f l0 a1_0 a1_1 a1_2 a1_3 a1_4 a1_5).bind fun bt164 => ((pinfoldlaw0_Num.f bt164.2).bind fun t168 => (if t168 = 0 then ((table_With.f bt164.1 a1_0 a1_1 a1_2 a1_3 a1_4 a1_5).bind fun bt169 => ((table_With.f bt164.1 a2_0 a2_1 a2_2 a2_3 a2_4 a2_5).bind fun bt173 => ((pinfoldlaw0_Num.f bt169.2).bind fun t177 => (if t177 = 0 then ((pinfoldlaw0_SameLeases.f k bt164.1 bt169.1).bind fun t178 => (pinfoldlaw13_TableWith.j0 k l0 bt173.1 bt173.2 (!t178) a1_0 a1_1 a1_2 a1_3 a1_4 a1_5 a2_0 a2_1 a2_2 a2_3 a2_4 a2_5)) else (pinfoldlaw13_TableWith.j0 k l0 bt173.1 bt173.2 true a1_0 a1_1 a1_2 a1_3 a1_4 a1_5 a2_0 a2_1 a2_2 a2_3 a2_4 a2_5))))) else (some ((bt164.1.length : Int) == 0))))) else (none))) = some r := h
 clear h
 replace H := e4_ H
 obtain ⟨t163, A40, H⟩ := H
 replace H : (if t163 = true then ((table_With.f l0 a1_0 a1_1 a1_2 a1_3 a1_4 a1_5).bind fun bt164 => ((pinfoldlaw0_Num.f bt164.2).bind fun t168 => (if t168 = 0 then ((table_With.f bt164.1 a1_0 a1_1 a1_2 a1_3 a1_4 a1_5).bind fun bt169 => ((table_With.f bt164.1 a2_0 a2_1 a2_2 a2_3 a2_4 a2_5).bind fun bt173 => ((pinfoldlaw0_Num.f bt169.2).bind fun t177 => (if t177 = 0 then ((pinfoldlaw0_SameLeases.f k bt164.1 bt169.1).bind fun t178 => (pinfoldlaw13_TableWith.j0 k l0 bt173.1 bt173.2 (!t178) a1_0 a1_1 a1_2 a1_3 a1_4 a1_5 a2_0 a2_1 a2_2 a2_3 a2_4 a2_5)) else (pinfoldlaw13_TableWith.j0 k l0 bt173.1 bt173.2 true a1_0 a1_1 a1_2 a1_3 a1_4 a1_5 a2_0 a2_1 a2_2 a2_3 a2_4 a2_5))))) else (some ((bt164.1.length : Int) == 0))))) else (none)) = some r := H
 have A4 := am_ A40
 clear A40
 by_cases c5 : t163 = true
 ·subst c5
  have H1 : ((table_With.f l0 a1_0 a1_1 a1_2 a1_3 a1_4 a1_5).bind fun bt164 => ((pinfoldlaw0_Num.f bt164.2).bind fun t168 => (if t168 = 0 then ((table_With.f bt164.1 a1_0 a1_1 a1_2 a1_3 a1_4 a1_5).bind fun bt169 => ((table_With.f bt164.1 a2_0 a2_1 a2_2 a2_3 a2_4 a2_5).bind fun bt173 => ((pinfoldlaw0_Num.f bt169.2).bind fun t177 => (if t177 = 0 then ((pinfoldlaw0_SameLeases.f k bt164.1 bt169.1).bind fun t178 => (pinfoldlaw13_TableWith.j0 k l0 bt173.1 bt173.2 (!t178) a1_0 a1_1 a1_2 a1_3 a1_4 a1_5 a2_0 a2_1 a2_2 a2_3 a2_4 a2_5)) else (pinfoldlaw13_TableWith.j0 k l0 bt173.1 bt173.2 true a1_0 a1_1 a1_2 a1_3 a1_4 a1_5 a2_0 a2_1 a2_2 a2_3 a2_4 a2_5))))) else (some ((bt164.1.length : Int) == 0))))) = some r := by rw [if_pos rfl] at H; exact H
  clear H
  have H := H1
  clear H1
  replace H := e4_ H
  obtain ⟨⟨t164, t167⟩, A60, H⟩ := H
  replace H : ((pinfoldlaw0_Num.f t167).bind fun t168 => (if t168 = 0 then ((table_With.f t164 a1_0 a1_1 a1_2 a1_3 a1_4 a1_5).bind fun bt169 => ((table_With.f t164 a2_0 a2_1 a2_2 a2_3 a2_4 a2_5).bind fun bt173 => ((pinfoldlaw0_Num.f bt169.2).bind fun t177 => (if t177 = 0 then ((pinfoldlaw0_SameLeases.f k t164 bt169.1).bind fun t178 => (pinfoldlaw13_TableWith.j0 k l0 bt173.1 bt173.2 (!t178) a1_0 a1_1 a1_2 a1_3 a1_4 a1_5 a2_0 a2_1 a2_2 a2_3 a2_4 a2_5)) else (pinfoldlaw13_TableWith.j0 k l0 bt173.1 bt173.2 true a1_0 a1_1 a1_2 a1_3 a1_4 a1_5 a2_0 a2_1 a2_2 a2_3 a2_4 a2_5))))) else (some ((t164.length : Int) == 0)))) = some r := H
  have A6 := am_ A60
  clear A60
  replace H := e4_ H
  obtain ⟨t168, A70, H⟩ := H
  replace H : (if t168 = 0 then ((table_With.f t164 a1_0 a1_1 a1_2 a1_3 a1_4 a1_5).bind fun bt169 => ((table_With.f t164 a2_0 a2_1 a2_2 a2_3 a2_4 a2_5).bind fun bt173 => ((pinfoldlaw0_Num.f bt169.2).bind fun t177 => (if t177 = 0 then ((pinfoldlaw0_SameLeases.f k t164 bt169.1).bind fun t178 => (pinfoldlaw13_TableWith.j0 k l0 bt173.1 bt173.2 (!t178) a1_0 a1_1 a1_2 a1_3 a1_4 a1_5 a2_0 a2_1 a2_2 a2_3 a2_4 a2_5)) else (pinfoldlaw13_TableWith.j0 k l0 bt173.1 bt173.2 true a1_0 a1_1 a1_2 a1_3 a1_4 a1_5 a2_0 a2_1 a2_2 a2_3 a2_4 a2_5))))) else (some ((t164.length : Int) == 0))) = some r := H
  have A7 := am_ A70
  clear A70
  by_cases c8 : t168 = 0
  ·rw [if_pos c8] at H
   have c8b0 : (t168 == 0) = true := beq_iff_eq.mpr c8
   have c8b1 : (t168 != 0) = false := e1_ c8
   clear c8
   replace H := e4_ H
   obtain ⟨⟨t169, t172⟩, A90, H⟩ := H
   replace H : ((table_With.f t164 a2_0 a2_1 a2_2 a2_3 a2_4 a2_5).bind fun bt173 => ((pinfoldlaw0_Num.f t172).bind fun t177 => (if t177 = 0 then ((pinfoldlaw0_SameLeases.f k t164 t169).bind fun t178 => (pinfoldlaw13_TableWith.j0 k l0 bt173.1 bt173.2 (!t178) a1_0 a1_1 a1_2 a1_3 a1_4 a1_5 a2_0 a2_1 a2_2 a2_3 a2_4 a2_5)) else (pinfoldlaw13_TableWith.j0 k l0 bt173.1 bt173.2 true a1_0 a1_1 a1_2 a1_3 a1_4 a1_5 a2_0 a2_1 a2_2 a2_3 a2_4 a2_5)))) = some r := H
   have A9 := am_ A90
   clear A90
   replace H := e4_ H
   obtain ⟨⟨t173, t176⟩, A100, H⟩ := H
   replace H : ((pinfoldlaw0_Num.f t172).bind fun t177 => (if t177 = 0 then ((pinfoldlaw0_SameLeases.f k t164 t169).bind fun t178 => (pinfoldlaw13_TableWith.j0 k l0 t173 t176 (!t178) a1_0 a1_1 a1_2 a1_3 a1_4 a1_5 a2_0 a2_1 a2_2 a2_3 a2_4 a2_5)) else (pinfoldlaw13_TableWith.j0 k l0 t173 t176 true a1_0 a1_1 a1_2 a1_3 a1_4 a1_5 a2_0 a2_1 a2_2 a2_3 a2_4 a2_5))) = some r := H
   have A10 := am_ A100
   clear A100
   have HC11 := am_ H
   clear H
   go_enter Try.func7, Try.ntmps7
   go_upto_region 8 with (first | ((with_reducible refine gate_dst (N := 4) rfl ?_); refine box_event ?hg (N := 4) ?hd (cs := #[.int .i64 a1_0, .int .i64 a1_1, .string a1_2, .int .i64 a1_3, .string a1_4, .bool a1_5]) (t := 37) ?hr ?_; (case hd => rfl); (case hg => rfl); (case hr => first | (go_simp; done) | (go_simp; rfl)); intro gb161 hg w12 hbox hb; have n0_ := am_ (bt_ (by repeat (with_reducible first | exact HB.out | apply p3_ | apply p1_ | apply p2_)) hb); have n1_ := am_ (hbox); have n2_ := am_ ((by rw [hg]; exact (bz_ (by repeat (with_reducible first | exact HB.out | apply p3_ | apply p1_ | apply p2_))) : w.heap.size ≤ gb161)); have n3_ := am_ ((by rw [hg]; exact (bz_ (by repeat (with_reducible first | exact HB.out | apply p3_ | apply p1_ | apply p2_))) : w.heap.size ≤ gb161)); clear HB; have HB := n0_; have BK161 := n1_; have GW161 := n2_; have GE161 := n3_; clear n0_ n1_ n2_ n3_; clear hb hbox hg) | ((with_reducible refine gate_dst (N := 5) rfl ?_); refine box_event ?hg (N := 5) ?hd (cs := #[.int .i64 a2_0, .int .i64 a2_1, .string a2_2, .int .i64 a2_3, .string a2_4, .bool a2_5]) (t := 37) ?hr ?_; (case hd => rfl); (case hg => rfl); (case hr => first | (go_simp; done) | (go_simp; rfl)); intro gb162 hg w13 hbox hb; have n0_ := am_ (kb_ (g := gb161) (o := .cells #[.int .i64 a1_0, .int .i64 a1_1, .string a1_2, .int .i64 a1_3, .string a1_4, .bool a1_5] 37 (0, 0)) (by (with_reducible repeat (first | refine k2_ ?_ _ | refine k3_ ?_ | refine k1_ ?_ _)); exact BK161.out) hb); have n1_ := am_ (bt_ (by repeat (with_reducible first | exact HB.out | apply p3_ | apply p1_ | apply p2_ | refine bs_ ?_ GE161.out)) hb); have n2_ := am_ (hbox); have n3_ := am_ ((by rw [hg]; exact (bz_ (by repeat (with_reducible first | exact HB.out | apply p3_ | apply p1_ | apply p2_ | refine bs_ ?_ GE161.out))) : w.heap.size ≤ gb162)); have n4_ := am_ ((by rw [hg]; exact (bz_ (by repeat (with_reducible first | exact HB.out | apply p3_ | apply p1_ | apply p2_ | refine bs_ ?_ GE161.out))) : w.heap.size ≤ gb162)); have n5_ := am_ ((by rw [hg]; exact Nat.ne_of_lt (blk_lt (g := gb161) (o := .cells #[.int .i64 a1_0, .int .i64 a1_1, .string a1_2, .int .i64 a1_3, .string a1_4, .bool a1_5] 37 (0, 0)) (by (with_reducible repeat (first | refine k2_ ?_ _ | refine k3_ ?_ | refine k1_ ?_ _)); exact BK161.out)) : gb161 ≠ gb162)); have n6_ := am_ ((by rw [hg]; exact Nat.ne_of_gt (blk_lt (g := gb161) (o := .cells #[.int .i64 a1_0, .int .i64 a1_1, .string a1_2, .int .i64 a1_3, .string a1_4, .bool a1_5] 37 (0, 0)) (by (with_reducible repeat (first | refine k2_ ?_ _ | refine k3_ ?_ | refine k1_ ?_ _)); exact BK161.out)) : gb162 ≠ gb161)); clear BK161; clear HB; have BK161 := n0_; have HB := n1_; have BK162 := n2_; have GW162 := n3_; have GE162 := n4_; have NB161_162 := n5_; have NB162_161 := n6_; clear n0_ n1_ n2_ n3_ n4_ n5_ n6_; clear hb hbox hg) | ((with_reducible refine gate_callee (f := 29) rfl ?_); refine goesL_ (some 17) rfl rfl Try.func29 (by kernel_rfl) rfl #[] rfl (by (try simp only [List.map_toArray, List.map_cons, List.map_nil]); first | done | rfl | (simp only [List.length_drop, List.length_take]; rfl)) ?_; (with_reducible refine (pinfoldlaw13_awake.calls k  true _ A4.out).mono ?_); rintro e w14 ⟨rfl, hb⟩; refine ⟨_, rfl, ?_⟩; have n0_ := am_ (kb_ (g := gb161) (o := .cells #[.int .i64 a1_0, .int .i64 a1_1, .string a1_2, .int .i64 a1_3, .string a1_4, .bool a1_5] 37 (0, 0)) (by (with_reducible repeat (first | refine k2_ ?_ _ | refine k3_ ?_ | refine k1_ ?_ _)); exact BK161.out) hb); have n1_ := am_ (kb_ (g := gb162) (o := .cells #[.int .i64 a2_0, .int .i64 a2_1, .string a2_2, .int .i64 a2_3, .string a2_4, .bool a2_5] 37 (0, 0)) (by (with_reducible repeat (first | refine k2_ ?_ _ | refine k3_ ?_ | refine k1_ ?_ _)); exact BK162.out) hb); have n2_ := am_ (bt_ (by repeat (with_reducible first | exact HB.out | apply p3_ | apply p1_ | apply p2_ | refine bs_ ?_ GE161.out | refine bs_ ?_ GE162.out)) hb); clear BK161; clear BK162; clear HB; have BK161 := n0_; have BK162 := n1_; have HB := n2_; clear n0_ n1_ n2_; (try clear hb); have hnb15 := NB161_162.out; have hnc15 := NB162_161.out; have hcz16_0 : w14.cell? ⟨gb161, 0, none⟩ = some (.int .i64 a1_0) := (bc_ BK161.out 0).trans rfl; have hcz16_1 : w14.cell? ⟨gb161, 1, none⟩ = some (.int .i64 a1_1) := (bc_ BK161.out 1).trans rfl; have hcz16_2 : w14.cell? ⟨gb161, 2, none⟩ = some (.string a1_2) := (bc_ BK161.out 2).trans rfl; have hcz16_3 : w14.cell? ⟨gb161, 3, none⟩ = some (.int .i64 a1_3) := (bc_ BK161.out 3).trans rfl; have hcz16_4 : w14.cell? ⟨gb161, 4, none⟩ = some (.string a1_4) := (bc_ BK161.out 4).trans rfl; have hcz16_5 : w14.cell? ⟨gb161, 5, none⟩ = some (.bool a1_5) := (bc_ BK161.out 5).trans rfl; have hfz16_0 := bf_ BK161.out 0; have hfz16_1 := bf_ BK161.out 1; have hfz16_2 := bf_ BK161.out 2; have hfz16_3 := bf_ BK161.out 3; have hfz16_4 := bf_ BK161.out 4; have hfz16_5 := bf_ BK161.out 5) | ((with_reducible refine gate_callee (f := 18) rfl ?_); refine goesL_ (some 22) rfl rfl Try.func18 (by kernel_rfl) rfl #[.slice A0 l0.length c0, .agg #[.int .i64 a1_0, .int .i64 a1_1, .string a1_2, .int .i64 a1_3, .string a1_4, .bool a1_5]] rfl (by (try simp only [List.map_toArray, List.map_cons, List.map_nil]); first | done | rfl | (simp only [List.length_drop, List.length_take]; rfl)) ?_; (with_reducible refine (table_With.calls _ _ l0 a1_0 a1_1 a1_2 a1_3 a1_4 a1_5 t164 t167 _ ?side1 ?side2 A6.out).mono ?_); (case side1 => repeat (first | exact (c4_ HR0.out HB.out) | (with_reducible refine c1_ ?_ _) | (with_reducible refine c2_ ?_ _) | (with_reducible refine c3_ ?_))); (case side2 => exact HC0.out); rintro e w17 ⟨v165, rfl, ho0, hb⟩; refine ⟨_, rfl, ?_⟩; have n0_ := am_ (Kd.R_lower (Kd.R_newB (Kd.R_newB ho0 (g := gb161) (o := .cells #[.int .i64 a1_0, .int .i64 a1_1, .string a1_2, .int .i64 a1_3, .string a1_4, .bool a1_5] 37 (0, 0)) (by (with_reducible repeat (first | refine k2_ ?_ _ | refine k3_ ?_ | refine k1_ ?_ _)); exact BK161.out)) (g := gb162) (o := .cells #[.int .i64 a2_0, .int .i64 a2_1, .string a2_2, .int .i64 a2_3, .string a2_4, .bool a2_5] 37 (0, 0)) (by (with_reducible repeat (first | refine k2_ ?_ _ | refine k3_ ?_ | refine k1_ ?_ _)); exact BK162.out)) (bz_ (by repeat (with_reducible first | exact HB.out | apply p3_ | apply p1_ | apply p2_ | refine bs_ ?_ GE161.out | refine bs_ ?_ GE162.out)))); have n1_ := am_ (kb_ (g := gb161) (o := .cells #[.int .i64 a1_0, .int .i64 a1_1, .string a1_2, .int .i64 a1_3, .string a1_4, .bool a1_5] 37 (0, 0)) (by (with_reducible repeat (first | refine k2_ ?_ _ | refine k3_ ?_ | refine k1_ ?_ _)); exact BK161.out) hb); have n2_ := am_ (kb_ (g := gb162) (o := .cells #[.int .i64 a2_0, .int .i64 a2_1, .string a2_2, .int .i64 a2_3, .string a2_4, .bool a2_5] 37 (0, 0)) (by (with_reducible repeat (first | refine k2_ ?_ _ | refine k3_ ?_ | refine k1_ ?_ _)); exact BK162.out) hb); have n3_ := am_ (bt_ (by repeat (with_reducible first | exact HB.out | apply p3_ | apply p1_ | apply p2_ | refine bs_ ?_ GE161.out | refine bs_ ?_ GE162.out)) hb); clear BK161; clear BK162; clear HB; have HO166 := n0_; have BK161 := n1_; have BK162 := n2_; have HB := n3_; clear n0_ n1_ n2_ n3_; (try clear hb); (try clear ho0)) | ((with_reducible refine gate_callee (f := 16) rfl ?_); refine goesL_ (some 26) rfl rfl Try.func16 (by kernel_rfl) rfl #[.int .i64 t167] rfl (by (try simp only [List.map_toArray, List.map_cons, List.map_nil]); first | done | rfl | (simp only [List.length_drop, List.length_take]; rfl)) ?_; (with_reducible refine (pinfoldlaw0_Num.calls t167 t168 _ A7.out).mono ?_); rintro e w' ⟨rfl, ⟨nd, rfl⟩⟩; refine ⟨_, rfl, ?_⟩; have hcz18_0 : w17.cell? ⟨gb161, 0, none⟩ = some (.int .i64 a1_0) := (bc_ BK161.out 0).trans rfl; have hcz18_1 : w17.cell? ⟨gb161, 1, none⟩ = some (.int .i64 a1_1) := (bc_ BK161.out 1).trans rfl; have hcz18_2 : w17.cell? ⟨gb161, 2, none⟩ = some (.string a1_2) := (bc_ BK161.out 2).trans rfl; have hcz18_3 : w17.cell? ⟨gb161, 3, none⟩ = some (.int .i64 a1_3) := (bc_ BK161.out 3).trans rfl; have hcz18_4 : w17.cell? ⟨gb161, 4, none⟩ = some (.string a1_4) := (bc_ BK161.out 4).trans rfl; have hcz18_5 : w17.cell? ⟨gb161, 5, none⟩ = some (.bool a1_5) := (bc_ BK161.out 5).trans rfl; have hfz18_0 := bf_ BK161.out 0; have hfz18_1 := bf_ BK161.out 1; have hfz18_2 := bf_ BK161.out 2; have hfz18_3 := bf_ BK161.out 3; have hfz18_4 := bf_ BK161.out 4; have hfz18_5 := bf_ BK161.out 5; obtain ⟨Ao19, co19, eo19⟩ := Kd.R_slice HO166.out; subst eo19) | ((with_reducible refine gate_callee (f := 18) rfl ?_); refine goesL_ (some 34) rfl rfl Try.func18 (by kernel_rfl) rfl #[.slice Ao19 t164.length co19, .agg #[.int .i64 a1_0, .int .i64 a1_1, .string a1_2, .int .i64 a1_3, .string a1_4, .bool a1_5]] rfl (by (try simp only [List.map_toArray, List.map_cons, List.map_nil]); first | done | rfl | (simp only [List.length_drop, List.length_take]; rfl)) ?_; (with_reducible refine (table_With.calls _ _ t164 a1_0 a1_1 a1_2 a1_3 a1_4 a1_5 t169 t172 _ ?side1 ?side2 A9.out).mono ?_); (case side1 => repeat (first | exact (Kd.R_reads' HO166.out).2.2 | (with_reducible refine c1_ ?_ _) | (with_reducible refine c2_ ?_ _) | (with_reducible refine c3_ ?_))); (case side2 => exact (Kd.R_reads' HO166.out).2.1); rintro e w20 ⟨v170, rfl, ho0, hb⟩; refine ⟨_, rfl, ?_⟩; have n0_ := am_ (r5_ (by (with_reducible repeat (first | apply r1_ | apply r2_ | apply r3_)); exact HO166.out) (r4_ ho0) hb); have n1_ := am_ (Kd.R_lower (Kd.R_newB (Kd.R_newB (Kd.R_new' ho0 (Kd.R_lt (by (with_reducible repeat (first | apply r1_ | apply r2_ | apply r3_)); exact HO166.out))) (g := gb161) (o := .cells #[.int .i64 a1_0, .int .i64 a1_1, .string a1_2, .int .i64 a1_3, .string a1_4, .bool a1_5] 37 (0, 0)) (by (with_reducible repeat (first | refine k2_ ?_ _ | refine k3_ ?_ | refine k1_ ?_ _)); exact BK161.out)) (g := gb162) (o := .cells #[.int .i64 a2_0, .int .i64 a2_1, .string a2_2, .int .i64 a2_3, .string a2_4, .bool a2_5] 37 (0, 0)) (by (with_reducible repeat (first | refine k2_ ?_ _ | refine k3_ ?_ | refine k1_ ?_ _)); exact BK162.out)) (bz_ (by repeat (with_reducible first | exact HB.out | apply p3_ | apply p1_ | apply p2_ | refine bs_ ?_ GE161.out | refine bs_ ?_ GE162.out)))); have n2_ := am_ (kb_ (g := gb161) (o := .cells #[.int .i64 a1_0, .int .i64 a1_1, .string a1_2, .int .i64 a1_3, .string a1_4, .bool a1_5] 37 (0, 0)) (by (with_reducible repeat (first | refine k2_ ?_ _ | refine k3_ ?_ | refine k1_ ?_ _)); exact BK161.out) hb); have n3_ := am_ (kb_ (g := gb162) (o := .cells #[.int .i64 a2_0, .int .i64 a2_1, .string a2_2, .int .i64 a2_3, .string a2_4, .bool a2_5] 37 (0, 0)) (by (with_reducible repeat (first | refine k2_ ?_ _ | refine k3_ ?_ | refine k1_ ?_ _)); exact BK162.out) hb); have n4_ := am_ (bt_ (by repeat (with_reducible first | exact HB.out | apply p3_ | apply p1_ | apply p2_ | refine bs_ ?_ GE161.out | refine bs_ ?_ GE162.out)) hb); clear HO166; clear BK161; clear BK162; clear HB; have HO166 := n0_; have HO171 := n1_; have BK161 := n2_; have BK162 := n3_; have HB := n4_; clear n0_ n1_ n2_ n3_ n4_; (try clear hb); (try clear ho0); have hcz21_0 : w20.cell? ⟨gb162, 0, none⟩ = some (.int .i64 a2_0) := (bc_ BK162.out 0).trans rfl; have hcz21_1 : w20.cell? ⟨gb162, 1, none⟩ = some (.int .i64 a2_1) := (bc_ BK162.out 1).trans rfl; have hcz21_2 : w20.cell? ⟨gb162, 2, none⟩ = some (.string a2_2) := (bc_ BK162.out 2).trans rfl; have hcz21_3 : w20.cell? ⟨gb162, 3, none⟩ = some (.int .i64 a2_3) := (bc_ BK162.out 3).trans rfl; have hcz21_4 : w20.cell? ⟨gb162, 4, none⟩ = some (.string a2_4) := (bc_ BK162.out 4).trans rfl; have hcz21_5 : w20.cell? ⟨gb162, 5, none⟩ = some (.bool a2_5) := (bc_ BK162.out 5).trans rfl; have hfz21_0 := bf_ BK162.out 0; have hfz21_1 := bf_ BK162.out 1; have hfz21_2 := bf_ BK162.out 2; have hfz21_3 := bf_ BK162.out 3; have hfz21_4 := bf_ BK162.out 4; have hfz21_5 := bf_ BK162.out 5) | ((with_reducible refine gate_callee (f := 18) rfl ?_); refine goesL_ (some 40) rfl rfl Try.func18 (by kernel_rfl) rfl #[.slice Ao19 t164.length co19, .agg #[.int .i64 a2_0, .int .i64 a2_1, .string a2_2, .int .i64 a2_3, .string a2_4, .bool a2_5]] rfl (by (try simp only [List.map_toArray, List.map_cons, List.map_nil]); first | done | rfl | (simp only [List.length_drop, List.length_take]; rfl)) ?_; (with_reducible refine (table_With.calls _ _ t164 a2_0 a2_1 a2_2 a2_3 a2_4 a2_5 t173 t176 _ ?side1 ?side2 A10.out).mono ?_); (case side1 => repeat (first | exact (Kd.R_reads' HO166.out).2.2 | (with_reducible refine c1_ ?_ _) | (with_reducible refine c2_ ?_ _) | (with_reducible refine c3_ ?_))); (case side2 => exact (Kd.R_reads' HO166.out).2.1); rintro e w22 ⟨v174, rfl, ho0, hb⟩; refine ⟨_, rfl, ?_⟩; have n0_ := am_ (r5_ (by (with_reducible repeat (first | apply r1_ | apply r2_ | apply r3_)); exact HO166.out) (r4_ ho0) hb); have n1_ := am_ (r5_ (by (with_reducible repeat (first | apply r1_ | apply r2_ | apply r3_)); exact HO171.out) (r4_ ho0) hb); have n2_ := am_ (Kd.R_lower (Kd.R_newB (Kd.R_newB (Kd.R_new' (Kd.R_new' ho0 (Kd.R_lt (by (with_reducible repeat (first | apply r1_ | apply r2_ | apply r3_)); exact HO166.out))) (Kd.R_lt (by (with_reducible repeat (first | apply r1_ | apply r2_ | apply r3_)); exact HO171.out))) (g := gb161) (o := .cells #[.int .i64 a1_0, .int .i64 a1_1, .string a1_2, .int .i64 a1_3, .string a1_4, .bool a1_5] 37 (0, 0)) (by (with_reducible repeat (first | refine k2_ ?_ _ | refine k3_ ?_ | refine k1_ ?_ _)); exact BK161.out)) (g := gb162) (o := .cells #[.int .i64 a2_0, .int .i64 a2_1, .string a2_2, .int .i64 a2_3, .string a2_4, .bool a2_5] 37 (0, 0)) (by (with_reducible repeat (first | refine k2_ ?_ _ | refine k3_ ?_ | refine k1_ ?_ _)); exact BK162.out)) (bz_ (by repeat (with_reducible first | exact HB.out | apply p3_ | apply p1_ | apply p2_ | refine bs_ ?_ GE161.out | refine bs_ ?_ GE162.out)))); have n3_ := am_ (kb_ (g := gb161) (o := .cells #[.int .i64 a1_0, .int .i64 a1_1, .string a1_2, .int .i64 a1_3, .string a1_4, .bool a1_5] 37 (0, 0)) (by (with_reducible repeat (first | refine k2_ ?_ _ | refine k3_ ?_ | refine k1_ ?_ _)); exact BK161.out) hb); have n4_ := am_ (kb_ (g := gb162) (o := .cells #[.int .i64 a2_0, .int .i64 a2_1, .string a2_2, .int .i64 a2_3, .string a2_4, .bool a2_5] 37 (0, 0)) (by (with_reducible repeat (first | refine k2_ ?_ _ | refine k3_ ?_ | refine k1_ ?_ _)); exact BK162.out) hb); have n5_ := am_ (bt_ (by repeat (with_reducible first | exact HB.out | apply p3_ | apply p1_ | apply p2_ | refine bs_ ?_ GE161.out | refine bs_ ?_ GE162.out)) hb); clear HO166; clear HO171; clear BK161; clear BK162; clear HB; have HO166 := n0_; have HO171 := n1_; have HO175 := n2_; have BK161 := n3_; have BK162 := n4_; have HB := n5_; clear n0_ n1_ n2_ n3_ n4_ n5_; (try clear hb); (try clear ho0)))
   (try simp only [Act.put, sa_, sb_, sc_])
   go_cut [51] (fun v51 wc => ∃ (kq : Nat) (x51_10 : Bool), v51 = .bool x51_10 ∧ Aside0 (pinfoldlaw13_TableWith.j0 kq l0 t173 t176 x51_10 a1_0 a1_1 a1_2 a1_3 a1_4 a1_5 a2_0 a2_1 a2_2 a2_3 a2_4 a2_5 = some r) ∧ Aside0 (kq ≤ k) ∧ Aside0 (Kd.R k37 37 wc w.heap.size (fun k_ => k_ ≠ gb161 ∧ k_ ≠ gb162) v174 t173) ∧ Aside0 (wc.heap[gb161]? = some (.cells #[.int .i64 a1_0, .int .i64 a1_1, .string a1_2, .int .i64 a1_3, .string a1_4, .bool a1_5] 37 (0, 0))) ∧ Aside0 (wc.heap[gb162]? = some (.cells #[.int .i64 a2_0, .int .i64 a2_1, .string a2_2, .int .i64 a2_3, .string a2_4, .bool a2_5] 37 (0, 0))) ∧ Aside0 (Below w.heap.size w wc))
   case first =>
    have H := HC11.out
    clear HC11
    replace H := e4_ H
    obtain ⟨t177, A230, H⟩ := H
    replace H : (if t177 = 0 then ((pinfoldlaw0_SameLeases.f k t164 t169).bind fun t178 => (pinfoldlaw13_TableWith.j0 k l0 t173 t176 (!t178) a1_0 a1_1 a1_2 a1_3 a1_4 a1_5 a2_0 a2_1 a2_2 a2_3 a2_4 a2_5)) else (pinfoldlaw13_TableWith.j0 k l0 t173 t176 true a1_0 a1_1 a1_2 a1_3 a1_4 a1_5 a2_0 a2_1 a2_2 a2_3 a2_4 a2_5)) = some r := H
    have A23 := am_ A230
    clear A230
    by_cases c24 : t177 = 0
    ·rw [if_pos c24] at H
     have c24b0 : (t177 == 0) = true := beq_iff_eq.mpr c24
     have c24b1 : (t177 != 0) = false := e1_ c24
     clear c24
     (first | rw [c24b0] | (simp only [i64_w, i32_w]; rw [c24b0]) | skip)
     replace H := e4_ H
     obtain ⟨t178, A250, H⟩ := H
     replace H : (pinfoldlaw13_TableWith.j0 k l0 t173 t176 (!t178) a1_0 a1_1 a1_2 a1_3 a1_4 a1_5 a2_0 a2_1 a2_2 a2_3 a2_4 a2_5) = some r := H
     have A25 := am_ A250
     clear A250
     have H' := am_ H
     clear H
     go_wp2_with (first | ((with_reducible refine gate_callee (f := 16) rfl ?_); refine goesL_ (some 44) rfl rfl Try.func16 (by kernel_rfl) rfl #[.int .i64 t172] rfl (by (try simp only [List.map_toArray, List.map_cons, List.map_nil]); first | done | rfl | (simp only [List.length_drop, List.length_take]; rfl)) ?_; (with_reducible refine (pinfoldlaw0_Num.calls t172 t177 _ A23.out).mono ?_); rintro e w' ⟨rfl, ⟨nd, rfl⟩⟩; refine ⟨_, rfl, ?_⟩; obtain ⟨Ao26, co26, eo26⟩ := Kd.R_slice HO171.out; subst eo26) | (go_at_call 24; (with_reducible refine (pinfoldlaw0_SameLeases.calls k _ _ t164 _ _ t169 t178 _ ?side1 ?side2 ?side3 ?side4 A25.out).mono ?_); (case side1 => repeat (first | exact (Kd.R_reads' HO166.out).2.2 | (with_reducible refine c1_ ?_ _) | (with_reducible refine c2_ ?_ _) | (with_reducible refine c3_ ?_))); (case side2 => exact (Kd.R_reads' HO166.out).2.1); (case side3 => repeat (first | exact (Kd.R_reads' HO171.out).2.2 | (with_reducible refine c1_ ?_ _) | (with_reducible refine c2_ ?_ _) | (with_reducible refine c3_ ?_))); (case side4 => exact (Kd.R_reads' HO171.out).2.1); rintro e w' ⟨rfl, ⟨nd, rfl⟩⟩))
     go_meet
     case rel => exact ⟨_, (!t178), (by first | rfl | (simp; done) | (simp [*]; done)), H', ⟨by first | omega | exact Nat.le_refl _⟩, ⟨by (with_reducible repeat (first | apply r1_ | apply r2_ | apply r3_)); exact Kd.R_mono HO175.out (fun _ hk => ⟨hk.1.2, hk.2⟩)⟩, ⟨by (with_reducible repeat (first | refine k2_ ?_ _ | refine k3_ ?_ | refine k1_ ?_ _)); exact BK161.out⟩, ⟨by (with_reducible repeat (first | refine k2_ ?_ _ | refine k3_ ?_ | refine k1_ ?_ _)); exact BK162.out⟩, ⟨by repeat (with_reducible first | exact HB.out | apply p3_ | apply p1_ | apply p2_ | refine bs_ ?_ GE161.out | refine bs_ ?_ GE162.out)⟩⟩
    rw [if_neg c24] at H
    have c24b0 : (t177 == 0) = false := e2_ c24
    have c24b1 : (t177 != 0) = true := bne_iff_ne.mpr c24
    (first | rw [c24b0] | (simp only [i64_w, i32_w]; rw [c24b0]) | skip)
    have H' := am_ H
    clear H
    go_wp2_with (first | ((with_reducible refine gate_callee (f := 16) rfl ?_); refine goesL_ (some 44) rfl rfl Try.func16 (by kernel_rfl) rfl #[.int .i64 t172] rfl (by (try simp only [List.map_toArray, List.map_cons, List.map_nil]); first | done | rfl | (simp only [List.length_drop, List.length_take]; rfl)) ?_; (with_reducible refine (pinfoldlaw0_Num.calls t172 t177 _ A23.out).mono ?_); rintro e w' ⟨rfl, ⟨nd, rfl⟩⟩; refine ⟨_, rfl, ?_⟩))
    go_meet
    case rel => exact ⟨_, (true), (by first | rfl | (simp; done) | (simp [*]; done)), H', ⟨by first | omega | exact Nat.le_refl _⟩, ⟨by (with_reducible repeat (first | apply r1_ | apply r2_ | apply r3_)); exact Kd.R_mono HO175.out (fun _ hk => ⟨hk.1.2, hk.2⟩)⟩, ⟨by (with_reducible repeat (first | refine k2_ ?_ _ | refine k3_ ?_ | refine k1_ ?_ _)); exact BK161.out⟩, ⟨by (with_reducible repeat (first | refine k2_ ?_ _ | refine k3_ ?_ | refine k1_ ?_ _)); exact BK162.out⟩, ⟨by repeat (with_reducible first | exact HB.out | apply p3_ | apply p1_ | apply p2_ | refine bs_ ?_ GE161.out | refine bs_ ?_ GE162.out)⟩⟩
   case rest =>
    clear HC11
    (try clear c5); (try clear c8); (try clear c8b0); (try clear c8b1); (try clear hcz16_0); (try clear hcz16_1); (try clear hcz16_2); (try clear hcz16_3); (try clear hcz16_4); (try clear hcz16_5); (try clear hcz18_0); (try clear hcz18_1); (try clear hcz18_2); (try clear hcz18_3); (try clear hcz18_4); (try clear hcz18_5); (try clear hcz21_0); (try clear hcz21_1); (try clear hcz21_2); (try clear hcz21_3); (try clear hcz21_4); (try clear hcz21_5); (try clear hfz16_0); (try clear hfz16_1); (try clear hfz16_2); (try clear hfz16_3); (try clear hfz16_4); (try clear hfz16_5); (try clear hfz18_0); (try clear hfz18_1); (try clear hfz18_2); (try clear hfz18_3); (try clear hfz18_4); (try clear hfz18_5); (try clear hfz21_0); (try clear hfz21_1); (try clear hfz21_2); (try clear hfz21_3); (try clear hfz21_4); (try clear hfz21_5)
    obtain ⟨kq, x51_10, rfl, HA, HJ10, HO_11, BK161, BK162, HB⟩ := hcut
    cases kq with
    | zero => exact absurd HA.out (by simp [pinfoldlaw13_TableWith.j0])
    | succ kj10 =>
     have H := HA.out
     clear HA
     simp only [pinfoldlaw13_TableWith.j0] at H
     by_cases c27 : x51_10 = true
     ·subst c27
      have H1 : (none) = some r := by rw [if_pos rfl] at H; exact H
      clear H
      have H := H1
      clear H1
      exact absurd H (by simp)
     replace c27 := e3_ c27
     subst c27
     have H1 : ((table_With.f l0 a2_0 a2_1 a2_2 a2_3 a2_4 a2_5).bind fun bt179 => ((table_With.f bt179.1 a1_0 a1_1 a1_2 a1_3 a1_4 a1_5).bind fun bt183 => (if a1_0 = a2_0 then (pinfoldlaw13_TableWith.j1 kj10 t173 bt179.2 bt183.1 bt183.2 true) else ((pinfoldlaw0_Num.f t176).bind fun t187 => (pinfoldlaw13_TableWith.j1 kj10 t173 bt179.2 bt183.1 bt183.2 (t187 != 0)))))) = some r := by rw [if_neg (show ¬ (false = true) by decide)] at H; exact H
     clear H
     have H := H1
     clear H1
     replace H := e4_ H
     obtain ⟨⟨t179, t182⟩, A280, H⟩ := H
     replace H : ((table_With.f t179 a1_0 a1_1 a1_2 a1_3 a1_4 a1_5).bind fun bt183 => (if a1_0 = a2_0 then (pinfoldlaw13_TableWith.j1 kj10 t173 t182 bt183.1 bt183.2 true) else ((pinfoldlaw0_Num.f t176).bind fun t187 => (pinfoldlaw13_TableWith.j1 kj10 t173 t182 bt183.1 bt183.2 (t187 != 0))))) = some r := H
     have A28 := am_ A280
     clear A280
     replace H := e4_ H
     obtain ⟨⟨t183, t186⟩, A290, H⟩ := H
     replace H : (if a1_0 = a2_0 then (pinfoldlaw13_TableWith.j1 kj10 t173 t182 t183 t186 true) else ((pinfoldlaw0_Num.f t176).bind fun t187 => (pinfoldlaw13_TableWith.j1 kj10 t173 t182 t183 t186 (t187 != 0)))) = some r := H
     have A29 := am_ A290
     clear A290
     have HC30 := am_ H
     clear H
     have hnb31 := NB162_161.out
     have hnc31 := NB161_162.out
     have hcz32_0 : wc.cell? ⟨gb162, 0, none⟩ = some (.int .i64 a2_0) := (bc_ BK162.out 0).trans rfl; have hcz32_1 : wc.cell? ⟨gb162, 1, none⟩ = some (.int .i64 a2_1) := (bc_ BK162.out 1).trans rfl; have hcz32_2 : wc.cell? ⟨gb162, 2, none⟩ = some (.string a2_2) := (bc_ BK162.out 2).trans rfl; have hcz32_3 : wc.cell? ⟨gb162, 3, none⟩ = some (.int .i64 a2_3) := (bc_ BK162.out 3).trans rfl; have hcz32_4 : wc.cell? ⟨gb162, 4, none⟩ = some (.string a2_4) := (bc_ BK162.out 4).trans rfl; have hcz32_5 : wc.cell? ⟨gb162, 5, none⟩ = some (.bool a2_5) := (bc_ BK162.out 5).trans rfl; have hfz32_0 := bf_ BK162.out 0; have hfz32_1 := bf_ BK162.out 1; have hfz32_2 := bf_ BK162.out 2; have hfz32_3 := bf_ BK162.out 3; have hfz32_4 := bf_ BK162.out 4; have hfz32_5 := bf_ BK162.out 5
     go_upto_region 12 with (first | ((with_reducible refine gate_callee (f := 18) rfl ?_); refine goesL_ (some 55) rfl rfl Try.func18 (by kernel_rfl) rfl #[.slice A0 l0.length c0, .agg #[.int .i64 a2_0, .int .i64 a2_1, .string a2_2, .int .i64 a2_3, .string a2_4, .bool a2_5]] rfl (by (try simp only [List.map_toArray, List.map_cons, List.map_nil]); first | done | rfl | (simp only [List.length_drop, List.length_take]; rfl)) ?_; (with_reducible refine (table_With.calls _ _ l0 a2_0 a2_1 a2_2 a2_3 a2_4 a2_5 t179 t182 _ ?side1 ?side2 A28.out).mono ?_); (case side1 => repeat (first | exact (c4_ HR0.out HB.out) | (with_reducible refine c1_ ?_ _) | (with_reducible refine c2_ ?_ _) | (with_reducible refine c3_ ?_))); (case side2 => exact HC0.out); rintro e w33 ⟨v180, rfl, ho0, hb⟩; refine ⟨_, rfl, ?_⟩; have n0_ := am_ (r5_ (by (with_reducible repeat (first | apply r1_ | apply r2_ | apply r3_)); exact HO_11.out) (r4_ ho0) hb); have n1_ := am_ (Kd.R_lower (Kd.R_newB (Kd.R_newB (Kd.R_new' ho0 (Kd.R_lt (by (with_reducible repeat (first | apply r1_ | apply r2_ | apply r3_)); exact HO_11.out))) (g := gb161) (o := .cells #[.int .i64 a1_0, .int .i64 a1_1, .string a1_2, .int .i64 a1_3, .string a1_4, .bool a1_5] 37 (0, 0)) (by (with_reducible repeat (first | refine k2_ ?_ _ | refine k3_ ?_ | refine k1_ ?_ _)); exact BK161.out)) (g := gb162) (o := .cells #[.int .i64 a2_0, .int .i64 a2_1, .string a2_2, .int .i64 a2_3, .string a2_4, .bool a2_5] 37 (0, 0)) (by (with_reducible repeat (first | refine k2_ ?_ _ | refine k3_ ?_ | refine k1_ ?_ _)); exact BK162.out)) (bz_ (by repeat (with_reducible first | exact HB.out | apply p3_ | apply p1_ | apply p2_ | refine bs_ ?_ GE161.out | refine bs_ ?_ GE162.out)))); have n2_ := am_ (kb_ (g := gb161) (o := .cells #[.int .i64 a1_0, .int .i64 a1_1, .string a1_2, .int .i64 a1_3, .string a1_4, .bool a1_5] 37 (0, 0)) (by (with_reducible repeat (first | refine k2_ ?_ _ | refine k3_ ?_ | refine k1_ ?_ _)); exact BK161.out) hb); have n3_ := am_ (kb_ (g := gb162) (o := .cells #[.int .i64 a2_0, .int .i64 a2_1, .string a2_2, .int .i64 a2_3, .string a2_4, .bool a2_5] 37 (0, 0)) (by (with_reducible repeat (first | refine k2_ ?_ _ | refine k3_ ?_ | refine k1_ ?_ _)); exact BK162.out) hb); have n4_ := am_ (bt_ (by repeat (with_reducible first | exact HB.out | apply p3_ | apply p1_ | apply p2_ | refine bs_ ?_ GE161.out | refine bs_ ?_ GE162.out)) hb); clear HO_11; clear BK161; clear BK162; clear HB; have HO_11 := n0_; have HO181 := n1_; have BK161 := n2_; have BK162 := n3_; have HB := n4_; clear n0_ n1_ n2_ n3_ n4_; (try clear hb); (try clear ho0); have hcz34_0 : w33.cell? ⟨gb161, 0, none⟩ = some (.int .i64 a1_0) := (bc_ BK161.out 0).trans rfl; have hcz34_1 : w33.cell? ⟨gb161, 1, none⟩ = some (.int .i64 a1_1) := (bc_ BK161.out 1).trans rfl; have hcz34_2 : w33.cell? ⟨gb161, 2, none⟩ = some (.string a1_2) := (bc_ BK161.out 2).trans rfl; have hcz34_3 : w33.cell? ⟨gb161, 3, none⟩ = some (.int .i64 a1_3) := (bc_ BK161.out 3).trans rfl; have hcz34_4 : w33.cell? ⟨gb161, 4, none⟩ = some (.string a1_4) := (bc_ BK161.out 4).trans rfl; have hcz34_5 : w33.cell? ⟨gb161, 5, none⟩ = some (.bool a1_5) := (bc_ BK161.out 5).trans rfl; have hfz34_0 := bf_ BK161.out 0; have hfz34_1 := bf_ BK161.out 1; have hfz34_2 := bf_ BK161.out 2; have hfz34_3 := bf_ BK161.out 3; have hfz34_4 := bf_ BK161.out 4; have hfz34_5 := bf_ BK161.out 5; obtain ⟨Ao35, co35, eo35⟩ := Kd.R_slice HO181.out; subst eo35) | ((with_reducible refine gate_callee (f := 18) rfl ?_); refine goesL_ (some 61) rfl rfl Try.func18 (by kernel_rfl) rfl #[.slice Ao35 t179.length co35, .agg #[.int .i64 a1_0, .int .i64 a1_1, .string a1_2, .int .i64 a1_3, .string a1_4, .bool a1_5]] rfl (by (try simp only [List.map_toArray, List.map_cons, List.map_nil]); first | done | rfl | (simp only [List.length_drop, List.length_take]; rfl)) ?_; (with_reducible refine (table_With.calls _ _ t179 a1_0 a1_1 a1_2 a1_3 a1_4 a1_5 t183 t186 _ ?side1 ?side2 A29.out).mono ?_); (case side1 => repeat (first | exact (Kd.R_reads' HO181.out).2.2 | (with_reducible refine c1_ ?_ _) | (with_reducible refine c2_ ?_ _) | (with_reducible refine c3_ ?_))); (case side2 => exact (Kd.R_reads' HO181.out).2.1); rintro e w36 ⟨v184, rfl, ho0, hb⟩; refine ⟨_, rfl, ?_⟩; have n0_ := am_ (r5_ (by (with_reducible repeat (first | apply r1_ | apply r2_ | apply r3_)); exact HO_11.out) (r4_ ho0) hb); have n1_ := am_ (r5_ (by (with_reducible repeat (first | apply r1_ | apply r2_ | apply r3_)); exact HO181.out) (r4_ ho0) hb); have n2_ := am_ (Kd.R_lower (Kd.R_newB (Kd.R_newB (Kd.R_new' (Kd.R_new' ho0 (Kd.R_lt (by (with_reducible repeat (first | apply r1_ | apply r2_ | apply r3_)); exact HO_11.out))) (Kd.R_lt (by (with_reducible repeat (first | apply r1_ | apply r2_ | apply r3_)); exact HO181.out))) (g := gb161) (o := .cells #[.int .i64 a1_0, .int .i64 a1_1, .string a1_2, .int .i64 a1_3, .string a1_4, .bool a1_5] 37 (0, 0)) (by (with_reducible repeat (first | refine k2_ ?_ _ | refine k3_ ?_ | refine k1_ ?_ _)); exact BK161.out)) (g := gb162) (o := .cells #[.int .i64 a2_0, .int .i64 a2_1, .string a2_2, .int .i64 a2_3, .string a2_4, .bool a2_5] 37 (0, 0)) (by (with_reducible repeat (first | refine k2_ ?_ _ | refine k3_ ?_ | refine k1_ ?_ _)); exact BK162.out)) (bz_ (by repeat (with_reducible first | exact HB.out | apply p3_ | apply p1_ | apply p2_ | refine bs_ ?_ GE161.out | refine bs_ ?_ GE162.out)))); have n3_ := am_ (kb_ (g := gb161) (o := .cells #[.int .i64 a1_0, .int .i64 a1_1, .string a1_2, .int .i64 a1_3, .string a1_4, .bool a1_5] 37 (0, 0)) (by (with_reducible repeat (first | refine k2_ ?_ _ | refine k3_ ?_ | refine k1_ ?_ _)); exact BK161.out) hb); have n4_ := am_ (kb_ (g := gb162) (o := .cells #[.int .i64 a2_0, .int .i64 a2_1, .string a2_2, .int .i64 a2_3, .string a2_4, .bool a2_5] 37 (0, 0)) (by (with_reducible repeat (first | refine k2_ ?_ _ | refine k3_ ?_ | refine k1_ ?_ _)); exact BK162.out) hb); have n5_ := am_ (bt_ (by repeat (with_reducible first | exact HB.out | apply p3_ | apply p1_ | apply p2_ | refine bs_ ?_ GE161.out | refine bs_ ?_ GE162.out)) hb); clear HO_11; clear HO181; clear BK161; clear BK162; clear HB; have HO_11 := n0_; have HO181 := n1_; have HO185 := n2_; have BK161 := n3_; have BK162 := n4_; have HB := n5_; clear n0_ n1_ n2_ n3_ n4_ n5_; (try clear hb); (try clear ho0)))
     (try simp only [Act.put, sa_, sb_, sc_])
     go_cut [73] (fun v73 wc => ∃ (kq : Nat) (x73_29 : Bool), v73 = .bool x73_29 ∧ Aside0 (pinfoldlaw13_TableWith.j1 kq t173 t182 t183 t186 x73_29 = some r) ∧ Aside0 (kq ≤ kj10) ∧ Aside0 (Kd.R k37 37 wc w.heap.size (fun k_ => some k_ ≠ (v184 : Value).ownBlock ∧ k_ ≠ gb161 ∧ k_ ≠ gb162) v174 t173) ∧ Aside0 (Kd.R k37 37 wc w.heap.size (fun k_ => some k_ ≠ (v174 : Value).ownBlock ∧ k_ ≠ gb161 ∧ k_ ≠ gb162) v184 t183) ∧ Aside0 (wc.heap[gb161]? = some (.cells #[.int .i64 a1_0, .int .i64 a1_1, .string a1_2, .int .i64 a1_3, .string a1_4, .bool a1_5] 37 (0, 0))) ∧ Aside0 (wc.heap[gb162]? = some (.cells #[.int .i64 a2_0, .int .i64 a2_1, .string a2_2, .int .i64 a2_3, .string a2_4, .bool a2_5] 37 (0, 0))) ∧ Aside0 (Below w.heap.size w wc))
     case first =>
      have H := HC30.out
      clear HC30
      by_cases c37 : a1_0 = a2_0
      ·rw [if_pos c37] at H
       have c37b0 : (a1_0 == a2_0) = true := beq_iff_eq.mpr c37
       have c37b1 : (a1_0 != a2_0) = false := e1_ c37
       clear c37
       (first | rw [c37b0] | (simp only [i64_w, i32_w]; rw [c37b0]) | skip)
       have H' := am_ H
       clear H
       have hnb38 := NB161_162.out
       have hnc38 := NB162_161.out
       have hcz39_0 : w36.cell? ⟨gb161, 0, none⟩ = some (.int .i64 a1_0) := (bc_ BK161.out 0).trans rfl; have hcz39_1 : w36.cell? ⟨gb161, 1, none⟩ = some (.int .i64 a1_1) := (bc_ BK161.out 1).trans rfl; have hcz39_2 : w36.cell? ⟨gb161, 2, none⟩ = some (.string a1_2) := (bc_ BK161.out 2).trans rfl; have hcz39_3 : w36.cell? ⟨gb161, 3, none⟩ = some (.int .i64 a1_3) := (bc_ BK161.out 3).trans rfl; have hcz39_4 : w36.cell? ⟨gb161, 4, none⟩ = some (.string a1_4) := (bc_ BK161.out 4).trans rfl; have hcz39_5 : w36.cell? ⟨gb161, 5, none⟩ = some (.bool a1_5) := (bc_ BK161.out 5).trans rfl; have hfz39_0 := bf_ BK161.out 0; have hfz39_1 := bf_ BK161.out 1; have hfz39_2 := bf_ BK161.out 2; have hfz39_3 := bf_ BK161.out 3; have hfz39_4 := bf_ BK161.out 4; have hfz39_5 := bf_ BK161.out 5; have hcz40_0 : w36.cell? ⟨gb162, 0, none⟩ = some (.int .i64 a2_0) := (bc_ BK162.out 0).trans rfl; have hcz40_1 : w36.cell? ⟨gb162, 1, none⟩ = some (.int .i64 a2_1) := (bc_ BK162.out 1).trans rfl; have hcz40_2 : w36.cell? ⟨gb162, 2, none⟩ = some (.string a2_2) := (bc_ BK162.out 2).trans rfl; have hcz40_3 : w36.cell? ⟨gb162, 3, none⟩ = some (.int .i64 a2_3) := (bc_ BK162.out 3).trans rfl; have hcz40_4 : w36.cell? ⟨gb162, 4, none⟩ = some (.string a2_4) := (bc_ BK162.out 4).trans rfl; have hcz40_5 : w36.cell? ⟨gb162, 5, none⟩ = some (.bool a2_5) := (bc_ BK162.out 5).trans rfl; have hfz40_0 := bf_ BK162.out 0; have hfz40_1 := bf_ BK162.out 1; have hfz40_2 := bf_ BK162.out 2; have hfz40_3 := bf_ BK162.out 3; have hfz40_4 := bf_ BK162.out 4; have hfz40_5 := bf_ BK162.out 5
       go_wp2
       go_meet
       case rel => exact ⟨_, (true), (by first | rfl | (simp; done) | (simp [*]; done)), H', ⟨by have := HJ10.out; first | omega | exact Nat.le_refl _⟩, ⟨by (with_reducible repeat (first | apply r1_ | apply r2_ | apply r3_)); exact Kd.R_mono HO_11.out (fun _ hk => ⟨hk.2, ⟨hk.1.1.1, hk.1.1.2⟩⟩)⟩, ⟨by (with_reducible repeat (first | apply r1_ | apply r2_ | apply r3_)); exact Kd.R_mono HO185.out (fun _ hk => ⟨hk.1.1.1.2, ⟨hk.1.2, hk.2⟩⟩)⟩, ⟨by (with_reducible repeat (first | refine k2_ ?_ _ | refine k3_ ?_ | refine k1_ ?_ _)); exact BK161.out⟩, ⟨by (with_reducible repeat (first | refine k2_ ?_ _ | refine k3_ ?_ | refine k1_ ?_ _)); exact BK162.out⟩, ⟨by repeat (with_reducible first | exact HB.out | apply p3_ | apply p1_ | apply p2_ | refine bs_ ?_ GE161.out | refine bs_ ?_ GE162.out)⟩⟩
      rw [if_neg c37] at H
      have c37b0 : (a1_0 == a2_0) = false := e2_ c37
      have c37b1 : (a1_0 != a2_0) = true := bne_iff_ne.mpr c37
      (first | rw [c37b0] | (simp only [i64_w, i32_w]; rw [c37b0]) | skip)
      replace H := e4_ H
      obtain ⟨t187, A410, H⟩ := H
      replace H : (pinfoldlaw13_TableWith.j1 kj10 t173 t182 t183 t186 (t187 != 0)) = some r := H
      have A41 := am_ A410
      clear A410
      have H' := am_ H
      clear H
      have hnb42 := NB161_162.out
      have hnc42 := NB162_161.out
      have hcz43_0 : w36.cell? ⟨gb161, 0, none⟩ = some (.int .i64 a1_0) := (bc_ BK161.out 0).trans rfl; have hcz43_1 : w36.cell? ⟨gb161, 1, none⟩ = some (.int .i64 a1_1) := (bc_ BK161.out 1).trans rfl; have hcz43_2 : w36.cell? ⟨gb161, 2, none⟩ = some (.string a1_2) := (bc_ BK161.out 2).trans rfl; have hcz43_3 : w36.cell? ⟨gb161, 3, none⟩ = some (.int .i64 a1_3) := (bc_ BK161.out 3).trans rfl; have hcz43_4 : w36.cell? ⟨gb161, 4, none⟩ = some (.string a1_4) := (bc_ BK161.out 4).trans rfl; have hcz43_5 : w36.cell? ⟨gb161, 5, none⟩ = some (.bool a1_5) := (bc_ BK161.out 5).trans rfl; have hfz43_0 := bf_ BK161.out 0; have hfz43_1 := bf_ BK161.out 1; have hfz43_2 := bf_ BK161.out 2; have hfz43_3 := bf_ BK161.out 3; have hfz43_4 := bf_ BK161.out 4; have hfz43_5 := bf_ BK161.out 5; have hcz44_0 : w36.cell? ⟨gb162, 0, none⟩ = some (.int .i64 a2_0) := (bc_ BK162.out 0).trans rfl; have hcz44_1 : w36.cell? ⟨gb162, 1, none⟩ = some (.int .i64 a2_1) := (bc_ BK162.out 1).trans rfl; have hcz44_2 : w36.cell? ⟨gb162, 2, none⟩ = some (.string a2_2) := (bc_ BK162.out 2).trans rfl; have hcz44_3 : w36.cell? ⟨gb162, 3, none⟩ = some (.int .i64 a2_3) := (bc_ BK162.out 3).trans rfl; have hcz44_4 : w36.cell? ⟨gb162, 4, none⟩ = some (.string a2_4) := (bc_ BK162.out 4).trans rfl; have hcz44_5 : w36.cell? ⟨gb162, 5, none⟩ = some (.bool a2_5) := (bc_ BK162.out 5).trans rfl; have hfz44_0 := bf_ BK162.out 0; have hfz44_1 := bf_ BK162.out 1; have hfz44_2 := bf_ BK162.out 2; have hfz44_3 := bf_ BK162.out 3; have hfz44_4 := bf_ BK162.out 4; have hfz44_5 := bf_ BK162.out 5
      go_wp2_with (first | (go_at_call 16; (with_reducible refine (pinfoldlaw0_Num.calls t176 t187 _ A41.out).mono ?_); rintro e w' ⟨rfl, ⟨nd, rfl⟩⟩))
      go_meet
      case rel => exact ⟨_, ((t187 != 0)), (by first | rfl | (simp; done) | (simp [*]; done)), H', ⟨by have := HJ10.out; first | omega | exact Nat.le_refl _⟩, ⟨by (with_reducible repeat (first | apply r1_ | apply r2_ | apply r3_)); exact Kd.R_mono HO_11.out (fun _ hk => ⟨hk.2, ⟨hk.1.1.1, hk.1.1.2⟩⟩)⟩, ⟨by (with_reducible repeat (first | apply r1_ | apply r2_ | apply r3_)); exact Kd.R_mono HO185.out (fun _ hk => ⟨hk.1.1.1.2, ⟨hk.1.2, hk.2⟩⟩)⟩, ⟨by (with_reducible repeat (first | refine k2_ ?_ _ | refine k3_ ?_ | refine k1_ ?_ _)); exact BK161.out⟩, ⟨by (with_reducible repeat (first | refine k2_ ?_ _ | refine k3_ ?_ | refine k1_ ?_ _)); exact BK162.out⟩, ⟨by repeat (with_reducible first | exact HB.out | apply p3_ | apply p1_ | apply p2_ | refine bs_ ?_ GE161.out | refine bs_ ?_ GE162.out)⟩⟩
     case rest =>
      clear HC30
      (try clear c5); (try clear c8); (try clear c8b0); (try clear c8b1); (try clear c27); (try clear hcz16_0); (try clear hcz16_1); (try clear hcz16_2); (try clear hcz16_3); (try clear hcz16_4); (try clear hcz16_5); (try clear hcz18_0); (try clear hcz18_1); (try clear hcz18_2); (try clear hcz18_3); (try clear hcz18_4); (try clear hcz18_5); (try clear hcz21_0); (try clear hcz21_1); (try clear hcz21_2); (try clear hcz21_3); (try clear hcz21_4); (try clear hcz21_5); (try clear hcz32_0); (try clear hcz32_1); (try clear hcz32_2); (try clear hcz32_3); (try clear hcz32_4); (try clear hcz32_5); (try clear hcz34_0); (try clear hcz34_1); (try clear hcz34_2); (try clear hcz34_3); (try clear hcz34_4); (try clear hcz34_5); (try clear hfz16_0); (try clear hfz16_1); (try clear hfz16_2); (try clear hfz16_3); (try clear hfz16_4); (try clear hfz16_5); (try clear hfz18_0); (try clear hfz18_1); (try clear hfz18_2); (try clear hfz18_3); (try clear hfz18_4); (try clear hfz18_5); (try clear hfz21_0); (try clear hfz21_1); (try clear hfz21_2); (try clear hfz21_3); (try clear hfz21_4); (try clear hfz21_5); (try clear hfz32_0); (try clear hfz32_1); (try clear hfz32_2); (try clear hfz32_3); (try clear hfz32_4); (try clear hfz32_5); (try clear hfz34_0); (try clear hfz34_1); (try clear hfz34_2); (try clear hfz34_3); (try clear hfz34_4); (try clear hfz34_5)
      obtain ⟨kq, x73_29, rfl, HA, HJ29, HO_11, HO_15, BK161, BK162, HB⟩ := hcut
      cases kq with
      | zero => exact absurd HA.out (by simp [pinfoldlaw13_TableWith.j1])
      | succ kj29 =>
       have H := HA.out
       clear HA
       simp only [pinfoldlaw13_TableWith.j1] at H
       by_cases c45 : x73_29 = true
       ·subst c45
        have H1 : (some true) = some r := by rw [if_pos rfl] at H; exact H
        clear H
        have H := H1
        clear H1
        obtain rfl := e5_ H
        go_wp2
        go_ret
        exact ⟨by first | rfl | (simp [errW_none, errW_some] <;> rfl) | (simp [*, errW_none, errW_some] <;> rfl), by repeat (with_reducible first | exact HB.out | apply p3_ | apply p1_ | apply p2_ | refine bs_ ?_ GE161.out | refine bs_ ?_ GE162.out)⟩
       replace c45 := e3_ c45
       subst c45
       have H1 : ((pinfoldlaw0_Num.f t182).bind fun t188 => (if t188 = 0 then ((pinfoldlaw0_Num.f t186).bind fun t189 => (if t189 = 0 then ((pinfoldlaw0_SameLeases.f kj29 t173 t183).bind fun t190 => (some t190)) else (none))) else (none))) = some r := by rw [if_neg (show ¬ (false = true) by decide)] at H; exact H
       clear H
       have H := H1
       clear H1
       replace H := e4_ H
       obtain ⟨t188, A460, H⟩ := H
       replace H : (if t188 = 0 then ((pinfoldlaw0_Num.f t186).bind fun t189 => (if t189 = 0 then ((pinfoldlaw0_SameLeases.f kj29 t173 t183).bind fun t190 => (some t190)) else (none))) else (none)) = some r := H
       have A46 := am_ A460
       clear A460
       by_cases c47 : t188 = 0
       rotate_left
       ·rw [if_neg c47] at H
        exact absurd H (by simp)
       rw [if_pos c47] at H
       have c47b0 : (t188 == 0) = true := beq_iff_eq.mpr c47
       have c47b1 : (t188 != 0) = false := e1_ c47
       clear c47
       replace H := e4_ H
       obtain ⟨t189, A480, H⟩ := H
       replace H : (if t189 = 0 then ((pinfoldlaw0_SameLeases.f kj29 t173 t183).bind fun t190 => (some t190)) else (none)) = some r := H
       have A48 := am_ A480
       clear A480
       by_cases c49 : t189 = 0
       rotate_left
       ·rw [if_neg c49] at H
        exact absurd H (by simp)
       rw [if_pos c49] at H
       have c49b0 : (t189 == 0) = true := beq_iff_eq.mpr c49
       have c49b1 : (t189 != 0) = false := e1_ c49
       clear c49
       replace H := e4_ H
       obtain ⟨t190, A500, H⟩ := H
       replace H : (some t190) = some r := H
       have A50 := am_ A500
       clear A500
       obtain rfl := e5_ H
       go_wp2_with (first | ((with_reducible refine gate_callee (f := 16) rfl ?_); refine goesL_ (some 75) rfl rfl Try.func16 (by kernel_rfl) rfl #[.int .i64 t182] rfl (by (try simp only [List.map_toArray, List.map_cons, List.map_nil]); first | done | rfl | (simp only [List.length_drop, List.length_take]; rfl)) ?_; (with_reducible refine (pinfoldlaw0_Num.calls t182 t188 _ A46.out).mono ?_); rintro e w' ⟨rfl, ⟨nd, rfl⟩⟩; refine ⟨_, rfl, ?_⟩) | (go_at_call 16; (with_reducible refine (pinfoldlaw0_Num.calls t186 t189 _ A48.out).mono ?_); rintro e w' ⟨rfl, ⟨nd, rfl⟩⟩; obtain ⟨Ao51, co51, eo51⟩ := Kd.R_slice HO_11.out; subst eo51; obtain ⟨Ao52, co52, eo52⟩ := Kd.R_slice HO_15.out; subst eo52) | (go_at_call 24; (with_reducible refine (pinfoldlaw0_SameLeases.calls kj29 _ _ t173 _ _ t183 t190 _ ?side1 ?side2 ?side3 ?side4 A50.out).mono ?_); (case side1 => repeat (first | exact (Kd.R_reads' HO_11.out).2.2 | (with_reducible refine c1_ ?_ _) | (with_reducible refine c2_ ?_ _) | (with_reducible refine c3_ ?_))); (case side2 => exact (Kd.R_reads' HO_11.out).2.1); (case side3 => repeat (first | exact (Kd.R_reads' HO_15.out).2.2 | (with_reducible refine c1_ ?_ _) | (with_reducible refine c2_ ?_ _) | (with_reducible refine c3_ ?_))); (case side4 => exact (Kd.R_reads' HO_15.out).2.1); rintro e w' ⟨rfl, ⟨nd, rfl⟩⟩))
       go_ret
       exact ⟨by first | rfl | (simp [errW_none, errW_some] <;> rfl) | (simp [*, errW_none, errW_some] <;> rfl), by repeat (with_reducible first | exact HB.out | apply p3_ | apply p1_ | apply p2_ | refine bs_ ?_ GE161.out | refine bs_ ?_ GE162.out)⟩
  rw [if_neg c8] at H
  have c8b0 : (t168 == 0) = false := e2_ c8
  have c8b1 : (t168 != 0) = true := bne_iff_ne.mpr c8
  obtain rfl := e5_ H
  go_enter Try.func7, Try.ntmps7
  go_wp2_with (first | ((with_reducible refine gate_dst (N := 4) rfl ?_); refine box_event ?hg (N := 4) ?hd (cs := #[.int .i64 a1_0, .int .i64 a1_1, .string a1_2, .int .i64 a1_3, .string a1_4, .bool a1_5]) (t := 37) ?hr ?_; (case hd => rfl); (case hg => rfl); (case hr => first | (go_simp; done) | (go_simp; rfl)); intro gb161 hg w53 hbox hb; have n0_ := am_ (bt_ (by repeat (with_reducible first | exact HB.out | apply p3_ | apply p1_ | apply p2_)) hb); have n1_ := am_ (hbox); have n2_ := am_ ((by rw [hg]; exact (bz_ (by repeat (with_reducible first | exact HB.out | apply p3_ | apply p1_ | apply p2_))) : w.heap.size ≤ gb161)); have n3_ := am_ ((by rw [hg]; exact (bz_ (by repeat (with_reducible first | exact HB.out | apply p3_ | apply p1_ | apply p2_))) : w.heap.size ≤ gb161)); clear HB; have HB := n0_; have BK161 := n1_; have GW161 := n2_; have GE161 := n3_; clear n0_ n1_ n2_ n3_; clear hb hbox hg) | ((with_reducible refine gate_dst (N := 5) rfl ?_); refine box_event ?hg (N := 5) ?hd (cs := #[.int .i64 a2_0, .int .i64 a2_1, .string a2_2, .int .i64 a2_3, .string a2_4, .bool a2_5]) (t := 37) ?hr ?_; (case hd => rfl); (case hg => rfl); (case hr => first | (go_simp; done) | (go_simp; rfl)); intro gb162 hg w54 hbox hb; have n0_ := am_ (kb_ (g := gb161) (o := .cells #[.int .i64 a1_0, .int .i64 a1_1, .string a1_2, .int .i64 a1_3, .string a1_4, .bool a1_5] 37 (0, 0)) (by (with_reducible repeat (first | refine k2_ ?_ _ | refine k3_ ?_ | refine k1_ ?_ _)); exact BK161.out) hb); have n1_ := am_ (bt_ (by repeat (with_reducible first | exact HB.out | apply p3_ | apply p1_ | apply p2_ | refine bs_ ?_ GE161.out)) hb); have n2_ := am_ (hbox); have n3_ := am_ ((by rw [hg]; exact (bz_ (by repeat (with_reducible first | exact HB.out | apply p3_ | apply p1_ | apply p2_ | refine bs_ ?_ GE161.out))) : w.heap.size ≤ gb162)); have n4_ := am_ ((by rw [hg]; exact (bz_ (by repeat (with_reducible first | exact HB.out | apply p3_ | apply p1_ | apply p2_ | refine bs_ ?_ GE161.out))) : w.heap.size ≤ gb162)); have n5_ := am_ ((by rw [hg]; exact Nat.ne_of_lt (blk_lt (g := gb161) (o := .cells #[.int .i64 a1_0, .int .i64 a1_1, .string a1_2, .int .i64 a1_3, .string a1_4, .bool a1_5] 37 (0, 0)) (by (with_reducible repeat (first | refine k2_ ?_ _ | refine k3_ ?_ | refine k1_ ?_ _)); exact BK161.out)) : gb161 ≠ gb162)); have n6_ := am_ ((by rw [hg]; exact Nat.ne_of_gt (blk_lt (g := gb161) (o := .cells #[.int .i64 a1_0, .int .i64 a1_1, .string a1_2, .int .i64 a1_3, .string a1_4, .bool a1_5] 37 (0, 0)) (by (with_reducible repeat (first | refine k2_ ?_ _ | refine k3_ ?_ | refine k1_ ?_ _)); exact BK161.out)) : gb162 ≠ gb161)); clear BK161; clear HB; have BK161 := n0_; have HB := n1_; have BK162 := n2_; have GW162 := n3_; have GE162 := n4_; have NB161_162 := n5_; have NB162_161 := n6_; clear n0_ n1_ n2_ n3_ n4_ n5_ n6_; clear hb hbox hg) | ((with_reducible refine gate_callee (f := 29) rfl ?_); refine goesL_ (some 17) rfl rfl Try.func29 (by kernel_rfl) rfl #[] rfl (by (try simp only [List.map_toArray, List.map_cons, List.map_nil]); first | done | rfl | (simp only [List.length_drop, List.length_take]; rfl)) ?_; (with_reducible refine (pinfoldlaw13_awake.calls k  true _ A4.out).mono ?_); rintro e w55 ⟨rfl, hb⟩; refine ⟨_, rfl, ?_⟩; have n0_ := am_ (kb_ (g := gb161) (o := .cells #[.int .i64 a1_0, .int .i64 a1_1, .string a1_2, .int .i64 a1_3, .string a1_4, .bool a1_5] 37 (0, 0)) (by (with_reducible repeat (first | refine k2_ ?_ _ | refine k3_ ?_ | refine k1_ ?_ _)); exact BK161.out) hb); have n1_ := am_ (kb_ (g := gb162) (o := .cells #[.int .i64 a2_0, .int .i64 a2_1, .string a2_2, .int .i64 a2_3, .string a2_4, .bool a2_5] 37 (0, 0)) (by (with_reducible repeat (first | refine k2_ ?_ _ | refine k3_ ?_ | refine k1_ ?_ _)); exact BK162.out) hb); have n2_ := am_ (bt_ (by repeat (with_reducible first | exact HB.out | apply p3_ | apply p1_ | apply p2_ | refine bs_ ?_ GE161.out | refine bs_ ?_ GE162.out)) hb); clear BK161; clear BK162; clear HB; have BK161 := n0_; have BK162 := n1_; have HB := n2_; clear n0_ n1_ n2_; (try clear hb); have hnb56 := NB161_162.out; have hnc56 := NB162_161.out; have hcz57_0 : w55.cell? ⟨gb161, 0, none⟩ = some (.int .i64 a1_0) := (bc_ BK161.out 0).trans rfl; have hcz57_1 : w55.cell? ⟨gb161, 1, none⟩ = some (.int .i64 a1_1) := (bc_ BK161.out 1).trans rfl; have hcz57_2 : w55.cell? ⟨gb161, 2, none⟩ = some (.string a1_2) := (bc_ BK161.out 2).trans rfl; have hcz57_3 : w55.cell? ⟨gb161, 3, none⟩ = some (.int .i64 a1_3) := (bc_ BK161.out 3).trans rfl; have hcz57_4 : w55.cell? ⟨gb161, 4, none⟩ = some (.string a1_4) := (bc_ BK161.out 4).trans rfl; have hcz57_5 : w55.cell? ⟨gb161, 5, none⟩ = some (.bool a1_5) := (bc_ BK161.out 5).trans rfl; have hfz57_0 := bf_ BK161.out 0; have hfz57_1 := bf_ BK161.out 1; have hfz57_2 := bf_ BK161.out 2; have hfz57_3 := bf_ BK161.out 3; have hfz57_4 := bf_ BK161.out 4; have hfz57_5 := bf_ BK161.out 5) | ((with_reducible refine gate_callee (f := 18) rfl ?_); refine goesL_ (some 22) rfl rfl Try.func18 (by kernel_rfl) rfl #[.slice A0 l0.length c0, .agg #[.int .i64 a1_0, .int .i64 a1_1, .string a1_2, .int .i64 a1_3, .string a1_4, .bool a1_5]] rfl (by (try simp only [List.map_toArray, List.map_cons, List.map_nil]); first | done | rfl | (simp only [List.length_drop, List.length_take]; rfl)) ?_; (with_reducible refine (table_With.calls _ _ l0 a1_0 a1_1 a1_2 a1_3 a1_4 a1_5 t164 t167 _ ?side1 ?side2 A6.out).mono ?_); (case side1 => repeat (first | exact (c4_ HR0.out HB.out) | (with_reducible refine c1_ ?_ _) | (with_reducible refine c2_ ?_ _) | (with_reducible refine c3_ ?_))); (case side2 => exact HC0.out); rintro e w58 ⟨v165, rfl, ho0, hb⟩; refine ⟨_, rfl, ?_⟩; have n0_ := am_ (Kd.R_lower (Kd.R_newB (Kd.R_newB ho0 (g := gb161) (o := .cells #[.int .i64 a1_0, .int .i64 a1_1, .string a1_2, .int .i64 a1_3, .string a1_4, .bool a1_5] 37 (0, 0)) (by (with_reducible repeat (first | refine k2_ ?_ _ | refine k3_ ?_ | refine k1_ ?_ _)); exact BK161.out)) (g := gb162) (o := .cells #[.int .i64 a2_0, .int .i64 a2_1, .string a2_2, .int .i64 a2_3, .string a2_4, .bool a2_5] 37 (0, 0)) (by (with_reducible repeat (first | refine k2_ ?_ _ | refine k3_ ?_ | refine k1_ ?_ _)); exact BK162.out)) (bz_ (by repeat (with_reducible first | exact HB.out | apply p3_ | apply p1_ | apply p2_ | refine bs_ ?_ GE161.out | refine bs_ ?_ GE162.out)))); have n1_ := am_ (kb_ (g := gb161) (o := .cells #[.int .i64 a1_0, .int .i64 a1_1, .string a1_2, .int .i64 a1_3, .string a1_4, .bool a1_5] 37 (0, 0)) (by (with_reducible repeat (first | refine k2_ ?_ _ | refine k3_ ?_ | refine k1_ ?_ _)); exact BK161.out) hb); have n2_ := am_ (kb_ (g := gb162) (o := .cells #[.int .i64 a2_0, .int .i64 a2_1, .string a2_2, .int .i64 a2_3, .string a2_4, .bool a2_5] 37 (0, 0)) (by (with_reducible repeat (first | refine k2_ ?_ _ | refine k3_ ?_ | refine k1_ ?_ _)); exact BK162.out) hb); have n3_ := am_ (bt_ (by repeat (with_reducible first | exact HB.out | apply p3_ | apply p1_ | apply p2_ | refine bs_ ?_ GE161.out | refine bs_ ?_ GE162.out)) hb); clear BK161; clear BK162; clear HB; have HO166 := n0_; have BK161 := n1_; have BK162 := n2_; have HB := n3_; clear n0_ n1_ n2_ n3_; (try clear hb); (try clear ho0)) | ((with_reducible refine gate_callee (f := 16) rfl ?_); refine goesL_ (some 26) rfl rfl Try.func16 (by kernel_rfl) rfl #[.int .i64 t167] rfl (by (try simp only [List.map_toArray, List.map_cons, List.map_nil]); first | done | rfl | (simp only [List.length_drop, List.length_take]; rfl)) ?_; (with_reducible refine (pinfoldlaw0_Num.calls t167 t168 _ A7.out).mono ?_); rintro e w' ⟨rfl, ⟨nd, rfl⟩⟩; refine ⟨_, rfl, ?_⟩; obtain ⟨Ao59, co59, eo59⟩ := Kd.R_slice HO166.out; subst eo59))
  go_ret
  exact ⟨by first | rfl | (simp [errW_none, errW_some] <;> rfl) | (simp [*, errW_none, errW_some] <;> rfl), by repeat (with_reducible first | exact HB.out | apply p3_ | apply p1_ | apply p2_ | refine bs_ ?_ GE161.out | refine bs_ ?_ GE162.out)⟩
 replace c5 := e3_ c5
 subst c5
 have H1 : (none) = some r := by rw [if_neg (show ¬ (false = true) by decide)] at H; exact H
 clear H
 have H := H1
 clear H1
 exact absurd H (by simp)

/-- THE ONE PURE STATEMENT of pinfoldlaw13_TableWith. -/
def pinfoldlaw13_TableWith.Pure : Prop := ∀ (l0 : List (S37)) (a1_0 : Int) (a1_1 : Int) (a1_2 : ByteArray) (a1_3 : Int) (a1_4 : ByteArray) (a1_5 : Bool) (a2_0 : Int) (a2_1 : Int) (a2_2 : ByteArray) (a2_3 : Int) (a2_4 : ByteArray) (a2_5 : Bool), (l0.length * Try.prog.bytesOf 37 ≤ 140737488351232 ∧ ∀ y0_ ∈ l0, ((Lit.int .i64 y0_.f0).wf = true ∧ ((Lit.int .i64 y0_.f1).wf = true ∧ (y0_.f2.size ≤ 140737488351232 ∧ ((Lit.int .i64 y0_.f3).wf = true ∧ (y0_.f4.size ≤ 140737488351232 ∧ True)))))) → (Lit.int .i64 a1_0).wf = true → (Lit.int .i64 a1_1).wf = true → a1_2.size ≤ 140737488351232 → (Lit.int .i64 a1_3).wf = true → a1_4.size ≤ 140737488351232 → (Lit.int .i64 a2_0).wf = true → (Lit.int .i64 a2_1).wf = true → a2_2.size ≤ 140737488351232 → (Lit.int .i64 a2_3).wf = true → a2_4.size ≤ 140737488351232 → ∃ k, pinfoldlaw13_TableWith.f k l0 a1_0 a1_1 a1_2 a1_3 a1_4 a1_5 a2_0 a2_1 a2_2 a2_3 a2_4 a2_5 = some true
theorem pinfoldlaw13_TableWith.walk (P : pinfoldlaw13_TableWith.Pure) (A0 : Option Addr) (c0 : Nat) (l0 : List (S37)) (a1_0 : Int) (a1_1 : Int) (a1_2 : ByteArray) (a1_3 : Int) (a1_4 : ByteArray) (a1_5 : Bool) (a2_0 : Int) (a2_1 : Int) (a2_2 : ByteArray) (a2_3 : Int) (a2_4 : ByteArray) (a2_5 : Bool) (w : World) (hr0 : Kd.C k37 w A0 l0.length l0) (hc0 : l0.length ≤ c0) (w0 : (l0.length * Try.prog.bytesOf 37 ≤ 140737488351232 ∧ ∀ y0_ ∈ l0, ((Lit.int .i64 y0_.f0).wf = true ∧ ((Lit.int .i64 y0_.f1).wf = true ∧ (y0_.f2.size ≤ 140737488351232 ∧ ((Lit.int .i64 y0_.f3).wf = true ∧ (y0_.f4.size ≤ 140737488351232 ∧ True))))))) (w1_0 : (Lit.int .i64 a1_0).wf = true) (w1_1 : (Lit.int .i64 a1_1).wf = true) (w1_2 : a1_2.size ≤ 140737488351232) (w1_3 : (Lit.int .i64 a1_3).wf = true) (w1_4 : a1_4.size ≤ 140737488351232) (w2_0 : (Lit.int .i64 a2_0).wf = true) (w2_1 : (Lit.int .i64 a2_1).wf = true) (w2_2 : a2_2.size ≤ 140737488351232) (w2_3 : (Lit.int .i64 a2_3).wf = true) (w2_4 : a2_4.size ≤ 140737488351232) :
  Calls Try.prog 7 #[.slice A0 l0.length c0, .agg #[.int .i64 a1_0, .int .i64 a1_1, .string a1_2, .int .i64 a1_3, .string a1_4, .bool a1_5], .agg #[.int .i64 a2_0, .int .i64 a2_1, .string a2_2, .int .i64 a2_3, .string a2_4, .bool a2_5]] w fun e w' => e = .returned (.bool true) ∧ Below w.heap.size w w' := by
 obtain ⟨k, h⟩ := P l0 a1_0 a1_1 a1_2 a1_3 a1_4 a1_5 a2_0 a2_1 a2_2 a2_3 a2_4 a2_5 w0 w1_0 w1_1 w1_2 w1_3 w1_4 w2_0 w2_1 w2_2 w2_3 w2_4
 refine (pinfoldlaw13_TableWith.calls k _ _ l0 a1_0 a1_1 a1_2 a1_3 a1_4 a1_5 a2_0 a2_1 a2_2 a2_3 a2_4 a2_5 true w hr0 hc0 h).mono ?_
 rintro e w' ⟨rfl, hd⟩
 exact ⟨rfl, hd⟩

end Go.Proofs.Ytibmakpghbinbaa.PT
