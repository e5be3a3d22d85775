-- Made by wip/pr.py out of the translation (a turned copy of the kit's print; contracts by hand where said).
import Derived.Test.YtmoobaehoccihaaDoorPFx0
import Derived.Test.YtmoobaehoccihaaDoorPFx12
import Derived.Test.YtmoobaehoccihaaDoorPFx14
import Derived.Test.YtmoobaehoccihaaDoorPFx16
namespace Go.Proofs.YtmoobaehoccihaaDoor.PF
open Go.RowKit Go.Proofs.YtmoobaehoccihaaDoorW.PrintWords Go.Proofs.YtmoobaehoccihaaDoorW.PrintLast Go.Proofs.YtmoobaehoccihaaDoorW.PrintMore
-- shrunk
attribute [local go_sem] max2_int min2_int max_two min_two max_three min_three max_four min_four   -- for this text's walks alone
set_option linter.unusedVariables false
set_option linter.unusedSimpArgs false

/-! ### pinfoldlaw18_DropThen: function 6 -/
mutual
def pinfoldlaw18_DropThen.j0 : Nat → Int → List (S42) → ByteArray → Int → Int → List Int → List (S72) → Int → ByteArray → List (S74) → Option (Bool)
 | 0, _, _, _, _, _, _, _, _, _, _ => none
 | k + 1, x0, x6, x7, x385000, x385001, x385002, x385003, x385004, x385005, x385006 => (drop_Release.f x385000 x385001 x385002 x385003 x385004 x385005 x385006 x6 5 (⟨#[109, 101]⟩ : ByteArray) 10).bind fun bt388 => ((drop_Decline.f x385000 x385001 x385002 x385003 x385004 x385005 x385006 x6 5 (⟨#[109, 101]⟩ : ByteArray) 10).bind fun bt392 => ((pinfoldlaw0_Num.f bt388.2).bind fun t396 => (if t396 = 0 then ((pinfoldlaw0_Num.f bt392.2).bind fun t397 => (pinfoldlaw18_DropThen.j1 k x0 x7 bt388.1 bt392.1 (t397 != 0) x385000 x385001 x385002 x385003 x385004 x385005 x385006)) else (pinfoldlaw18_DropThen.j1 k x0 x7 bt388.1 bt392.1 true x385000 x385001 x385002 x385003 x385004 x385005 x385006))))
def pinfoldlaw18_DropThen.j1 : Nat → Int → ByteArray → List (S42) → List (S42) → Bool → Int → Int → List Int → List (S72) → Int → ByteArray → List (S74) → Option (Bool)
 | 0, _, _, _, _, _, _, _, _, _, _, _, _ => none
 | k + 1, x0, x7, x8, x10, x43, x385000, x385001, x385002, x385003, x385004, x385005, x385006 => if x43 = true then (none) else ((pinfoldref11_Pick_c.f x385000 x385001 x385002 x385003 x385004 x385005 x385006 x8 (wrap64 (5 + (Go.bits .and .i64 x0 127))) x7 0).bind fun bt398 => ((pinfoldref11_Pick_c.f x385000 x385001 x385002 x385003 x385004 x385005 x385006 x10 (wrap64 (5 + (Go.bits .and .i64 x0 127))) x7 10).bind fun bt400 => (if (wrap64 (5 + (Go.bits .and .i64 x0 127))) < 69 then (if bt398.1 = 10 then (if bt398.2 = 0 then (if bt400.1 = 0 then (some (bt400.2 == 1401)) else (none)) else (none)) else (none)) else (if bt398.1 = 10 then (if bt398.2 = 0 then (if bt400.1 = 10 then (some (bt400.2 == 0)) else (none)) else (none)) else (none)))))
end
def pinfoldlaw18_DropThen.f (k : Nat) (a0 : Int) (a1 : Bool) : Option (Bool) := (pinfoldlaw18_awake.f k).bind fun t370 => (if t370 = true then ((pinfoldlaw18_given.f).bind fun bt371 => ((some (([(⟨10, 2, (⟨#[109, 101]⟩ : ByteArray), 900, (⟨#[]⟩ : ByteArray), false⟩ : S42), (⟨11, 2, (⟨#[120]⟩ : ByteArray), 900, (⟨#[]⟩ : ByteArray), false⟩ : S42)] : List (S42)) : List (S42))).bind fun y385 => (if a1 = true then (pinfoldlaw18_DropThen.j0 k a0 y385 (⟨#[110, 101, 119]⟩ : ByteArray) bt371.1 bt371.2.1 bt371.2.2.1 bt371.2.2.2.1 bt371.2.2.2.2.1 bt371.2.2.2.2.2.1 bt371.2.2.2.2.2.2) else (pinfoldlaw18_DropThen.j0 k a0 y385 (⟨#[109, 101]⟩ : ByteArray) bt371.1 bt371.2.1 bt371.2.2.1 bt371.2.2.2.1 bt371.2.2.2.2.1 bt371.2.2.2.2.2.1 bt371.2.2.2.2.2.2)))) else (none))
theorem pinfoldlaw18_DropThen.mono_l : ∀ k, (∀ y0 y1 y2 y3 y4 y5 y6 y7 y8 y9, LeO (pinfoldlaw18_DropThen.j0 k y0 y1 y2 y3 y4 y5 y6 y7 y8 y9) (pinfoldlaw18_DropThen.j0 (k + 1) y0 y1 y2 y3 y4 y5 y6 y7 y8 y9)) ∧ (∀ y0 y1 y2 y3 y4 y5 y6 y7 y8 y9 y10 y11, LeO (pinfoldlaw18_DropThen.j1 k y0 y1 y2 y3 y4 y5 y6 y7 y8 y9 y10 y11) (pinfoldlaw18_DropThen.j1 (k + 1) y0 y1 y2 y3 y4 y5 y6 y7 y8 y9 y10 y11))
 | 0 => ⟨fun _ _ _ _ _ _ _ _ _ _ r h => by simp [pinfoldlaw18_DropThen.j0] at h, fun _ _ _ _ _ _ _ _ _ _ _ _ r h => by simp [pinfoldlaw18_DropThen.j1] at h⟩
 | k + 1 => by
  obtain ⟨ih0, ih1⟩ := pinfoldlaw18_DropThen.mono_l k
  refine ⟨?_, ?_⟩
  ·intro y0 y1 y2 y3 y4 y5 y6 y7 y8 y9
   unfold pinfoldlaw18_DropThen.j0
   repeat' first
   | (with_reducible exact ih0 _ _ _ _ _ _ _ _ _ _)
   | (with_reducible exact ih1 _ _ _ _ _ _ _ _ _ _ _ _)
   | (with_reducible exact pinfoldlaw18_awake.mono _)
   | (with_reducible exact LeO.refl _)
   | (with_reducible exact LeO.none _)
   | (with_reducible refine LeO.ite ?_ ?_)
   | (with_reducible refine LeO.bind ?_ (fun _ => ?_))
   | exact ih0 _ _ _ _ _ _ _ _ _ _
   | exact ih1 _ _ _ _ _ _ _ _ _ _ _ _
   | exact pinfoldlaw18_awake.mono _
   | exact LeO.none _
   | refine LeO.ite ?_ ?_
   | refine LeO.bind ?_ (fun _ => ?_)
  ·intro y0 y1 y2 y3 y4 y5 y6 y7 y8 y9 y10 y11
   unfold pinfoldlaw18_DropThen.j1
   repeat' first
   | (with_reducible exact ih0 _ _ _ _ _ _ _ _ _ _)
   | (with_reducible exact ih1 _ _ _ _ _ _ _ _ _ _ _ _)
   | (with_reducible exact pinfoldlaw18_awake.mono _)
   | (with_reducible exact LeO.refl _)
   | (with_reducible exact LeO.none _)
   | (with_reducible refine LeO.ite ?_ ?_)
   | (with_reducible refine LeO.bind ?_ (fun _ => ?_))
   | exact ih0 _ _ _ _ _ _ _ _ _ _
   | exact ih1 _ _ _ _ _ _ _ _ _ _ _ _
   | exact pinfoldlaw18_awake.mono _
   | exact LeO.none _
   | refine LeO.ite ?_ ?_
   | refine LeO.bind ?_ (fun _ => ?_)
theorem pinfoldlaw18_DropThen.mono : ∀ a0 a1 k, LeO (pinfoldlaw18_DropThen.f k a0 a1) (pinfoldlaw18_DropThen.f (k + 1) a0 a1) := by
 intro a0 a1 k
 obtain ⟨ih0, ih1⟩ := pinfoldlaw18_DropThen.mono_l k
 unfold pinfoldlaw18_DropThen.f
 repeat' first
   | (with_reducible exact ih0 _ _ _ _ _ _ _ _ _ _)
   | (with_reducible exact ih1 _ _ _ _ _ _ _ _ _ _ _ _)
   | (with_reducible exact pinfoldlaw18_awake.mono _)
   | (with_reducible exact LeO.refl _)
   | (with_reducible exact LeO.none _)
   | (with_reducible refine LeO.ite ?_ ?_)
   | (with_reducible refine LeO.bind ?_ (fun _ => ?_))
   | exact ih0 _ _ _ _ _ _ _ _ _ _
   | exact ih1 _ _ _ _ _ _ _ _ _ _ _ _
   | exact pinfoldlaw18_awake.mono _
   | exact LeO.none _
   | refine LeO.ite ?_ ?_
   | refine LeO.bind ?_ (fun _ => ?_)
set_option maxHeartbeats 8000000 in
set_option maxRecDepth 100000 in
theorem pinfoldlaw18_DropThen.calls (k : Nat) (a0 : Int) (a1 : Bool) (r : Bool) (w : World) (h : pinfoldlaw18_DropThen.f k a0 a1 = some r) :
  Calls Tryd.prog 6 #[.int .i64 a0, .bool a1] w fun e w' => e = .returned (.bool r) ∧ Below w.heap.size w w' := by
 have hu26 := Tryd.underlying26
 have hu42 := Tryd.underlying42
 have HB := am_ (Below.refl w.heap.size w)
 have H : ((pinfoldlaw18_awake.f k).bind fun t370 => (if t370 = true then ((pinfoldlaw18_given.f).bind fun bt371 => ((some (([(⟨10, 2, (⟨#[109, 101]⟩ : ByteArray), 900, (⟨#[]⟩ : ByteArray), false⟩ : S42), (⟨11, 2, (⟨#[120]⟩ : ByteArray), 900, (⟨#[]⟩ : ByteArray), false⟩ : S42)] : List (S42)) : List (S42))).bind fun y385 => (if a1 = true then (pinfoldlaw18_DropThen.j0 k a0 y385 (⟨#[110, 101, 119]⟩ : ByteArray) bt371.1 bt371.2.1 bt371.2.2.1 bt371.2.2.2.1 bt371.2.2.2.2.1 bt371.2.2.2.2.2.1 bt371.2.2.2.2.2.2) else (pinfoldlaw18_DropThen.j0 k a0 y385 (⟨#[109, 101]⟩ : ByteArray) bt371.1 bt371.2.1 bt371.2.2.1 bt371.2.2.2.1 bt371.2.2.2.2.1 bt371.2.2.2.2.2.1 bt371.2.2.2.2.2.2)))) else (none))) = some r := h
 clear h
 replace H := e4_ H
 obtain ⟨t370, A30, H⟩ := H
 replace H : (if t370 = true then ((pinfoldlaw18_given.f).bind fun bt371 => ((some (([(⟨10, 2, (⟨#[109, 101]⟩ : ByteArray), 900, (⟨#[]⟩ : ByteArray), false⟩ : S42), (⟨11, 2, (⟨#[120]⟩ : ByteArray), 900, (⟨#[]⟩ : ByteArray), false⟩ : S42)] : List (S42)) : List (S42))).bind fun y385 => (if a1 = true then (pinfoldlaw18_DropThen.j0 k a0 y385 (⟨#[110, 101, 119]⟩ : ByteArray) bt371.1 bt371.2.1 bt371.2.2.1 bt371.2.2.2.1 bt371.2.2.2.2.1 bt371.2.2.2.2.2.1 bt371.2.2.2.2.2.2) else (pinfoldlaw18_DropThen.j0 k a0 y385 (⟨#[109, 101]⟩ : ByteArray) bt371.1 bt371.2.1 bt371.2.2.1 bt371.2.2.2.1 bt371.2.2.2.2.1 bt371.2.2.2.2.2.1 bt371.2.2.2.2.2.2)))) else (none)) = some r := H
 have A3 := am_ A30
 clear A30
 by_cases c4 : t370 = true
 ·subst c4
  have H1 : ((pinfoldlaw18_given.f).bind fun bt371 => ((some (([(⟨10, 2, (⟨#[109, 101]⟩ : ByteArray), 900, (⟨#[]⟩ : ByteArray), false⟩ : S42), (⟨11, 2, (⟨#[120]⟩ : ByteArray), 900, (⟨#[]⟩ : ByteArray), false⟩ : S42)] : List (S42)) : List (S42))).bind fun y385 => (if a1 = true then (pinfoldlaw18_DropThen.j0 k a0 y385 (⟨#[110, 101, 119]⟩ : ByteArray) bt371.1 bt371.2.1 bt371.2.2.1 bt371.2.2.2.1 bt371.2.2.2.2.1 bt371.2.2.2.2.2.1 bt371.2.2.2.2.2.2) else (pinfoldlaw18_DropThen.j0 k a0 y385 (⟨#[109, 101]⟩ : ByteArray) bt371.1 bt371.2.1 bt371.2.2.1 bt371.2.2.2.1 bt371.2.2.2.2.1 bt371.2.2.2.2.2.1 bt371.2.2.2.2.2.2)))) = some r := by rw [if_pos rfl] at H; exact H
  clear H
  have H := H1
  clear H1
  replace H := e4_ H
  obtain ⟨⟨t371, t372, t373, t376, t379, t380, t381⟩, A50, H⟩ := H
  replace H : ((some (([(⟨10, 2, (⟨#[109, 101]⟩ : ByteArray), 900, (⟨#[]⟩ : ByteArray), false⟩ : S42), (⟨11, 2, (⟨#[120]⟩ : ByteArray), 900, (⟨#[]⟩ : ByteArray), false⟩ : S42)] : List (S42)) : List (S42))).bind fun y385 => (if a1 = true then (pinfoldlaw18_DropThen.j0 k a0 y385 (⟨#[110, 101, 119]⟩ : ByteArray) t371 t372 t373 t376 t379 t380 t381) else (pinfoldlaw18_DropThen.j0 k a0 y385 (⟨#[109, 101]⟩ : ByteArray) t371 t372 t373 t376 t379 t380 t381))) = some r := H
  have A5 := am_ A50
  clear A50
  obtain ⟨y385, hy385⟩ : ∃ y_ : List (S42), y_ = (([(⟨10, 2, (⟨#[109, 101]⟩ : ByteArray), 900, (⟨#[]⟩ : ByteArray), false⟩ : S42), (⟨11, 2, (⟨#[120]⟩ : ByteArray), 900, (⟨#[]⟩ : ByteArray), false⟩ : S42)] : List (S42))) := ⟨_, rfl⟩
  replace H : (if a1 = true then (pinfoldlaw18_DropThen.j0 k a0 y385 (⟨#[110, 101, 119]⟩ : ByteArray) t371 t372 t373 t376 t379 t380 t381) else (pinfoldlaw18_DropThen.j0 k a0 y385 (⟨#[109, 101]⟩ : ByteArray) t371 t372 t373 t376 t379 t380 t381)) = some r := by first | (rw [hy385]; with_reducible exact H) | (have H2_ := (Option.bind_some _ _).symm.trans H; rw [hy385]; with_reducible exact H2_) | (have H2_ := (Option.bind_some _ _).symm.trans H; with_reducible exact H2_) | with_reducible exact H | (rw [hy385]; exact H) | exact H
  have Ny385 := am_ hy385
  clear hy385
  have HC6 := am_ H
  clear H
  go_enter Tryd.func6, Tryd.ntmps6
  go_upto_if 23 with (first | ((with_reducible refine gate_callee (f := 24) rfl ?_); refine goesL_ (some 17) rfl rfl Tryd.func24 (by kernel_rfl) rfl #[] rfl (by (try simp only [List.map_toArray, List.map_cons, List.map_nil]); first | done | rfl | (simp only [List.length_drop, List.length_take]; rfl)) ?_; (with_reducible refine (pinfoldlaw18_awake.calls k  true _ A3.out).mono ?_); rintro e w7 ⟨rfl, hb⟩; refine ⟨_, rfl, ?_⟩; have n0_ := am_ (bt_ (by repeat (with_reducible first | exact HB.out | apply p3_ | apply p1_ | apply p2_)) hb); clear HB; have HB := n0_; clear n0_; (try clear hb)) | ((with_reducible refine gate_callee (f := 26) rfl ?_); refine goesL_ (some 19) rfl rfl Tryd.func26 (by kernel_rfl) rfl #[] rfl (by (try simp only [List.map_toArray, List.map_cons, List.map_nil]); first | done | rfl | (simp only [List.length_drop, List.length_take]; rfl)) ?_; (with_reducible refine (pinfoldlaw18_given.calls  t371 t372 t373 t376 t379 t380 t381 _ A5.out).mono ?_); rintro e w8 ⟨v374, v377, v382, rfl, ho0, ho1, ho2, hb⟩; refine ⟨_, rfl, ?_⟩; have n0_ := am_ (Kd.R_lower ho0 (bz_ (by repeat (with_reducible first | exact HB.out | apply p3_ | apply p1_ | apply p2_)))); have n1_ := am_ (Kd.R_lower ho1 (bz_ (by repeat (with_reducible first | exact HB.out | apply p3_ | apply p1_ | apply p2_)))); have n2_ := am_ (Kd.R_lower ho2 (bz_ (by repeat (with_reducible first | exact HB.out | apply p3_ | apply p1_ | apply p2_)))); have n3_ := am_ (bt_ (by repeat (with_reducible first | exact HB.out | apply p3_ | apply p1_ | apply p2_)) hb); clear HB; have HO375 := n0_; have HO378 := n1_; have HO383 := n2_; have HB := n3_; clear n0_ n1_ n2_ n3_; (try clear hb); (try clear ho0); (try clear ho1); (try clear ho2)) | ((with_reducible refine gate_dst (N := 5) rfl ?_); refine box_event ?hg (N := 5) ?hd (cs := #[.int .i64 0, .int .i64 0, .slice none 0 0, .slice none 0 0, .int .i64 0, .string (⟨#[]⟩ : ByteArray), .slice none 0 0]) (t := 26) ?hr ?_; (case hd => rfl); (case hg => rfl); (case hr => first | (go_simp; done) | (go_simp; rfl)); intro gb384 hg w9 hbox hb; have n0_ := am_ (Kd.R_below (by (with_reducible repeat (first | apply r1_ | apply r2_ | apply r3_)); exact HO375.out) hb); have n1_ := am_ (Kd.R_below (by (with_reducible repeat (first | apply r1_ | apply r2_ | apply r3_)); exact HO378.out) hb); have n2_ := am_ (Kd.R_below (by (with_reducible repeat (first | apply r1_ | apply r2_ | apply r3_)); exact HO383.out) hb); have n3_ := am_ (bt_ (by repeat (with_reducible first | exact HB.out | apply p3_ | apply p1_ | apply p2_)) hb); have n4_ := am_ (hbox); have n5_ := am_ ((by rw [hg]; exact (bz_ (by repeat (with_reducible first | exact HB.out | apply p3_ | apply p1_ | apply p2_))) : w.heap.size ≤ gb384)); have n6_ := am_ ((by rw [hg]; exact (bz_ (by repeat (with_reducible first | exact HB.out | apply p3_ | apply p1_ | apply p2_))) : w.heap.size ≤ gb384)); clear HO375; clear HO378; clear HO383; clear HB; have HO375 := n0_; have HO378 := n1_; have HO383 := n2_; have HB := n3_; have BK384 := n4_; have GW384 := n5_; have GE384 := n6_; clear n0_ n1_ n2_ n3_ n4_ n5_ n6_; clear hb hbox hg; have hcz10_0 : w9.cell? ⟨gb384, 0, none⟩ = some (.int .i64 0) := (bc_ BK384.out 0).trans rfl; have hcz10_1 : w9.cell? ⟨gb384, 1, none⟩ = some (.int .i64 0) := (bc_ BK384.out 1).trans rfl; have hcz10_2 : w9.cell? ⟨gb384, 2, none⟩ = some (.slice none 0 0) := (bc_ BK384.out 2).trans rfl; have hcz10_3 : w9.cell? ⟨gb384, 3, none⟩ = some (.slice none 0 0) := (bc_ BK384.out 3).trans rfl; have hcz10_4 : w9.cell? ⟨gb384, 4, none⟩ = some (.int .i64 0) := (bc_ BK384.out 4).trans rfl; have hcz10_5 : w9.cell? ⟨gb384, 5, none⟩ = some (.string (⟨#[]⟩ : ByteArray)) := (bc_ BK384.out 5).trans rfl; have hcz10_6 : w9.cell? ⟨gb384, 6, none⟩ = some (.slice none 0 0) := (bc_ BK384.out 6).trans rfl; have hfz10_0 := bf_ BK384.out 0; have hfz10_1 := bf_ BK384.out 1; have hfz10_2 := bf_ BK384.out 2; have hfz10_3 := bf_ BK384.out 3; have hfz10_4 := bf_ BK384.out 4; have hfz10_5 := bf_ BK384.out 5; have hfz10_6 := bf_ BK384.out 6; obtain ⟨Ao11, co11, eo11⟩ := Kd.R_slice HO375.out; subst eo11; obtain ⟨Ao12, co12, eo12⟩ := Kd.R_slice HO378.out; subst eo12; obtain ⟨Ao13, co13, eo13⟩ := Kd.R_slice HO383.out; subst eo13) | ((with_reducible refine gate_dst (N := 22) rfl ?_); refine Kd.R_lit k42 _ 42 ?hg (N := 22) ?hd (xs := ([(⟨10, 2, (⟨#[109, 101]⟩ : ByteArray), 900, (⟨#[]⟩ : ByteArray), false⟩ : S42), (⟨11, 2, (⟨#[120]⟩ : ByteArray), 900, (⟨#[]⟩ : ByteArray), false⟩ : S42)] : List (S42))) (inner := [.int .i64 10, .int .i64 2, .string (⟨#[109, 101]⟩ : ByteArray), .int .i64 900, .string (⟨#[]⟩ : ByteArray), .bool false, .int .i64 11, .int .i64 2, .string (⟨#[120]⟩ : ByteArray), .int .i64 900, .string (⟨#[]⟩ : ByteArray), .bool false]) (ok := fun _ => True) (okp := fun _ => True) ?hr ?hp (fun _ hk => hk) trivial (Below.refl _ _) (Nat.le_refl _) (by simp) ?_; (case hd => rfl); (case hg => rfl); (case hr => first | (go_simp; done) | (go_simp; rfl)); (case hp => exact (Reps.c6 (show Kd.M k42 _ _ _ (⟨10, 2, (⟨#[109, 101]⟩ : ByteArray), 900, (⟨#[]⟩ : ByteArray), false⟩ : S42) [.int .i64 10, .int .i64 2, .string (⟨#[109, 101]⟩ : ByteArray), .int .i64 900, .string (⟨#[]⟩ : ByteArray), .bool false] from (k42_mkM _ _ _ (⟨10, 2, (⟨#[109, 101]⟩ : ByteArray), 900, (⟨#[]⟩ : ByteArray), false⟩ : S42) )) (Reps.c6 (show Kd.M k42 _ _ _ (⟨11, 2, (⟨#[120]⟩ : ByteArray), 900, (⟨#[]⟩ : ByteArray), false⟩ : S42) [.int .i64 11, .int .i64 2, .string (⟨#[120]⟩ : ByteArray), .int .i64 900, .string (⟨#[]⟩ : ByteArray), .bool false] from (k42_mkM _ _ _ (⟨11, 2, (⟨#[120]⟩ : ByteArray), 900, (⟨#[]⟩ : ByteArray), false⟩ : S42) )) (Reps.none _ _)))); intro v386 w14 ho15 hb hg_ hnew_; clear hg_ hnew_; (first | rw [← Ny385.out] at ho15 | (simp only [Int.reduceToNat] at ho15; rw [← Ny385.out] at ho15)); have n0_ := am_ (Kd.R_below (by (with_reducible repeat (first | apply r1_ | apply r2_ | apply r3_)); exact (Kd.R_mono (Kd.R_far (p := ⟨gb384, 6, none⟩) (Kd.R_far (p := ⟨gb384, 5, none⟩) (Kd.R_far (p := ⟨gb384, 4, none⟩) (Kd.R_far (p := ⟨gb384, 3, none⟩) (Kd.R_far (p := ⟨gb384, 2, none⟩) (Kd.R_far (p := ⟨gb384, 1, none⟩) (Kd.R_far (p := ⟨gb384, 0, none⟩) (Kd.R_types HO375.out BK384.out (by decide)) (fun _ hk => hk.2) (.int .i64 t371)) (fun _ hk => hk.2) (.int .i64 t372)) (fun _ hk => hk.2) (.slice Ao11 t373.length co11)) (fun _ hk => hk.2) (.slice Ao12 t376.length co12)) (fun _ hk => hk.2) (.int .i64 t379)) (fun _ hk => hk.2) (.string t380)) (fun _ hk => hk.2) (.slice Ao13 t381.length co13)) (fun _ h_ => h_.1))) hb); have n1_ := am_ (Kd.R_below (by (with_reducible repeat (first | apply r1_ | apply r2_ | apply r3_)); exact (Kd.R_mono (Kd.R_far (p := ⟨gb384, 6, none⟩) (Kd.R_far (p := ⟨gb384, 5, none⟩) (Kd.R_far (p := ⟨gb384, 4, none⟩) (Kd.R_far (p := ⟨gb384, 3, none⟩) (Kd.R_far (p := ⟨gb384, 2, none⟩) (Kd.R_far (p := ⟨gb384, 1, none⟩) (Kd.R_far (p := ⟨gb384, 0, none⟩) (Kd.R_types HO378.out BK384.out (by decide)) (fun _ hk => hk.2) (.int .i64 t371)) (fun _ hk => hk.2) (.int .i64 t372)) (fun _ hk => hk.2) (.slice Ao11 t373.length co11)) (fun _ hk => hk.2) (.slice Ao12 t376.length co12)) (fun _ hk => hk.2) (.int .i64 t379)) (fun _ hk => hk.2) (.string t380)) (fun _ hk => hk.2) (.slice Ao13 t381.length co13)) (fun _ h_ => h_.1))) hb); have n2_ := am_ (Kd.R_below (by (with_reducible repeat (first | apply r1_ | apply r2_ | apply r3_)); exact (Kd.R_mono (Kd.R_far (p := ⟨gb384, 6, none⟩) (Kd.R_far (p := ⟨gb384, 5, none⟩) (Kd.R_far (p := ⟨gb384, 4, none⟩) (Kd.R_far (p := ⟨gb384, 3, none⟩) (Kd.R_far (p := ⟨gb384, 2, none⟩) (Kd.R_far (p := ⟨gb384, 1, none⟩) (Kd.R_far (p := ⟨gb384, 0, none⟩) (Kd.R_types HO383.out BK384.out (by decide)) (fun _ hk => hk.2) (.int .i64 t371)) (fun _ hk => hk.2) (.int .i64 t372)) (fun _ hk => hk.2) (.slice Ao11 t373.length co11)) (fun _ hk => hk.2) (.slice Ao12 t376.length co12)) (fun _ hk => hk.2) (.int .i64 t379)) (fun _ hk => hk.2) (.string t380)) (fun _ hk => hk.2) (.slice Ao13 t381.length co13)) (fun _ h_ => h_.1))) hb); have n3_ := am_ (Kd.R_lower ho15 (bz_ (by repeat (with_reducible first | exact HB.out | apply p3_ | apply p1_ | apply p2_ | refine bs_ ?_ GE384.out)))); have n4_ := am_ (kb_ (g := gb384) (o := .cells #[.int .i64 t371, .int .i64 t372, .slice Ao11 t373.length co11, .slice Ao12 t376.length co12, .int .i64 t379, .string t380, .slice Ao13 t381.length co13] 26 (0, 0)) (by (with_reducible repeat (first | refine k2_ ?_ _ | refine k3_ ?_ | refine k1_ ?_ _)); refine blk_put (cs := #[.int .i64 t371, .int .i64 t372, .slice Ao11 t373.length co11, .slice Ao12 t376.length co12, .int .i64 t379, .string t380, .slice none 0 0]) ?_ 6 _ rfl; (with_reducible repeat (first | refine k2_ ?_ _ | refine k3_ ?_ | refine k1_ ?_ _)); refine blk_put (cs := #[.int .i64 t371, .int .i64 t372, .slice Ao11 t373.length co11, .slice Ao12 t376.length co12, .int .i64 t379, .string (⟨#[]⟩ : ByteArray), .slice none 0 0]) ?_ 5 _ rfl; (with_reducible repeat (first | refine k2_ ?_ _ | refine k3_ ?_ | refine k1_ ?_ _)); refine blk_put (cs := #[.int .i64 t371, .int .i64 t372, .slice Ao11 t373.length co11, .slice Ao12 t376.length co12, .int .i64 0, .string (⟨#[]⟩ : ByteArray), .slice none 0 0]) ?_ 4 _ rfl; (with_reducible repeat (first | refine k2_ ?_ _ | refine k3_ ?_ | refine k1_ ?_ _)); refine blk_put (cs := #[.int .i64 t371, .int .i64 t372, .slice Ao11 t373.length co11, .slice none 0 0, .int .i64 0, .string (⟨#[]⟩ : ByteArray), .slice none 0 0]) ?_ 3 _ rfl; (with_reducible repeat (first | refine k2_ ?_ _ | refine k3_ ?_ | refine k1_ ?_ _)); refine blk_put (cs := #[.int .i64 t371, .int .i64 t372, .slice none 0 0, .slice none 0 0, .int .i64 0, .string (⟨#[]⟩ : ByteArray), .slice none 0 0]) ?_ 2 _ rfl; (with_reducible repeat (first | refine k2_ ?_ _ | refine k3_ ?_ | refine k1_ ?_ _)); refine blk_put (cs := #[.int .i64 t371, .int .i64 0, .slice none 0 0, .slice none 0 0, .int .i64 0, .string (⟨#[]⟩ : ByteArray), .slice none 0 0]) ?_ 1 _ rfl; (with_reducible repeat (first | refine k2_ ?_ _ | refine k3_ ?_ | refine k1_ ?_ _)); refine blk_put (cs := #[.int .i64 0, .int .i64 0, .slice none 0 0, .slice none 0 0, .int .i64 0, .string (⟨#[]⟩ : ByteArray), .slice none 0 0]) ?_ 0 _ rfl; (with_reducible repeat (first | refine k2_ ?_ _ | refine k3_ ?_ | refine k1_ ?_ _)); exact BK384.out) hb); have n5_ := am_ (bt_ (by repeat (with_reducible first | exact HB.out | apply p3_ | apply p1_ | apply p2_ | refine bs_ ?_ GE384.out)) hb); clear HO375; clear HO378; clear HO383; clear BK384; clear HB; have HO375 := n0_; have HO378 := n1_; have HO383 := n2_; have HO387 := n3_; have BK384 := n4_; have HB := n5_; clear n0_ n1_ n2_ n3_ n4_ n5_; clear hb ho15))
  (try simp only [Act.put, sa_, sb_, sc_])
  go_cut [7] (fun v7 wc => ∃ (kq : Nat) (x7_5 : ByteArray), v7 = .string x7_5 ∧ Aside0 (pinfoldlaw18_DropThen.j0 kq a0 y385 x7_5 t371 t372 t373 t376 t379 t380 t381 = some r) ∧ Aside0 (kq ≤ k) ∧ Aside0 (Kd.R k42 42 wc w.heap.size (fun _ => True) v386 y385) ∧ Aside0 (Kd.R (Kd.int .i64) 3 wc w.heap.size (fun _ => True) (.slice Ao11 t373.length co11) t373) ∧ Aside0 (Kd.R k72 72 wc w.heap.size (fun _ => True) (.slice Ao12 t376.length co12) t376) ∧ Aside0 (Kd.R k74 74 wc w.heap.size (fun _ => True) (.slice Ao13 t381.length co13) t381) ∧ Aside0 (wc.heap[gb384]? = some (.cells #[.int .i64 t371, .int .i64 t372, (.slice Ao11 t373.length co11), (.slice Ao12 t376.length co12), .int .i64 t379, .string t380, (.slice Ao13 t381.length co13)] 26 (0, 0))) ∧ Aside0 (Below w.heap.size w wc))
  case first =>
   have H := HC6.out
   clear HC6
   by_cases c16 : a1 = true
   ·subst c16
    have H1 : (pinfoldlaw18_DropThen.j0 k a0 y385 (⟨#[110, 101, 119]⟩ : ByteArray) t371 t372 t373 t376 t379 t380 t381) = some r := by rw [if_pos rfl] at H; exact H
    clear H
    have H := H1
    clear H1
    have H' := am_ H
    clear H
    go_wp2
    go_meet
    case rel => exact ⟨_, ((⟨#[110, 101, 119]⟩ : ByteArray)), (by first | rfl | (simp; done) | (simp [*]; done)), H', ⟨by first | omega | exact Nat.le_refl _⟩, ⟨by (with_reducible repeat (first | apply r1_ | apply r2_ | apply r3_)); exact HO387.out⟩, ⟨by (with_reducible repeat (first | apply r1_ | apply r2_ | apply r3_)); exact HO375.out⟩, ⟨by (with_reducible repeat (first | apply r1_ | apply r2_ | apply r3_)); exact HO378.out⟩, ⟨by (with_reducible repeat (first | apply r1_ | apply r2_ | apply r3_)); exact HO383.out⟩, ⟨by (with_reducible repeat (first | refine k2_ ?_ _ | refine k3_ ?_ | refine k1_ ?_ _)); exact BK384.out⟩, ⟨by repeat (with_reducible first | exact HB.out | apply p3_ | apply p1_ | apply p2_ | refine bs_ ?_ GE384.out)⟩⟩
   replace c16 := e3_ c16
   subst c16
   have H1 : (pinfoldlaw18_DropThen.j0 k a0 y385 (⟨#[109, 101]⟩ : ByteArray) t371 t372 t373 t376 t379 t380 t381) = some r := by rw [if_neg (show ¬ (false = true) by decide)] at H; exact H
   clear H
   have H := H1
   clear H1
   have H' := am_ H
   clear H
   go_wp2
   go_meet
   case rel => exact ⟨_, ((⟨#[109, 101]⟩ : ByteArray)), (by first | rfl | (simp; done) | (simp [*]; done)), H', ⟨by first | omega | exact Nat.le_refl _⟩, ⟨by (with_reducible repeat (first | apply r1_ | apply r2_ | apply r3_)); exact HO387.out⟩, ⟨by (with_reducible repeat (first | apply r1_ | apply r2_ | apply r3_)); exact HO375.out⟩, ⟨by (with_reducible repeat (first | apply r1_ | apply r2_ | apply r3_)); exact HO378.out⟩, ⟨by (with_reducible repeat (first | apply r1_ | apply r2_ | apply r3_)); exact HO383.out⟩, ⟨by (with_reducible repeat (first | refine k2_ ?_ _ | refine k3_ ?_ | refine k1_ ?_ _)); exact BK384.out⟩, ⟨by repeat (with_reducible first | exact HB.out | apply p3_ | apply p1_ | apply p2_ | refine bs_ ?_ GE384.out)⟩⟩
  case rest =>
   clear HC6
   (try clear c4); (try clear c6); (try clear hcz10_0); (try clear hcz10_1); (try clear hcz10_2); (try clear hcz10_3); (try clear hcz10_4); (try clear hcz10_5); (try clear hcz10_6); (try clear hfz10_0); (try clear hfz10_1); (try clear hfz10_2); (try clear hfz10_3); (try clear hfz10_4); (try clear hfz10_5); (try clear hfz10_6)
   obtain ⟨kq, x7_5, rfl, HA, HJ5, HO_6, HO_385002, HO_385003, HO_385006, BK384, HB⟩ := hcut
   cases kq with
   | zero => exact absurd HA.out (by simp [pinfoldlaw18_DropThen.j0])
   | succ kj5 =>
    have H := HA.out
    clear HA
    simp only [pinfoldlaw18_DropThen.j0] at H
    replace H := e4_ H
    obtain ⟨⟨t388, t391⟩, A170, H⟩ := H
    replace H : ((drop_Decline.f t371 t372 t373 t376 t379 t380 t381 y385 5 (⟨#[109, 101]⟩ : ByteArray) 10).bind fun bt392 => ((pinfoldlaw0_Num.f t391).bind fun t396 => (if t396 = 0 then ((pinfoldlaw0_Num.f bt392.2).bind fun t397 => (pinfoldlaw18_DropThen.j1 kj5 a0 x7_5 t388 bt392.1 (t397 != 0) t371 t372 t373 t376 t379 t380 t381)) else (pinfoldlaw18_DropThen.j1 kj5 a0 x7_5 t388 bt392.1 true t371 t372 t373 t376 t379 t380 t381)))) = some r := H
    have A17 := am_ A170
    clear A170
    replace H := e4_ H
    obtain ⟨⟨t392, t395⟩, A180, H⟩ := H
    replace H : ((pinfoldlaw0_Num.f t391).bind fun t396 => (if t396 = 0 then ((pinfoldlaw0_Num.f t395).bind fun t397 => (pinfoldlaw18_DropThen.j1 kj5 a0 x7_5 t388 t392 (t397 != 0) t371 t372 t373 t376 t379 t380 t381)) else (pinfoldlaw18_DropThen.j1 kj5 a0 x7_5 t388 t392 true t371 t372 t373 t376 t379 t380 t381))) = some r := H
    have A18 := am_ A180
    clear A180
    have HC19 := am_ H
    clear H
    have hcz20_0 : wc.cell? ⟨gb384, 0, none⟩ = some (.int .i64 t371) := (bc_ BK384.out 0).trans rfl; have hcz20_1 : wc.cell? ⟨gb384, 1, none⟩ = some (.int .i64 t372) := (bc_ BK384.out 1).trans rfl; have hcz20_2 : wc.cell? ⟨gb384, 2, none⟩ = some (.slice Ao11 t373.length co11) := (bc_ BK384.out 2).trans rfl; have hcz20_3 : wc.cell? ⟨gb384, 3, none⟩ = some (.slice Ao12 t376.length co12) := (bc_ BK384.out 3).trans rfl; have hcz20_4 : wc.cell? ⟨gb384, 4, none⟩ = some (.int .i64 t379) := (bc_ BK384.out 4).trans rfl; have hcz20_5 : wc.cell? ⟨gb384, 5, none⟩ = some (.string t380) := (bc_ BK384.out 5).trans rfl; have hcz20_6 : wc.cell? ⟨gb384, 6, none⟩ = some (.slice Ao13 t381.length co13) := (bc_ BK384.out 6).trans rfl; have hfz20_0 := bf_ BK384.out 0; have hfz20_1 := bf_ BK384.out 1; have hfz20_2 := bf_ BK384.out 2; have hfz20_3 := bf_ BK384.out 3; have hfz20_4 := bf_ BK384.out 4; have hfz20_5 := bf_ BK384.out 5; have hfz20_6 := bf_ BK384.out 6
    obtain ⟨Ao21, co21, eo21⟩ := Kd.R_slice HO_6.out
    subst eo21
    go_upto_region 10 with (first | ((with_reducible refine gate_callee (f := 15) rfl ?_); refine goesL_ (some 27) rfl rfl Tryd.func15 (by kernel_rfl) rfl #[.agg #[.int .i64 t371, .int .i64 t372, .slice Ao11 t373.length co11, .slice Ao12 t376.length co12, .int .i64 t379, .string t380, .slice Ao13 t381.length co13], .slice Ao21 y385.length co21, .int .i64 5, .string (⟨#[109, 101]⟩ : ByteArray), .int .i64 10] rfl (by (try simp only [List.map_toArray, List.map_cons, List.map_nil]); first | done | rfl | (simp only [List.length_drop, List.length_take]; rfl)) ?_; (with_reducible refine (drop_Release.calls t371 t372 _ _ t373 _ _ t376 t379 t380 _ _ t381 _ _ y385 5 (⟨#[109, 101]⟩ : ByteArray) 10 t388 t391 _ ?side1 ?side2 ?side3 ?side4 ?side5 ?side6 ?side7 ?side8 A17.out).mono ?_); (case side1 => repeat (first | exact (Kd.R_reads' HO_385002.out).2.2 | (with_reducible refine c1_ ?_ _) | (with_reducible refine c2_ ?_ _) | (with_reducible refine c3_ ?_))); (case side2 => exact (Kd.R_reads' HO_385002.out).2.1); (case side3 => repeat (first | exact (Kd.R_reads' HO_385003.out).2.2 | (with_reducible refine c1_ ?_ _) | (with_reducible refine c2_ ?_ _) | (with_reducible refine c3_ ?_))); (case side4 => exact (Kd.R_reads' HO_385003.out).2.1); (case side5 => repeat (first | exact (Kd.R_reads' HO_385006.out).2.2 | (with_reducible refine c1_ ?_ _) | (with_reducible refine c2_ ?_ _) | (with_reducible refine c3_ ?_))); (case side6 => exact (Kd.R_reads' HO_385006.out).2.1); (case side7 => repeat (first | exact (Kd.R_reads' HO_6.out).2.2 | (with_reducible refine c1_ ?_ _) | (with_reducible refine c2_ ?_ _) | (with_reducible refine c3_ ?_))); (case side8 => exact (Kd.R_reads' HO_6.out).2.1); rintro e w22 ⟨v389, rfl, ho0, hb⟩; refine ⟨_, rfl, ?_⟩; have n0_ := am_ (r5_ (by (with_reducible repeat (first | apply r1_ | apply r2_ | apply r3_)); exact HO_6.out) (r4_ ho0) hb); have n1_ := am_ (Kd.R_below (by (with_reducible repeat (first | apply r1_ | apply r2_ | apply r3_)); exact HO_385002.out) hb); have n2_ := am_ (Kd.R_below (by (with_reducible repeat (first | apply r1_ | apply r2_ | apply r3_)); exact HO_385003.out) hb); have n3_ := am_ (Kd.R_below (by (with_reducible repeat (first | apply r1_ | apply r2_ | apply r3_)); exact HO_385006.out) hb); have n4_ := am_ (Kd.R_lower (Kd.R_new' ho0 (Kd.R_lt (by (with_reducible repeat (first | apply r1_ | apply r2_ | apply r3_)); exact HO_6.out))) (bz_ (by repeat (with_reducible first | exact HB.out | apply p3_ | apply p1_ | apply p2_ | refine bs_ ?_ GE384.out)))); have n5_ := am_ (kb_ (g := gb384) (o := .cells #[.int .i64 t371, .int .i64 t372, .slice Ao11 t373.length co11, .slice Ao12 t376.length co12, .int .i64 t379, .string t380, .slice Ao13 t381.length co13] 26 (0, 0)) (by (with_reducible repeat (first | refine k2_ ?_ _ | refine k3_ ?_ | refine k1_ ?_ _)); exact BK384.out) hb); have n6_ := am_ (bt_ (by repeat (with_reducible first | exact HB.out | apply p3_ | apply p1_ | apply p2_ | refine bs_ ?_ GE384.out)) hb); clear HO_6; clear HO_385002; clear HO_385003; clear HO_385006; clear BK384; clear HB; have HO_6 := n0_; have HO_385002 := n1_; have HO_385003 := n2_; have HO_385006 := n3_; have HO390 := n4_; have BK384 := n5_; have HB := n6_; clear n0_ n1_ n2_ n3_ n4_ n5_ n6_; (try clear hb); (try clear ho0); have hcz23_0 : w22.cell? ⟨gb384, 0, none⟩ = some (.int .i64 t371) := (bc_ BK384.out 0).trans rfl; have hcz23_1 : w22.cell? ⟨gb384, 1, none⟩ = some (.int .i64 t372) := (bc_ BK384.out 1).trans rfl; have hcz23_2 : w22.cell? ⟨gb384, 2, none⟩ = some (.slice Ao11 t373.length co11) := (bc_ BK384.out 2).trans rfl; have hcz23_3 : w22.cell? ⟨gb384, 3, none⟩ = some (.slice Ao12 t376.length co12) := (bc_ BK384.out 3).trans rfl; have hcz23_4 : w22.cell? ⟨gb384, 4, none⟩ = some (.int .i64 t379) := (bc_ BK384.out 4).trans rfl; have hcz23_5 : w22.cell? ⟨gb384, 5, none⟩ = some (.string t380) := (bc_ BK384.out 5).trans rfl; have hcz23_6 : w22.cell? ⟨gb384, 6, none⟩ = some (.slice Ao13 t381.length co13) := (bc_ BK384.out 6).trans rfl; have hfz23_0 := bf_ BK384.out 0; have hfz23_1 := bf_ BK384.out 1; have hfz23_2 := bf_ BK384.out 2; have hfz23_3 := bf_ BK384.out 3; have hfz23_4 := bf_ BK384.out 4; have hfz23_5 := bf_ BK384.out 5; have hfz23_6 := bf_ BK384.out 6) | ((with_reducible refine gate_callee (f := 17) rfl ?_); refine goesL_ (some 33) rfl rfl Tryd.func17 (by kernel_rfl) rfl #[.agg #[.int .i64 t371, .int .i64 t372, .slice Ao11 t373.length co11, .slice Ao12 t376.length co12, .int .i64 t379, .string t380, .slice Ao13 t381.length co13], .slice Ao21 y385.length co21, .int .i64 5, .string (⟨#[109, 101]⟩ : ByteArray), .int .i64 10] rfl (by (try simp only [List.map_toArray, List.map_cons, List.map_nil]); first | done | rfl | (simp only [List.length_drop, List.length_take]; rfl)) ?_; (with_reducible refine (drop_Decline.calls t371 t372 _ _ t373 _ _ t376 t379 t380 _ _ t381 _ _ y385 5 (⟨#[109, 101]⟩ : ByteArray) 10 t392 t395 _ ?side1 ?side2 ?side3 ?side4 ?side5 ?side6 ?side7 ?side8 A18.out).mono ?_); (case side1 => repeat (first | exact (Kd.R_reads' HO_385002.out).2.2 | (with_reducible refine c1_ ?_ _) | (with_reducible refine c2_ ?_ _) | (with_reducible refine c3_ ?_))); (case side2 => exact (Kd.R_reads' HO_385002.out).2.1); (case side3 => repeat (first | exact (Kd.R_reads' HO_385003.out).2.2 | (with_reducible refine c1_ ?_ _) | (with_reducible refine c2_ ?_ _) | (with_reducible refine c3_ ?_))); (case side4 => exact (Kd.R_reads' HO_385003.out).2.1); (case side5 => repeat (first | exact (Kd.R_reads' HO_385006.out).2.2 | (with_reducible refine c1_ ?_ _) | (with_reducible refine c2_ ?_ _) | (with_reducible refine c3_ ?_))); (case side6 => exact (Kd.R_reads' HO_385006.out).2.1); (case side7 => repeat (first | exact (Kd.R_reads' HO_6.out).2.2 | (with_reducible refine c1_ ?_ _) | (with_reducible refine c2_ ?_ _) | (with_reducible refine c3_ ?_))); (case side8 => exact (Kd.R_reads' HO_6.out).2.1); rintro e w24 ⟨v393, rfl, ho0, hb⟩; refine ⟨_, rfl, ?_⟩; have n0_ := am_ (r5_ (by (with_reducible repeat (first | apply r1_ | apply r2_ | apply r3_)); exact HO_6.out) (r4_ ho0) hb); have n1_ := am_ (Kd.R_below (by (with_reducible repeat (first | apply r1_ | apply r2_ | apply r3_)); exact HO_385002.out) hb); have n2_ := am_ (Kd.R_below (by (with_reducible repeat (first | apply r1_ | apply r2_ | apply r3_)); exact HO_385003.out) hb); have n3_ := am_ (Kd.R_below (by (with_reducible repeat (first | apply r1_ | apply r2_ | apply r3_)); exact HO_385006.out) hb); have n4_ := am_ (r5_ (by (with_reducible repeat (first | apply r1_ | apply r2_ | apply r3_)); exact HO390.out) (r4_ ho0) hb); have n5_ := am_ (Kd.R_lower (Kd.R_new' (Kd.R_new' ho0 (Kd.R_lt (by (with_reducible repeat (first | apply r1_ | apply r2_ | apply r3_)); exact HO_6.out))) (Kd.R_lt (by (with_reducible repeat (first | apply r1_ | apply r2_ | apply r3_)); exact HO390.out))) (bz_ (by repeat (with_reducible first | exact HB.out | apply p3_ | apply p1_ | apply p2_ | refine bs_ ?_ GE384.out)))); have n6_ := am_ (kb_ (g := gb384) (o := .cells #[.int .i64 t371, .int .i64 t372, .slice Ao11 t373.length co11, .slice Ao12 t376.length co12, .int .i64 t379, .string t380, .slice Ao13 t381.length co13] 26 (0, 0)) (by (with_reducible repeat (first | refine k2_ ?_ _ | refine k3_ ?_ | refine k1_ ?_ _)); exact BK384.out) hb); have n7_ := am_ (bt_ (by repeat (with_reducible first | exact HB.out | apply p3_ | apply p1_ | apply p2_ | refine bs_ ?_ GE384.out)) hb); clear HO_6; clear HO_385002; clear HO_385003; clear HO_385006; clear HO390; clear BK384; clear HB; have HO_6 := n0_; have HO_385002 := n1_; have HO_385003 := n2_; have HO_385006 := n3_; have HO390 := n4_; have HO394 := n5_; have BK384 := n6_; have HB := n7_; clear n0_ n1_ n2_ n3_ n4_ n5_ n6_ n7_; (try clear hb); (try clear ho0)))
    (try simp only [Act.put, sa_, sb_, sc_])
    go_cut [43] (fun v43 wc => ∃ (kq : Nat) (x43_18 : Bool), v43 = .bool x43_18 ∧ Aside0 (pinfoldlaw18_DropThen.j1 kq a0 x7_5 t388 t392 x43_18 t371 t372 t373 t376 t379 t380 t381 = some r) ∧ Aside0 (kq ≤ kj5) ∧ Aside0 (Kd.R k42 42 wc w.heap.size (fun k_ => some k_ ≠ (v393 : Value).ownBlock) v389 t388) ∧ Aside0 (Kd.R k42 42 wc w.heap.size (fun k_ => some k_ ≠ (v389 : Value).ownBlock) v393 t392) ∧ Aside0 (Kd.R (Kd.int .i64) 3 wc w.heap.size (fun _ => True) (.slice Ao11 t373.length co11) t373) ∧ Aside0 (Kd.R k72 72 wc w.heap.size (fun _ => True) (.slice Ao12 t376.length co12) t376) ∧ Aside0 (Kd.R k74 74 wc w.heap.size (fun _ => True) (.slice Ao13 t381.length co13) t381) ∧ Aside0 (wc.heap[gb384]? = some (.cells #[.int .i64 t371, .int .i64 t372, (.slice Ao11 t373.length co11), (.slice Ao12 t376.length co12), .int .i64 t379, .string t380, (.slice Ao13 t381.length co13)] 26 (0, 0))) ∧ Aside0 (Below w.heap.size w wc))
    case first =>
     have H := HC19.out
     clear HC19
     replace H := e4_ H
     obtain ⟨t396, A250, H⟩ := H
     replace H : (if t396 = 0 then ((pinfoldlaw0_Num.f t395).bind fun t397 => (pinfoldlaw18_DropThen.j1 kj5 a0 x7_5 t388 t392 (t397 != 0) t371 t372 t373 t376 t379 t380 t381)) else (pinfoldlaw18_DropThen.j1 kj5 a0 x7_5 t388 t392 true t371 t372 t373 t376 t379 t380 t381)) = some r := H
     have A25 := am_ A250
     clear A250
     by_cases c26 : t396 = 0
     ·rw [if_pos c26] at H
      have c26b0 : (t396 == 0) = true := beq_iff_eq.mpr c26
      have c26b1 : (t396 != 0) = false := e1_ c26
      clear c26
      (first | rw [c26b0] | (simp only [i64_w, i32_w]; rw [c26b0]) | skip)
      replace H := e4_ H
      obtain ⟨t397, A270, H⟩ := H
      replace H : (pinfoldlaw18_DropThen.j1 kj5 a0 x7_5 t388 t392 (t397 != 0) t371 t372 t373 t376 t379 t380 t381) = some r := H
      have A27 := am_ A270
      clear A270
      have H' := am_ H
      clear H
      go_wp2_with (first | ((with_reducible refine gate_callee (f := 20) rfl ?_); refine goesL_ (some 37) rfl rfl Tryd.func20 (by kernel_rfl) rfl #[.int .i64 t391] rfl (by (try simp only [List.map_toArray, List.map_cons, List.map_nil]); first | done | rfl | (simp only [List.length_drop, List.length_take]; rfl)) ?_; (with_reducible refine (pinfoldlaw0_Num.calls t391 t396 _ A25.out).mono ?_); rintro e w' ⟨rfl, ⟨nd, rfl⟩⟩; refine ⟨_, rfl, ?_⟩) | (go_at_call 20; (with_reducible refine (pinfoldlaw0_Num.calls t395 t397 _ A27.out).mono ?_); rintro e w' ⟨rfl, ⟨nd, rfl⟩⟩))
      go_meet
      case rel => exact ⟨_, ((t397 != 0)), (by first | rfl | (simp; done) | (simp [*]; done)), H', ⟨by have := HJ5.out; first | omega | exact Nat.le_refl _⟩, ⟨by (with_reducible repeat (first | apply r1_ | apply r2_ | apply r3_)); exact Kd.R_mono HO390.out (fun _ hk => hk.2)⟩, ⟨by (with_reducible repeat (first | apply r1_ | apply r2_ | apply r3_)); exact Kd.R_mono HO394.out (fun _ hk => hk.2)⟩, ⟨by (with_reducible repeat (first | apply r1_ | apply r2_ | apply r3_)); exact HO_385002.out⟩, ⟨by (with_reducible repeat (first | apply r1_ | apply r2_ | apply r3_)); exact HO_385003.out⟩, ⟨by (with_reducible repeat (first | apply r1_ | apply r2_ | apply r3_)); exact HO_385006.out⟩, ⟨by (with_reducible repeat (first | refine k2_ ?_ _ | refine k3_ ?_ | refine k1_ ?_ _)); exact BK384.out⟩, ⟨by repeat (with_reducible first | exact HB.out | apply p3_ | apply p1_ | apply p2_ | refine bs_ ?_ GE384.out)⟩⟩
     rw [if_neg c26] at H
     have c26b0 : (t396 == 0) = false := e2_ c26
     have c26b1 : (t396 != 0) = true := bne_iff_ne.mpr c26
     (first | rw [c26b0] | (simp only [i64_w, i32_w]; rw [c26b0]) | skip)
     have H' := am_ H
     clear H
     go_wp2_with (first | ((with_reducible refine gate_callee (f := 20) rfl ?_); refine goesL_ (some 37) rfl rfl Tryd.func20 (by kernel_rfl) rfl #[.int .i64 t391] rfl (by (try simp only [List.map_toArray, List.map_cons, List.map_nil]); first | done | rfl | (simp only [List.length_drop, List.length_take]; rfl)) ?_; (with_reducible refine (pinfoldlaw0_Num.calls t391 t396 _ A25.out).mono ?_); rintro e w' ⟨rfl, ⟨nd, rfl⟩⟩; refine ⟨_, rfl, ?_⟩))
     go_meet
     case rel => exact ⟨_, (true), (by first | rfl | (simp; done) | (simp [*]; done)), H', ⟨by have := HJ5.out; first | omega | exact Nat.le_refl _⟩, ⟨by (with_reducible repeat (first | apply r1_ | apply r2_ | apply r3_)); exact Kd.R_mono HO390.out (fun _ hk => hk.2)⟩, ⟨by (with_reducible repeat (first | apply r1_ | apply r2_ | apply r3_)); exact Kd.R_mono HO394.out (fun _ hk => hk.2)⟩, ⟨by (with_reducible repeat (first | apply r1_ | apply r2_ | apply r3_)); exact HO_385002.out⟩, ⟨by (with_reducible repeat (first | apply r1_ | apply r2_ | apply r3_)); exact HO_385003.out⟩, ⟨by (with_reducible repeat (first | apply r1_ | apply r2_ | apply r3_)); exact HO_385006.out⟩, ⟨by (with_reducible repeat (first | refine k2_ ?_ _ | refine k3_ ?_ | refine k1_ ?_ _)); exact BK384.out⟩, ⟨by repeat (with_reducible first | exact HB.out | apply p3_ | apply p1_ | apply p2_ | refine bs_ ?_ GE384.out)⟩⟩
    case rest =>
     clear HC19
     (try clear c4); (try clear c6); (try clear hcz10_0); (try clear hcz10_1); (try clear hcz10_2); (try clear hcz10_3); (try clear hcz10_4); (try clear hcz10_5); (try clear hcz10_6); (try clear hcz20_0); (try clear hcz20_1); (try clear hcz20_2); (try clear hcz20_3); (try clear hcz20_4); (try clear hcz20_5); (try clear hcz20_6); (try clear hcz23_0); (try clear hcz23_1); (try clear hcz23_2); (try clear hcz23_3); (try clear hcz23_4); (try clear hcz23_5); (try clear hcz23_6); (try clear hfz10_0); (try clear hfz10_1); (try clear hfz10_2); (try clear hfz10_3); (try clear hfz10_4); (try clear hfz10_5); (try clear hfz10_6); (try clear hfz20_0); (try clear hfz20_1); (try clear hfz20_2); (try clear hfz20_3); (try clear hfz20_4); (try clear hfz20_5); (try clear hfz20_6); (try clear hfz23_0); (try clear hfz23_1); (try clear hfz23_2); (try clear hfz23_3); (try clear hfz23_4); (try clear hfz23_5); (try clear hfz23_6)
     obtain ⟨kq, x43_18, rfl, HA, HJ18, HO_8, HO_10, HO_385002, HO_385003, HO_385006, BK384, HB⟩ := hcut
     cases kq with
     | zero => exact absurd HA.out (by simp [pinfoldlaw18_DropThen.j1])
     | succ kj18 =>
      have H := HA.out
      clear HA
      simp only [pinfoldlaw18_DropThen.j1] at H
      by_cases c28 : x43_18 = true
      ·subst c28
       have H1 : (none) = some r := by rw [if_pos rfl] at H; exact H
       clear H
       have H := H1
       clear H1
       exact absurd H (by simp)
      replace c28 := e3_ c28
      subst c28
      have H1 : ((pinfoldref11_Pick_c.f t371 t372 t373 t376 t379 t380 t381 t388 (wrap64 (5 + (Go.bits .and .i64 a0 127))) x7_5 0).bind fun bt398 => ((pinfoldref11_Pick_c.f t371 t372 t373 t376 t379 t380 t381 t392 (wrap64 (5 + (Go.bits .and .i64 a0 127))) x7_5 10).bind fun bt400 => (if (wrap64 (5 + (Go.bits .and .i64 a0 127))) < 69 then (if bt398.1 = 10 then (if bt398.2 = 0 then (if bt400.1 = 0 then (some (bt400.2 == 1401)) else (none)) else (none)) else (none)) else (if bt398.1 = 10 then (if bt398.2 = 0 then (if bt400.1 = 10 then (some (bt400.2 == 0)) else (none)) else (none)) else (none))))) = some r := by rw [if_neg (show ¬ (false = true) by decide)] at H; exact H
      clear H
      have H := H1
      clear H1
      replace H := e4_ H
      obtain ⟨⟨t398, t399⟩, A290, H⟩ := H
      replace H : ((pinfoldref11_Pick_c.f t371 t372 t373 t376 t379 t380 t381 t392 (wrap64 (5 + (Go.bits .and .i64 a0 127))) x7_5 10).bind fun bt400 => (if (wrap64 (5 + (Go.bits .and .i64 a0 127))) < 69 then (if t398 = 10 then (if t399 = 0 then (if bt400.1 = 0 then (some (bt400.2 == 1401)) else (none)) else (none)) else (none)) else (if t398 = 10 then (if t399 = 0 then (if bt400.1 = 10 then (some (bt400.2 == 0)) else (none)) else (none)) else (none)))) = some r := H
      have A29 := am_ A290
      clear A290
      replace H := e4_ H
      obtain ⟨⟨t400, t401⟩, A300, H⟩ := H
      replace H : (if (wrap64 (5 + (Go.bits .and .i64 a0 127))) < 69 then (if t398 = 10 then (if t399 = 0 then (if t400 = 0 then (some (t401 == 1401)) else (none)) else (none)) else (none)) else (if t398 = 10 then (if t399 = 0 then (if t400 = 10 then (some (t401 == 0)) else (none)) else (none)) else (none))) = some r := H
      have A30 := am_ A300
      clear A300
      by_cases c31 : (wrap64 (5 + (Go.bits .and .i64 a0 127))) < 69
      ·rw [if_pos c31] at H
       have c31b0 : decide ((wrap64 (5 + (Go.bits .and .i64 a0 127))) < 69) = true := decide_eq_true c31
       clear c31
       by_cases c32 : t398 = 10
       rotate_left
       ·rw [if_neg c32] at H
        exact absurd H (by simp)
       rw [if_pos c32] at H
       have c32b0 : (t398 == 10) = true := beq_iff_eq.mpr c32
       have c32b1 : (t398 != 10) = false := e1_ c32
       clear c32
       by_cases c33 : t399 = 0
       rotate_left
       ·rw [if_neg c33] at H
        exact absurd H (by simp)
       rw [if_pos c33] at H
       have c33b0 : (t399 == 0) = true := beq_iff_eq.mpr c33
       have c33b1 : (t399 != 0) = false := e1_ c33
       clear c33
       by_cases c34 : t400 = 0
       rotate_left
       ·rw [if_neg c34] at H
        exact absurd H (by simp)
       rw [if_pos c34] at H
       have c34b0 : (t400 == 0) = true := beq_iff_eq.mpr c34
       have c34b1 : (t400 != 0) = false := e1_ c34
       clear c34
       obtain rfl := e5_ H
       have hcz35_0 : wc.cell? ⟨gb384, 0, none⟩ = some (.int .i64 t371) := (bc_ BK384.out 0).trans rfl; have hcz35_1 : wc.cell? ⟨gb384, 1, none⟩ = some (.int .i64 t372) := (bc_ BK384.out 1).trans rfl; have hcz35_2 : wc.cell? ⟨gb384, 2, none⟩ = some (.slice Ao11 t373.length co11) := (bc_ BK384.out 2).trans rfl; have hcz35_3 : wc.cell? ⟨gb384, 3, none⟩ = some (.slice Ao12 t376.length co12) := (bc_ BK384.out 3).trans rfl; have hcz35_4 : wc.cell? ⟨gb384, 4, none⟩ = some (.int .i64 t379) := (bc_ BK384.out 4).trans rfl; have hcz35_5 : wc.cell? ⟨gb384, 5, none⟩ = some (.string t380) := (bc_ BK384.out 5).trans rfl; have hcz35_6 : wc.cell? ⟨gb384, 6, none⟩ = some (.slice Ao13 t381.length co13) := (bc_ BK384.out 6).trans rfl; have hfz35_0 := bf_ BK384.out 0; have hfz35_1 := bf_ BK384.out 1; have hfz35_2 := bf_ BK384.out 2; have hfz35_3 := bf_ BK384.out 3; have hfz35_4 := bf_ BK384.out 4; have hfz35_5 := bf_ BK384.out 5; have hfz35_6 := bf_ BK384.out 6
       obtain ⟨Ao36, co36, eo36⟩ := Kd.R_slice HO_8.out
       subst eo36
       go_wp2_with (first | ((with_reducible refine gate_callee (f := 27) rfl ?_); refine goesL_ (some 52) rfl rfl Tryd.func27 (by kernel_rfl) rfl #[.agg #[.int .i64 t371, .int .i64 t372, .slice Ao11 t373.length co11, .slice Ao12 t376.length co12, .int .i64 t379, .string t380, .slice Ao13 t381.length co13], .slice Ao36 t388.length co36, .int .i64 (wrap64 (5 + (Go.bits .and .i64 a0 127))), .string x7_5, .int .i64 0] rfl (by (try simp only [List.map_toArray, List.map_cons, List.map_nil]); first | done | rfl | (simp only [List.length_drop, List.length_take]; rfl)) ?_; (with_reducible refine (pinfoldref11_Pick_c.calls t371 t372 _ _ t373 _ _ t376 t379 t380 _ _ t381 _ _ t388 (wrap64 (5 + (Go.bits .and .i64 a0 127))) x7_5 0 t398 t399 _ ?side1 ?side2 ?side3 ?side4 ?side5 ?side6 ?side7 ?side8 A29.out).mono ?_); (case side1 => repeat (first | exact (Kd.R_reads' HO_385002.out).2.2 | (with_reducible refine c1_ ?_ _) | (with_reducible refine c2_ ?_ _) | (with_reducible refine c3_ ?_))); (case side2 => exact (Kd.R_reads' HO_385002.out).2.1); (case side3 => repeat (first | exact (Kd.R_reads' HO_385003.out).2.2 | (with_reducible refine c1_ ?_ _) | (with_reducible refine c2_ ?_ _) | (with_reducible refine c3_ ?_))); (case side4 => exact (Kd.R_reads' HO_385003.out).2.1); (case side5 => repeat (first | exact (Kd.R_reads' HO_385006.out).2.2 | (with_reducible refine c1_ ?_ _) | (with_reducible refine c2_ ?_ _) | (with_reducible refine c3_ ?_))); (case side6 => exact (Kd.R_reads' HO_385006.out).2.1); (case side7 => repeat (first | exact (Kd.R_reads' HO_8.out).2.2 | (with_reducible refine c1_ ?_ _) | (with_reducible refine c2_ ?_ _) | (with_reducible refine c3_ ?_))); (case side8 => exact (Kd.R_reads' HO_8.out).2.1); rintro e w37 ⟨rfl, hb⟩; refine ⟨_, rfl, ?_⟩; have n0_ := am_ (Kd.R_below (by (with_reducible repeat (first | apply r1_ | apply r2_ | apply r3_)); exact HO_8.out) hb); have n1_ := am_ (Kd.R_below (by (with_reducible repeat (first | apply r1_ | apply r2_ | apply r3_)); exact HO_10.out) hb); have n2_ := am_ (Kd.R_below (by (with_reducible repeat (first | apply r1_ | apply r2_ | apply r3_)); exact HO_385002.out) hb); have n3_ := am_ (Kd.R_below (by (with_reducible repeat (first | apply r1_ | apply r2_ | apply r3_)); exact HO_385003.out) hb); have n4_ := am_ (Kd.R_below (by (with_reducible repeat (first | apply r1_ | apply r2_ | apply r3_)); exact HO_385006.out) hb); have n5_ := am_ (kb_ (g := gb384) (o := .cells #[.int .i64 t371, .int .i64 t372, .slice Ao11 t373.length co11, .slice Ao12 t376.length co12, .int .i64 t379, .string t380, .slice Ao13 t381.length co13] 26 (0, 0)) (by (with_reducible repeat (first | refine k2_ ?_ _ | refine k3_ ?_ | refine k1_ ?_ _)); exact BK384.out) hb); have n6_ := am_ (bt_ (by repeat (with_reducible first | exact HB.out | apply p3_ | apply p1_ | apply p2_ | refine bs_ ?_ GE384.out)) hb); clear HO_8; clear HO_10; clear HO_385002; clear HO_385003; clear HO_385006; clear BK384; clear HB; have HO_8 := n0_; have HO_10 := n1_; have HO_385002 := n2_; have HO_385003 := n3_; have HO_385006 := n4_; have BK384 := n5_; have HB := n6_; clear n0_ n1_ n2_ n3_ n4_ n5_ n6_; (try clear hb); have hcz38_0 : w37.cell? ⟨gb384, 0, none⟩ = some (.int .i64 t371) := (bc_ BK384.out 0).trans rfl; have hcz38_1 : w37.cell? ⟨gb384, 1, none⟩ = some (.int .i64 t372) := (bc_ BK384.out 1).trans rfl; have hcz38_2 : w37.cell? ⟨gb384, 2, none⟩ = some (.slice Ao11 t373.length co11) := (bc_ BK384.out 2).trans rfl; have hcz38_3 : w37.cell? ⟨gb384, 3, none⟩ = some (.slice Ao12 t376.length co12) := (bc_ BK384.out 3).trans rfl; have hcz38_4 : w37.cell? ⟨gb384, 4, none⟩ = some (.int .i64 t379) := (bc_ BK384.out 4).trans rfl; have hcz38_5 : w37.cell? ⟨gb384, 5, none⟩ = some (.string t380) := (bc_ BK384.out 5).trans rfl; have hcz38_6 : w37.cell? ⟨gb384, 6, none⟩ = some (.slice Ao13 t381.length co13) := (bc_ BK384.out 6).trans rfl; have hfz38_0 := bf_ BK384.out 0; have hfz38_1 := bf_ BK384.out 1; have hfz38_2 := bf_ BK384.out 2; have hfz38_3 := bf_ BK384.out 3; have hfz38_4 := bf_ BK384.out 4; have hfz38_5 := bf_ BK384.out 5; have hfz38_6 := bf_ BK384.out 6; obtain ⟨Ao39, co39, eo39⟩ := Kd.R_slice HO_10.out; subst eo39) | ((with_reducible refine gate_callee (f := 27) rfl ?_); refine goesL_ (some 60) rfl rfl Tryd.func27 (by kernel_rfl) rfl #[.agg #[.int .i64 t371, .int .i64 t372, .slice Ao11 t373.length co11, .slice Ao12 t376.length co12, .int .i64 t379, .string t380, .slice Ao13 t381.length co13], .slice Ao39 t392.length co39, .int .i64 (wrap64 (5 + (Go.bits .and .i64 a0 127))), .string x7_5, .int .i64 10] rfl (by (try simp only [List.map_toArray, List.map_cons, List.map_nil]); first | done | rfl | (simp only [List.length_drop, List.length_take]; rfl)) ?_; (with_reducible refine (pinfoldref11_Pick_c.calls t371 t372 _ _ t373 _ _ t376 t379 t380 _ _ t381 _ _ t392 (wrap64 (5 + (Go.bits .and .i64 a0 127))) x7_5 10 t400 t401 _ ?side1 ?side2 ?side3 ?side4 ?side5 ?side6 ?side7 ?side8 A30.out).mono ?_); (case side1 => repeat (first | exact (Kd.R_reads' HO_385002.out).2.2 | (with_reducible refine c1_ ?_ _) | (with_reducible refine c2_ ?_ _) | (with_reducible refine c3_ ?_))); (case side2 => exact (Kd.R_reads' HO_385002.out).2.1); (case side3 => repeat (first | exact (Kd.R_reads' HO_385003.out).2.2 | (with_reducible refine c1_ ?_ _) | (with_reducible refine c2_ ?_ _) | (with_reducible refine c3_ ?_))); (case side4 => exact (Kd.R_reads' HO_385003.out).2.1); (case side5 => repeat (first | exact (Kd.R_reads' HO_385006.out).2.2 | (with_reducible refine c1_ ?_ _) | (with_reducible refine c2_ ?_ _) | (with_reducible refine c3_ ?_))); (case side6 => exact (Kd.R_reads' HO_385006.out).2.1); (case side7 => repeat (first | exact (Kd.R_reads' HO_10.out).2.2 | (with_reducible refine c1_ ?_ _) | (with_reducible refine c2_ ?_ _) | (with_reducible refine c3_ ?_))); (case side8 => exact (Kd.R_reads' HO_10.out).2.1); rintro e w40 ⟨rfl, hb⟩; refine ⟨_, rfl, ?_⟩; have n0_ := am_ (Kd.R_below (by (with_reducible repeat (first | apply r1_ | apply r2_ | apply r3_)); exact HO_8.out) hb); have n1_ := am_ (Kd.R_below (by (with_reducible repeat (first | apply r1_ | apply r2_ | apply r3_)); exact HO_10.out) hb); have n2_ := am_ (Kd.R_below (by (with_reducible repeat (first | apply r1_ | apply r2_ | apply r3_)); exact HO_385002.out) hb); have n3_ := am_ (Kd.R_below (by (with_reducible repeat (first | apply r1_ | apply r2_ | apply r3_)); exact HO_385003.out) hb); have n4_ := am_ (Kd.R_below (by (with_reducible repeat (first | apply r1_ | apply r2_ | apply r3_)); exact HO_385006.out) hb); have n5_ := am_ (kb_ (g := gb384) (o := .cells #[.int .i64 t371, .int .i64 t372, .slice Ao11 t373.length co11, .slice Ao12 t376.length co12, .int .i64 t379, .string t380, .slice Ao13 t381.length co13] 26 (0, 0)) (by (with_reducible repeat (first | refine k2_ ?_ _ | refine k3_ ?_ | refine k1_ ?_ _)); exact BK384.out) hb); have n6_ := am_ (bt_ (by repeat (with_reducible first | exact HB.out | apply p3_ | apply p1_ | apply p2_ | refine bs_ ?_ GE384.out)) hb); clear HO_8; clear HO_10; clear HO_385002; clear HO_385003; clear HO_385006; clear BK384; clear HB; have HO_8 := n0_; have HO_10 := n1_; have HO_385002 := n2_; have HO_385003 := n3_; have HO_385006 := n4_; have BK384 := n5_; have HB := n6_; clear n0_ n1_ n2_ n3_ n4_ n5_ n6_; (try clear hb)))
       go_ret
       exact ⟨by first | rfl | (simp [errW_none, errW_some] <;> rfl) | (simp [*, errW_none, errW_some] <;> rfl), by repeat (with_reducible first | exact HB.out | apply p3_ | apply p1_ | apply p2_ | refine bs_ ?_ GE384.out)⟩
      rw [if_neg c31] at H
      have c31b0 : decide ((wrap64 (5 + (Go.bits .and .i64 a0 127))) < 69) = false := decide_eq_false c31
      clear c31
      by_cases c41 : t398 = 10
      rotate_left
      ·rw [if_neg c41] at H
       exact absurd H (by simp)
      rw [if_pos c41] at H
      have c41b0 : (t398 == 10) = true := beq_iff_eq.mpr c41
      have c41b1 : (t398 != 10) = false := e1_ c41
      clear c41
      by_cases c42 : t399 = 0
      rotate_left
      ·rw [if_neg c42] at H
       exact absurd H (by simp)
      rw [if_pos c42] at H
      have c42b0 : (t399 == 0) = true := beq_iff_eq.mpr c42
      have c42b1 : (t399 != 0) = false := e1_ c42
      clear c42
      by_cases c43 : t400 = 10
      rotate_left
      ·rw [if_neg c43] at H
       exact absurd H (by simp)
      rw [if_pos c43] at H
      have c43b0 : (t400 == 10) = true := beq_iff_eq.mpr c43
      have c43b1 : (t400 != 10) = false := e1_ c43
      clear c43
      obtain rfl := e5_ H
      have hcz44_0 : wc.cell? ⟨gb384, 0, none⟩ = some (.int .i64 t371) := (bc_ BK384.out 0).trans rfl; have hcz44_1 : wc.cell? ⟨gb384, 1, none⟩ = some (.int .i64 t372) := (bc_ BK384.out 1).trans rfl; have hcz44_2 : wc.cell? ⟨gb384, 2, none⟩ = some (.slice Ao11 t373.length co11) := (bc_ BK384.out 2).trans rfl; have hcz44_3 : wc.cell? ⟨gb384, 3, none⟩ = some (.slice Ao12 t376.length co12) := (bc_ BK384.out 3).trans rfl; have hcz44_4 : wc.cell? ⟨gb384, 4, none⟩ = some (.int .i64 t379) := (bc_ BK384.out 4).trans rfl; have hcz44_5 : wc.cell? ⟨gb384, 5, none⟩ = some (.string t380) := (bc_ BK384.out 5).trans rfl; have hcz44_6 : wc.cell? ⟨gb384, 6, none⟩ = some (.slice Ao13 t381.length co13) := (bc_ BK384.out 6).trans rfl; have hfz44_0 := bf_ BK384.out 0; have hfz44_1 := bf_ BK384.out 1; have hfz44_2 := bf_ BK384.out 2; have hfz44_3 := bf_ BK384.out 3; have hfz44_4 := bf_ BK384.out 4; have hfz44_5 := bf_ BK384.out 5; have hfz44_6 := bf_ BK384.out 6
      obtain ⟨Ao45, co45, eo45⟩ := Kd.R_slice HO_8.out
      subst eo45
      go_wp2_with (first | ((with_reducible refine gate_callee (f := 27) rfl ?_); refine goesL_ (some 52) rfl rfl Tryd.func27 (by kernel_rfl) rfl #[.agg #[.int .i64 t371, .int .i64 t372, .slice Ao11 t373.length co11, .slice Ao12 t376.length co12, .int .i64 t379, .string t380, .slice Ao13 t381.length co13], .slice Ao45 t388.length co45, .int .i64 (wrap64 (5 + (Go.bits .and .i64 a0 127))), .string x7_5, .int .i64 0] rfl (by (try simp only [List.map_toArray, List.map_cons, List.map_nil]); first | done | rfl | (simp only [List.length_drop, List.length_take]; rfl)) ?_; (with_reducible refine (pinfoldref11_Pick_c.calls t371 t372 _ _ t373 _ _ t376 t379 t380 _ _ t381 _ _ t388 (wrap64 (5 + (Go.bits .and .i64 a0 127))) x7_5 0 t398 t399 _ ?side1 ?side2 ?side3 ?side4 ?side5 ?side6 ?side7 ?side8 A29.out).mono ?_); (case side1 => repeat (first | exact (Kd.R_reads' HO_385002.out).2.2 | (with_reducible refine c1_ ?_ _) | (with_reducible refine c2_ ?_ _) | (with_reducible refine c3_ ?_))); (case side2 => exact (Kd.R_reads' HO_385002.out).2.1); (case side3 => repeat (first | exact (Kd.R_reads' HO_385003.out).2.2 | (with_reducible refine c1_ ?_ _) | (with_reducible refine c2_ ?_ _) | (with_reducible refine c3_ ?_))); (case side4 => exact (Kd.R_reads' HO_385003.out).2.1); (case side5 => repeat (first | exact (Kd.R_reads' HO_385006.out).2.2 | (with_reducible refine c1_ ?_ _) | (with_reducible refine c2_ ?_ _) | (with_reducible refine c3_ ?_))); (case side6 => exact (Kd.R_reads' HO_385006.out).2.1); (case side7 => repeat (first | exact (Kd.R_reads' HO_8.out).2.2 | (with_reducible refine c1_ ?_ _) | (with_reducible refine c2_ ?_ _) | (with_reducible refine c3_ ?_))); (case side8 => exact (Kd.R_reads' HO_8.out).2.1); rintro e w46 ⟨rfl, hb⟩; refine ⟨_, rfl, ?_⟩; have n0_ := am_ (Kd.R_below (by (with_reducible repeat (first | apply r1_ | apply r2_ | apply r3_)); exact HO_8.out) hb); have n1_ := am_ (Kd.R_below (by (with_reducible repeat (first | apply r1_ | apply r2_ | apply r3_)); exact HO_10.out) hb); have n2_ := am_ (Kd.R_below (by (with_reducible repeat (first | apply r1_ | apply r2_ | apply r3_)); exact HO_385002.out) hb); have n3_ := am_ (Kd.R_below (by (with_reducible repeat (first | apply r1_ | apply r2_ | apply r3_)); exact HO_385003.out) hb); have n4_ := am_ (Kd.R_below (by (with_reducible repeat (first | apply r1_ | apply r2_ | apply r3_)); exact HO_385006.out) hb); have n5_ := am_ (kb_ (g := gb384) (o := .cells #[.int .i64 t371, .int .i64 t372, .slice Ao11 t373.length co11, .slice Ao12 t376.length co12, .int .i64 t379, .string t380, .slice Ao13 t381.length co13] 26 (0, 0)) (by (with_reducible repeat (first | refine k2_ ?_ _ | refine k3_ ?_ | refine k1_ ?_ _)); exact BK384.out) hb); have n6_ := am_ (bt_ (by repeat (with_reducible first | exact HB.out | apply p3_ | apply p1_ | apply p2_ | refine bs_ ?_ GE384.out)) hb); clear HO_8; clear HO_10; clear HO_385002; clear HO_385003; clear HO_385006; clear BK384; clear HB; have HO_8 := n0_; have HO_10 := n1_; have HO_385002 := n2_; have HO_385003 := n3_; have HO_385006 := n4_; have BK384 := n5_; have HB := n6_; clear n0_ n1_ n2_ n3_ n4_ n5_ n6_; (try clear hb); have hcz47_0 : w46.cell? ⟨gb384, 0, none⟩ = some (.int .i64 t371) := (bc_ BK384.out 0).trans rfl; have hcz47_1 : w46.cell? ⟨gb384, 1, none⟩ = some (.int .i64 t372) := (bc_ BK384.out 1).trans rfl; have hcz47_2 : w46.cell? ⟨gb384, 2, none⟩ = some (.slice Ao11 t373.length co11) := (bc_ BK384.out 2).trans rfl; have hcz47_3 : w46.cell? ⟨gb384, 3, none⟩ = some (.slice Ao12 t376.length co12) := (bc_ BK384.out 3).trans rfl; have hcz47_4 : w46.cell? ⟨gb384, 4, none⟩ = some (.int .i64 t379) := (bc_ BK384.out 4).trans rfl; have hcz47_5 : w46.cell? ⟨gb384, 5, none⟩ = some (.string t380) := (bc_ BK384.out 5).trans rfl; have hcz47_6 : w46.cell? ⟨gb384, 6, none⟩ = some (.slice Ao13 t381.length co13) := (bc_ BK384.out 6).trans rfl; have hfz47_0 := bf_ BK384.out 0; have hfz47_1 := bf_ BK384.out 1; have hfz47_2 := bf_ BK384.out 2; have hfz47_3 := bf_ BK384.out 3; have hfz47_4 := bf_ BK384.out 4; have hfz47_5 := bf_ BK384.out 5; have hfz47_6 := bf_ BK384.out 6; obtain ⟨Ao48, co48, eo48⟩ := Kd.R_slice HO_10.out; subst eo48) | ((with_reducible refine gate_callee (f := 27) rfl ?_); refine goesL_ (some 60) rfl rfl Tryd.func27 (by kernel_rfl) rfl #[.agg #[.int .i64 t371, .int .i64 t372, .slice Ao11 t373.length co11, .slice Ao12 t376.length co12, .int .i64 t379, .string t380, .slice Ao13 t381.length co13], .slice Ao48 t392.length co48, .int .i64 (wrap64 (5 + (Go.bits .and .i64 a0 127))), .string x7_5, .int .i64 10] rfl (by (try simp only [List.map_toArray, List.map_cons, List.map_nil]); first | done | rfl | (simp only [List.length_drop, List.length_take]; rfl)) ?_; (with_reducible refine (pinfoldref11_Pick_c.calls t371 t372 _ _ t373 _ _ t376 t379 t380 _ _ t381 _ _ t392 (wrap64 (5 + (Go.bits .and .i64 a0 127))) x7_5 10 t400 t401 _ ?side1 ?side2 ?side3 ?side4 ?side5 ?side6 ?side7 ?side8 A30.out).mono ?_); (case side1 => repeat (first | exact (Kd.R_reads' HO_385002.out).2.2 | (with_reducible refine c1_ ?_ _) | (with_reducible refine c2_ ?_ _) | (with_reducible refine c3_ ?_))); (case side2 => exact (Kd.R_reads' HO_385002.out).2.1); (case side3 => repeat (first | exact (Kd.R_reads' HO_385003.out).2.2 | (with_reducible refine c1_ ?_ _) | (with_reducible refine c2_ ?_ _) | (with_reducible refine c3_ ?_))); (case side4 => exact (Kd.R_reads' HO_385003.out).2.1); (case side5 => repeat (first | exact (Kd.R_reads' HO_385006.out).2.2 | (with_reducible refine c1_ ?_ _) | (with_reducible refine c2_ ?_ _) | (with_reducible refine c3_ ?_))); (case side6 => exact (Kd.R_reads' HO_385006.out).2.1); (case side7 => repeat (first | exact (Kd.R_reads' HO_10.out).2.2 | (with_reducible refine c1_ ?_ _) | (with_reducible refine c2_ ?_ _) | (with_reducible refine c3_ ?_))); (case side8 => exact (Kd.R_reads' HO_10.out).2.1); rintro e w49 ⟨rfl, hb⟩; refine ⟨_, rfl, ?_⟩; have n0_ := am_ (Kd.R_below (by (with_reducible repeat (first | apply r1_ | apply r2_ | apply r3_)); exact HO_8.out) hb); have n1_ := am_ (Kd.R_below (by (with_reducible repeat (first | apply r1_ | apply r2_ | apply r3_)); exact HO_10.out) hb); have n2_ := am_ (Kd.R_below (by (with_reducible repeat (first | apply r1_ | apply r2_ | apply r3_)); exact HO_385002.out) hb); have n3_ := am_ (Kd.R_below (by (with_reducible repeat (first | apply r1_ | apply r2_ | apply r3_)); exact HO_385003.out) hb); have n4_ := am_ (Kd.R_below (by (with_reducible repeat (first | apply r1_ | apply r2_ | apply r3_)); exact HO_385006.out) hb); have n5_ := am_ (kb_ (g := gb384) (o := .cells #[.int .i64 t371, .int .i64 t372, .slice Ao11 t373.length co11, .slice Ao12 t376.length co12, .int .i64 t379, .string t380, .slice Ao13 t381.length co13] 26 (0, 0)) (by (with_reducible repeat (first | refine k2_ ?_ _ | refine k3_ ?_ | refine k1_ ?_ _)); exact BK384.out) hb); have n6_ := am_ (bt_ (by repeat (with_reducible first | exact HB.out | apply p3_ | apply p1_ | apply p2_ | refine bs_ ?_ GE384.out)) hb); clear HO_8; clear HO_10; clear HO_385002; clear HO_385003; clear HO_385006; clear BK384; clear HB; have HO_8 := n0_; have HO_10 := n1_; have HO_385002 := n2_; have HO_385003 := n3_; have HO_385006 := n4_; have BK384 := n5_; have HB := n6_; clear n0_ n1_ n2_ n3_ n4_ n5_ n6_; (try clear hb)))
      go_ret
      exact ⟨by first | rfl | (simp [errW_none, errW_some] <;> rfl) | (simp [*, errW_none, errW_some] <;> rfl), by repeat (with_reducible first | exact HB.out | apply p3_ | apply p1_ | apply p2_ | refine bs_ ?_ GE384.out)⟩
 replace c4 := e3_ c4
 subst c4
 have H1 : (none) = some r := by rw [if_neg (show ¬ (false = true) by decide)] at H; exact H
 clear H
 have H := H1
 clear H1
 exact absurd H (by simp)

/-- THE ONE PURE STATEMENT of pinfoldlaw18_DropThen. -/
def pinfoldlaw18_DropThen.Pure : Prop := ∀ (a0 : Int) (a1 : Bool), (Lit.int .i64 a0).wf = true → ∃ k, pinfoldlaw18_DropThen.f k a0 a1 = some true
theorem pinfoldlaw18_DropThen.walk (P : pinfoldlaw18_DropThen.Pure) (a0 : Int) (a1 : Bool) (w : World)  (w0 : (Lit.int .i64 a0).wf = true) :
  Calls Tryd.prog 6 #[.int .i64 a0, .bool a1] w fun e w' => e = .returned (.bool true) ∧ Below w.heap.size w w' := by
 obtain ⟨k, h⟩ := P a0 a1 w0
 refine (pinfoldlaw18_DropThen.calls k a0 a1 true w  h).mono ?_
 rintro e w' ⟨rfl, hd⟩
 exact ⟨rfl, hd⟩

end Go.Proofs.YtmoobaehoccihaaDoor.PF
