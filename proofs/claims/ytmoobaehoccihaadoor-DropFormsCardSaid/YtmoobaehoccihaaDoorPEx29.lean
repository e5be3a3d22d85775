-- Made by wip/pr.py out of the translation (a turned copy of the kit's print; contracts by hand where said).
import Derived.Test.YtmoobaehoccihaaDoorPEx0
import Derived.Test.YtmoobaehoccihaaDoorPEx9
import Derived.Test.YtmoobaehoccihaaDoorPEx20
namespace Go.Proofs.YtmoobaehoccihaaDoor.PE
open Go.RowKit Go.Proofs.YtmoobaehoccihaaDoorW.PrintWords Go.Proofs.YtmoobaehoccihaaDoorW.PrintLast Go.Proofs.YtmoobaehoccihaaDoorW.PrintMore
-- shrunk
attribute [local go_sem] max2_int min2_int max_two min_two max_three min_three max_four min_four   -- for this text's walks alone
set_option linter.unusedVariables false
set_option linter.unusedSimpArgs false

/-! ### pinfoldlaw18_DropForms: function 5 -/
def pinfoldlaw18_DropForms.j0 : Nat → Int → ByteArray → List (S42) → Int → Int → List Int → List (S72) → Int → ByteArray → List (S74) → Option (Bool)
 | 0, _, _, _, _, _, _, _, _, _, _ => none
 | k + 1, x7, x8, x9, x388000, x388001, x388002, x388003, x388004, x388005, x388006 => (drop_Release.f x388000 x388001 x388002 x388003 x388004 x388005 x388006 x9 x7 x8 10).bind fun bt395 => ((drop_Decline.f x388000 x388001 x388002 x388003 x388004 x388005 x388006 x9 x7 x8 10).bind fun bt399 => (if (wrap64 ((bt395.1.length : Int) + (bt399.1.length : Int))) = 0 then ((pinfoldlaw0_Num.f bt395.2).bind fun t403 => (if t403 = 1800 then ((pinfoldlaw0_Num.f bt399.2).bind fun t404 => (some (t404 == 1800))) else (none))) else (none)))
def pinfoldlaw18_DropForms.f (k : Nat) (a0 : Int) (a1 : Int) : Option (Bool) := (pinfoldlaw18_awake.f k).bind fun t373 => (if t373 = true then ((pinfoldlaw18_given.f).bind fun bt374 => ((some (([(⟨10, 2, (⟨#[109, 101]⟩ : ByteArray), 9, (⟨#[]⟩ : ByteArray), false⟩ : S42)] : List (S42)) : List (S42))).bind fun y388 => (if (Int.tmod (IntKind.u64.wrap (a0)) 5) = 0 then (pinfoldlaw18_DropForms.j0 k 0 (⟨#[109, 101]⟩ : ByteArray) y388 bt374.1 9 bt374.2.2.1 bt374.2.2.2.1 bt374.2.2.2.2.1 bt374.2.2.2.2.2.1 bt374.2.2.2.2.2.2) else (if (Int.tmod (IntKind.u64.wrap (a0)) 5) = 1 then (if 0 < (y388.length : Int) then (pinfoldlaw18_DropForms.j0 k 0 (⟨#[109, 101]⟩ : ByteArray) (y388.set (0 : Int).toNat (⟨(rd_T42 y388 0).f0, (rd_T42 y388 0).f1, (⟨#[]⟩ : ByteArray), (rd_T42 y388 0).f3, (rd_T42 y388 0).f4, (rd_T42 y388 0).f5⟩ : S42)) bt374.1 bt374.2.1 bt374.2.2.1 bt374.2.2.2.1 bt374.2.2.2.2.1 bt374.2.2.2.2.2.1 bt374.2.2.2.2.2.2) else (none)) else (if (Int.tmod (IntKind.u64.wrap (a0)) 5) = 2 then (pinfoldlaw18_DropForms.j0 k (wrap64 (-(wrap64 (1 + (Go.bits .and .i64 a1 1023))))) (⟨#[109, 101]⟩ : ByteArray) y388 bt374.1 bt374.2.1 bt374.2.2.1 bt374.2.2.2.1 bt374.2.2.2.2.1 bt374.2.2.2.2.2.1 bt374.2.2.2.2.2.2) else (if (Int.tmod (IntKind.u64.wrap (a0)) 5) = 3 then (pinfoldlaw18_DropForms.j0 k (wrap64 (1099510579200 + (wrap64 (1 + (Go.bits .and .i64 a1 1023))))) (⟨#[109, 101]⟩ : ByteArray) y388 bt374.1 bt374.2.1 bt374.2.2.1 bt374.2.2.2.1 bt374.2.2.2.2.1 bt374.2.2.2.2.2.1 bt374.2.2.2.2.2.2) else (if 0 ≤ (wrap64 (16 + (wrap64 (1 + (Go.bits .and .i64 a1 1023))))) then (if (wrap64 (16 + (wrap64 (1 + (Go.bits .and .i64 a1 1023)))) : Int).toNat ≤ 281474976710656 then (pinfoldlaw18_DropForms.j0 k 0 (strOfNums (List.replicate (wrap64 (16 + (wrap64 (1 + (Go.bits .and .i64 a1 1023)))) : Int).toNat 0)) y388 bt374.1 bt374.2.1 bt374.2.2.1 bt374.2.2.2.1 bt374.2.2.2.2.1 bt374.2.2.2.2.2.1 bt374.2.2.2.2.2.2) else (none)) else (none)))))))) else (none))
theorem pinfoldlaw18_DropForms.mono_l : ∀ k, (∀ y0 y1 y2 y3 y4 y5 y6 y7 y8 y9, LeO (pinfoldlaw18_DropForms.j0 k y0 y1 y2 y3 y4 y5 y6 y7 y8 y9) (pinfoldlaw18_DropForms.j0 (k + 1) y0 y1 y2 y3 y4 y5 y6 y7 y8 y9))
 | 0 => fun _ _ _ _ _ _ _ _ _ _ r h => by simp [pinfoldlaw18_DropForms.j0] at h
 | k + 1 => by
  have ih0 := pinfoldlaw18_DropForms.mono_l k
  ·intro y0 y1 y2 y3 y4 y5 y6 y7 y8 y9
   unfold pinfoldlaw18_DropForms.j0
   repeat' first
   | (with_reducible exact ih0 _ _ _ _ _ _ _ _ _ _)
   | (with_reducible exact pinfoldlaw18_awake.mono _)
   | (with_reducible exact LeO.refl _)
   | (with_reducible exact LeO.none _)
   | (with_reducible refine LeO.ite ?_ ?_)
   | (with_reducible refine LeO.bind ?_ (fun _ => ?_))
   | exact ih0 _ _ _ _ _ _ _ _ _ _
   | exact pinfoldlaw18_awake.mono _
   | exact LeO.none _
   | refine LeO.ite ?_ ?_
   | refine LeO.bind ?_ (fun _ => ?_)
theorem pinfoldlaw18_DropForms.mono : ∀ a0 a1 k, LeO (pinfoldlaw18_DropForms.f k a0 a1) (pinfoldlaw18_DropForms.f (k + 1) a0 a1) := by
 intro a0 a1 k
 have ih0 := pinfoldlaw18_DropForms.mono_l k
 unfold pinfoldlaw18_DropForms.f
 repeat' first
   | (with_reducible exact ih0 _ _ _ _ _ _ _ _ _ _)
   | (with_reducible exact pinfoldlaw18_awake.mono _)
   | (with_reducible exact LeO.refl _)
   | (with_reducible exact LeO.none _)
   | (with_reducible refine LeO.ite ?_ ?_)
   | (with_reducible refine LeO.bind ?_ (fun _ => ?_))
   | exact ih0 _ _ _ _ _ _ _ _ _ _
   | exact pinfoldlaw18_awake.mono _
   | exact LeO.none _
   | refine LeO.ite ?_ ?_
   | refine LeO.bind ?_ (fun _ => ?_)
set_option maxHeartbeats 8000000 in
set_option maxRecDepth 100000 in
theorem pinfoldlaw18_DropForms.calls (k : Nat) (a0 : Int) (a1 : Int) (r : Bool) (w : World) (h : pinfoldlaw18_DropForms.f k a0 a1 = some r) :
  Calls Tryd.prog 5 #[.int .i64 a0, .int .i64 a1] w fun e w' => e = .returned (.bool r) ∧ Below w.heap.size w w' := by
 have hu26 := Tryd.underlying26
 have hu42 := Tryd.underlying42
 have HB := am_ (Below.refl w.heap.size w)
 have H : ((pinfoldlaw18_awake.f k).bind fun t373 => (if t373 = true then ((pinfoldlaw18_given.f).bind fun bt374 => ((some (([(⟨10, 2, (⟨#[109, 101]⟩ : ByteArray), 9, (⟨#[]⟩ : ByteArray), false⟩ : S42)] : List (S42)) : List (S42))).bind fun y388 => (if (Int.tmod (IntKind.u64.wrap (a0)) 5) = 0 then (pinfoldlaw18_DropForms.j0 k 0 (⟨#[109, 101]⟩ : ByteArray) y388 bt374.1 9 bt374.2.2.1 bt374.2.2.2.1 bt374.2.2.2.2.1 bt374.2.2.2.2.2.1 bt374.2.2.2.2.2.2) else (if (Int.tmod (IntKind.u64.wrap (a0)) 5) = 1 then (if 0 < (y388.length : Int) then (pinfoldlaw18_DropForms.j0 k 0 (⟨#[109, 101]⟩ : ByteArray) (y388.set (0 : Int).toNat (⟨(rd_T42 y388 0).f0, (rd_T42 y388 0).f1, (⟨#[]⟩ : ByteArray), (rd_T42 y388 0).f3, (rd_T42 y388 0).f4, (rd_T42 y388 0).f5⟩ : S42)) bt374.1 bt374.2.1 bt374.2.2.1 bt374.2.2.2.1 bt374.2.2.2.2.1 bt374.2.2.2.2.2.1 bt374.2.2.2.2.2.2) else (none)) else (if (Int.tmod (IntKind.u64.wrap (a0)) 5) = 2 then (pinfoldlaw18_DropForms.j0 k (wrap64 (-(wrap64 (1 + (Go.bits .and .i64 a1 1023))))) (⟨#[109, 101]⟩ : ByteArray) y388 bt374.1 bt374.2.1 bt374.2.2.1 bt374.2.2.2.1 bt374.2.2.2.2.1 bt374.2.2.2.2.2.1 bt374.2.2.2.2.2.2) else (if (Int.tmod (IntKind.u64.wrap (a0)) 5) = 3 then (pinfoldlaw18_DropForms.j0 k (wrap64 (1099510579200 + (wrap64 (1 + (Go.bits .and .i64 a1 1023))))) (⟨#[109, 101]⟩ : ByteArray) y388 bt374.1 bt374.2.1 bt374.2.2.1 bt374.2.2.2.1 bt374.2.2.2.2.1 bt374.2.2.2.2.2.1 bt374.2.2.2.2.2.2) else (if 0 ≤ (wrap64 (16 + (wrap64 (1 + (Go.bits .and .i64 a1 1023))))) then (if (wrap64 (16 + (wrap64 (1 + (Go.bits .and .i64 a1 1023)))) : Int).toNat ≤ 281474976710656 then (pinfoldlaw18_DropForms.j0 k 0 (strOfNums (List.replicate (wrap64 (16 + (wrap64 (1 + (Go.bits .and .i64 a1 1023)))) : Int).toNat 0)) y388 bt374.1 bt374.2.1 bt374.2.2.1 bt374.2.2.2.1 bt374.2.2.2.2.1 bt374.2.2.2.2.2.1 bt374.2.2.2.2.2.2) else (none)) else (none)))))))) else (none))) = some r := h
 clear h
 replace H := e4_ H
 obtain ⟨t373, A30, H⟩ := H
 replace H : (if t373 = true then ((pinfoldlaw18_given.f).bind fun bt374 => ((some (([(⟨10, 2, (⟨#[109, 101]⟩ : ByteArray), 9, (⟨#[]⟩ : ByteArray), false⟩ : S42)] : List (S42)) : List (S42))).bind fun y388 => (if (Int.tmod (IntKind.u64.wrap (a0)) 5) = 0 then (pinfoldlaw18_DropForms.j0 k 0 (⟨#[109, 101]⟩ : ByteArray) y388 bt374.1 9 bt374.2.2.1 bt374.2.2.2.1 bt374.2.2.2.2.1 bt374.2.2.2.2.2.1 bt374.2.2.2.2.2.2) else (if (Int.tmod (IntKind.u64.wrap (a0)) 5) = 1 then (if 0 < (y388.length : Int) then (pinfoldlaw18_DropForms.j0 k 0 (⟨#[109, 101]⟩ : ByteArray) (y388.set (0 : Int).toNat (⟨(rd_T42 y388 0).f0, (rd_T42 y388 0).f1, (⟨#[]⟩ : ByteArray), (rd_T42 y388 0).f3, (rd_T42 y388 0).f4, (rd_T42 y388 0).f5⟩ : S42)) bt374.1 bt374.2.1 bt374.2.2.1 bt374.2.2.2.1 bt374.2.2.2.2.1 bt374.2.2.2.2.2.1 bt374.2.2.2.2.2.2) else (none)) else (if (Int.tmod (IntKind.u64.wrap (a0)) 5) = 2 then (pinfoldlaw18_DropForms.j0 k (wrap64 (-(wrap64 (1 + (Go.bits .and .i64 a1 1023))))) (⟨#[109, 101]⟩ : ByteArray) y388 bt374.1 bt374.2.1 bt374.2.2.1 bt374.2.2.2.1 bt374.2.2.2.2.1 bt374.2.2.2.2.2.1 bt374.2.2.2.2.2.2) else (if (Int.tmod (IntKind.u64.wrap (a0)) 5) = 3 then (pinfoldlaw18_DropForms.j0 k (wrap64 (1099510579200 + (wrap64 (1 + (Go.bits .and .i64 a1 1023))))) (⟨#[109, 101]⟩ : ByteArray) y388 bt374.1 bt374.2.1 bt374.2.2.1 bt374.2.2.2.1 bt374.2.2.2.2.1 bt374.2.2.2.2.2.1 bt374.2.2.2.2.2.2) else (if 0 ≤ (wrap64 (16 + (wrap64 (1 + (Go.bits .and .i64 a1 1023))))) then (if (wrap64 (16 + (wrap64 (1 + (Go.bits .and .i64 a1 1023)))) : Int).toNat ≤ 281474976710656 then (pinfoldlaw18_DropForms.j0 k 0 (strOfNums (List.replicate (wrap64 (16 + (wrap64 (1 + (Go.bits .and .i64 a1 1023)))) : Int).toNat 0)) y388 bt374.1 bt374.2.1 bt374.2.2.1 bt374.2.2.2.1 bt374.2.2.2.2.1 bt374.2.2.2.2.2.1 bt374.2.2.2.2.2.2) else (none)) else (none)))))))) else (none)) = some r := H
 have A3 := am_ A30
 clear A30
 by_cases c4 : t373 = true
 ·subst c4
  have H1 : ((pinfoldlaw18_given.f).bind fun bt374 => ((some (([(⟨10, 2, (⟨#[109, 101]⟩ : ByteArray), 9, (⟨#[]⟩ : ByteArray), false⟩ : S42)] : List (S42)) : List (S42))).bind fun y388 => (if (Int.tmod (IntKind.u64.wrap (a0)) 5) = 0 then (pinfoldlaw18_DropForms.j0 k 0 (⟨#[109, 101]⟩ : ByteArray) y388 bt374.1 9 bt374.2.2.1 bt374.2.2.2.1 bt374.2.2.2.2.1 bt374.2.2.2.2.2.1 bt374.2.2.2.2.2.2) else (if (Int.tmod (IntKind.u64.wrap (a0)) 5) = 1 then (if 0 < (y388.length : Int) then (pinfoldlaw18_DropForms.j0 k 0 (⟨#[109, 101]⟩ : ByteArray) (y388.set (0 : Int).toNat (⟨(rd_T42 y388 0).f0, (rd_T42 y388 0).f1, (⟨#[]⟩ : ByteArray), (rd_T42 y388 0).f3, (rd_T42 y388 0).f4, (rd_T42 y388 0).f5⟩ : S42)) bt374.1 bt374.2.1 bt374.2.2.1 bt374.2.2.2.1 bt374.2.2.2.2.1 bt374.2.2.2.2.2.1 bt374.2.2.2.2.2.2) else (none)) else (if (Int.tmod (IntKind.u64.wrap (a0)) 5) = 2 then (pinfoldlaw18_DropForms.j0 k (wrap64 (-(wrap64 (1 + (Go.bits .and .i64 a1 1023))))) (⟨#[109, 101]⟩ : ByteArray) y388 bt374.1 bt374.2.1 bt374.2.2.1 bt374.2.2.2.1 bt374.2.2.2.2.1 bt374.2.2.2.2.2.1 bt374.2.2.2.2.2.2) else (if (Int.tmod (IntKind.u64.wrap (a0)) 5) = 3 then (pinfoldlaw18_DropForms.j0 k (wrap64 (1099510579200 + (wrap64 (1 + (Go.bits .and .i64 a1 1023))))) (⟨#[109, 101]⟩ : ByteArray) y388 bt374.1 bt374.2.1 bt374.2.2.1 bt374.2.2.2.1 bt374.2.2.2.2.1 bt374.2.2.2.2.2.1 bt374.2.2.2.2.2.2) else (if 0 ≤ (wrap64 (16 + (wrap64 (1 + (Go.bits .and .i64 a1 1023))))) then (if (wrap64 (16 + (wrap64 (1 + (Go.bits .and .i64 a1 1023)))) : Int).toNat ≤ 281474976710656 then (pinfoldlaw18_DropForms.j0 k 0 (strOfNums (List.replicate (wrap64 (16 + (wrap64 (1 + (Go.bits .and .i64 a1 1023)))) : Int).toNat 0)) y388 bt374.1 bt374.2.1 bt374.2.2.1 bt374.2.2.2.1 bt374.2.2.2.2.1 bt374.2.2.2.2.2.1 bt374.2.2.2.2.2.2) else (none)) else (none)))))))) = some r := by rw [if_pos rfl] at H; exact H
  clear H
  have H := H1
  clear H1
  replace H := e4_ H
  obtain ⟨⟨t374, t375, t376, t379, t382, t383, t384⟩, A50, H⟩ := H
  replace H : ((some (([(⟨10, 2, (⟨#[109, 101]⟩ : ByteArray), 9, (⟨#[]⟩ : ByteArray), false⟩ : S42)] : List (S42)) : List (S42))).bind fun y388 => (if (Int.tmod (IntKind.u64.wrap (a0)) 5) = 0 then (pinfoldlaw18_DropForms.j0 k 0 (⟨#[109, 101]⟩ : ByteArray) y388 t374 9 t376 t379 t382 t383 t384) else (if (Int.tmod (IntKind.u64.wrap (a0)) 5) = 1 then (if 0 < (y388.length : Int) then (pinfoldlaw18_DropForms.j0 k 0 (⟨#[109, 101]⟩ : ByteArray) (y388.set (0 : Int).toNat (⟨(rd_T42 y388 0).f0, (rd_T42 y388 0).f1, (⟨#[]⟩ : ByteArray), (rd_T42 y388 0).f3, (rd_T42 y388 0).f4, (rd_T42 y388 0).f5⟩ : S42)) t374 t375 t376 t379 t382 t383 t384) else (none)) else (if (Int.tmod (IntKind.u64.wrap (a0)) 5) = 2 then (pinfoldlaw18_DropForms.j0 k (wrap64 (-(wrap64 (1 + (Go.bits .and .i64 a1 1023))))) (⟨#[109, 101]⟩ : ByteArray) y388 t374 t375 t376 t379 t382 t383 t384) else (if (Int.tmod (IntKind.u64.wrap (a0)) 5) = 3 then (pinfoldlaw18_DropForms.j0 k (wrap64 (1099510579200 + (wrap64 (1 + (Go.bits .and .i64 a1 1023))))) (⟨#[109, 101]⟩ : ByteArray) y388 t374 t375 t376 t379 t382 t383 t384) else (if 0 ≤ (wrap64 (16 + (wrap64 (1 + (Go.bits .and .i64 a1 1023))))) then (if (wrap64 (16 + (wrap64 (1 + (Go.bits .and .i64 a1 1023)))) : Int).toNat ≤ 281474976710656 then (pinfoldlaw18_DropForms.j0 k 0 (strOfNums (List.replicate (wrap64 (16 + (wrap64 (1 + (Go.bits .and .i64 a1 1023)))) : Int).toNat 0)) y388 t374 t375 t376 t379 t382 t383 t384) else (none)) else (none))))))) = some r := H
  have A5 := am_ A50
  clear A50
  obtain ⟨y388, hy388⟩ : ∃ y_ : List (S42), y_ = (([(⟨10, 2, (⟨#[109, 101]⟩ : ByteArray), 9, (⟨#[]⟩ : ByteArray), false⟩ : S42)] : List (S42))) := ⟨_, rfl⟩
  replace H : (if (Int.tmod (IntKind.u64.wrap (a0)) 5) = 0 then (pinfoldlaw18_DropForms.j0 k 0 (⟨#[109, 101]⟩ : ByteArray) y388 t374 9 t376 t379 t382 t383 t384) else (if (Int.tmod (IntKind.u64.wrap (a0)) 5) = 1 then (if 0 < (y388.length : Int) then (pinfoldlaw18_DropForms.j0 k 0 (⟨#[109, 101]⟩ : ByteArray) (y388.set (0 : Int).toNat (⟨(rd_T42 y388 0).f0, (rd_T42 y388 0).f1, (⟨#[]⟩ : ByteArray), (rd_T42 y388 0).f3, (rd_T42 y388 0).f4, (rd_T42 y388 0).f5⟩ : S42)) t374 t375 t376 t379 t382 t383 t384) else (none)) else (if (Int.tmod (IntKind.u64.wrap (a0)) 5) = 2 then (pinfoldlaw18_DropForms.j0 k (wrap64 (-(wrap64 (1 + (Go.bits .and .i64 a1 1023))))) (⟨#[109, 101]⟩ : ByteArray) y388 t374 t375 t376 t379 t382 t383 t384) else (if (Int.tmod (IntKind.u64.wrap (a0)) 5) = 3 then (pinfoldlaw18_DropForms.j0 k (wrap64 (1099510579200 + (wrap64 (1 + (Go.bits .and .i64 a1 1023))))) (⟨#[109, 101]⟩ : ByteArray) y388 t374 t375 t376 t379 t382 t383 t384) else (if 0 ≤ (wrap64 (16 + (wrap64 (1 + (Go.bits .and .i64 a1 1023))))) then (if (wrap64 (16 + (wrap64 (1 + (Go.bits .and .i64 a1 1023)))) : Int).toNat ≤ 281474976710656 then (pinfoldlaw18_DropForms.j0 k 0 (strOfNums (List.replicate (wrap64 (16 + (wrap64 (1 + (Go.bits .and .i64 a1 1023)))) : Int).toNat 0)) y388 t374 t375 t376 t379 t382 t383 t384) else (none)) else (none)))))) = some r := by first | (rw [hy388]; with_reducible exact H) | (have H2_ := (Option.bind_some _ _).symm.trans H; rw [hy388]; with_reducible exact H2_) | (have H2_ := (Option.bind_some _ _).symm.trans H; with_reducible exact H2_) | with_reducible exact H | (rw [hy388]; exact H) | exact H
  have Ny388 := am_ hy388
  clear hy388
  have HC6 := am_ H
  clear H
  go_enter Tryd.func5, Tryd.ntmps5
  go_upto_block 0 with (first | ((with_reducible refine gate_callee (f := 24) rfl ?_); refine goesL_ (some 14) rfl rfl Tryd.func24 (by kernel_rfl) rfl #[] rfl (by (try simp only [List.map_toArray, List.map_cons, List.map_nil]); first | done | rfl | (simp only [List.length_drop, List.length_take]; rfl)) ?_; (with_reducible refine (pinfoldlaw18_awake.calls k  true _ A3.out).mono ?_); rintro e w7 ⟨rfl, hb⟩; refine ⟨_, rfl, ?_⟩; have n0_ := am_ (bt_ (by repeat (with_reducible first | exact HB.out | apply p3_ | apply p1_ | apply p2_)) hb); clear HB; have HB := n0_; clear n0_; (try clear hb)) | ((with_reducible refine gate_callee (f := 26) rfl ?_); refine goesL_ (some 19) rfl rfl Tryd.func26 (by kernel_rfl) rfl #[] rfl (by (try simp only [List.map_toArray, List.map_cons, List.map_nil]); first | done | rfl | (simp only [List.length_drop, List.length_take]; rfl)) ?_; (with_reducible refine (pinfoldlaw18_given.calls  t374 t375 t376 t379 t382 t383 t384 _ A5.out).mono ?_); rintro e w8 ⟨v377, v380, v385, rfl, ho0, ho1, ho2, hb⟩; refine ⟨_, rfl, ?_⟩; have n0_ := am_ (Kd.R_lower ho0 (bz_ (by repeat (with_reducible first | exact HB.out | apply p3_ | apply p1_ | apply p2_)))); have n1_ := am_ (Kd.R_lower ho1 (bz_ (by repeat (with_reducible first | exact HB.out | apply p3_ | apply p1_ | apply p2_)))); have n2_ := am_ (Kd.R_lower ho2 (bz_ (by repeat (with_reducible first | exact HB.out | apply p3_ | apply p1_ | apply p2_)))); have n3_ := am_ (bt_ (by repeat (with_reducible first | exact HB.out | apply p3_ | apply p1_ | apply p2_)) hb); clear HB; have HO378 := n0_; have HO381 := n1_; have HO386 := n2_; have HB := n3_; clear n0_ n1_ n2_ n3_; (try clear hb); (try clear ho0); (try clear ho1); (try clear ho2)) | ((with_reducible refine gate_dst (N := 6) rfl ?_); refine box_event ?hg (N := 6) ?hd (cs := #[.int .i64 0, .int .i64 0, .slice none 0 0, .slice none 0 0, .int .i64 0, .string (⟨#[]⟩ : ByteArray), .slice none 0 0]) (t := 26) ?hr ?_; (case hd => rfl); (case hg => rfl); (case hr => first | (go_simp; done) | (go_simp; rfl)); intro gb387 hg w9 hbox hb; have n0_ := am_ (Kd.R_below (by (with_reducible repeat (first | apply r1_ | apply r2_ | apply r3_)); exact HO378.out) hb); have n1_ := am_ (Kd.R_below (by (with_reducible repeat (first | apply r1_ | apply r2_ | apply r3_)); exact HO381.out) hb); have n2_ := am_ (Kd.R_below (by (with_reducible repeat (first | apply r1_ | apply r2_ | apply r3_)); exact HO386.out) hb); have n3_ := am_ (bt_ (by repeat (with_reducible first | exact HB.out | apply p3_ | apply p1_ | apply p2_)) hb); have n4_ := am_ (hbox); have n5_ := am_ ((by rw [hg]; exact (bz_ (by repeat (with_reducible first | exact HB.out | apply p3_ | apply p1_ | apply p2_))) : w.heap.size ≤ gb387)); have n6_ := am_ ((by rw [hg]; exact (bz_ (by repeat (with_reducible first | exact HB.out | apply p3_ | apply p1_ | apply p2_))) : w.heap.size ≤ gb387)); clear HO378; clear HO381; clear HO386; clear HB; have HO378 := n0_; have HO381 := n1_; have HO386 := n2_; have HB := n3_; have BK387 := n4_; have GW387 := n5_; have GE387 := n6_; clear n0_ n1_ n2_ n3_ n4_ n5_ n6_; clear hb hbox hg; have hcz10_0 : w9.cell? ⟨gb387, 0, none⟩ = some (.int .i64 0) := (bc_ BK387.out 0).trans rfl; have hcz10_1 : w9.cell? ⟨gb387, 1, none⟩ = some (.int .i64 0) := (bc_ BK387.out 1).trans rfl; have hcz10_2 : w9.cell? ⟨gb387, 2, none⟩ = some (.slice none 0 0) := (bc_ BK387.out 2).trans rfl; have hcz10_3 : w9.cell? ⟨gb387, 3, none⟩ = some (.slice none 0 0) := (bc_ BK387.out 3).trans rfl; have hcz10_4 : w9.cell? ⟨gb387, 4, none⟩ = some (.int .i64 0) := (bc_ BK387.out 4).trans rfl; have hcz10_5 : w9.cell? ⟨gb387, 5, none⟩ = some (.string (⟨#[]⟩ : ByteArray)) := (bc_ BK387.out 5).trans rfl; have hcz10_6 : w9.cell? ⟨gb387, 6, none⟩ = some (.slice none 0 0) := (bc_ BK387.out 6).trans rfl; have hfz10_0 := bf_ BK387.out 0; have hfz10_1 := bf_ BK387.out 1; have hfz10_2 := bf_ BK387.out 2; have hfz10_3 := bf_ BK387.out 3; have hfz10_4 := bf_ BK387.out 4; have hfz10_5 := bf_ BK387.out 5; have hfz10_6 := bf_ BK387.out 6; obtain ⟨Ao11, co11, eo11⟩ := Kd.R_slice HO378.out; subst eo11; obtain ⟨Ao12, co12, eo12⟩ := Kd.R_slice HO381.out; subst eo12; obtain ⟨Ao13, co13, eo13⟩ := Kd.R_slice HO386.out; subst eo13) | ((with_reducible refine gate_dst (N := 21) rfl ?_); refine Kd.R_lit k42 _ 42 ?hg (N := 21) ?hd (xs := ([(⟨10, 2, (⟨#[109, 101]⟩ : ByteArray), 9, (⟨#[]⟩ : ByteArray), false⟩ : S42)] : List (S42))) (inner := [.int .i64 10, .int .i64 2, .string (⟨#[109, 101]⟩ : ByteArray), .int .i64 9, .string (⟨#[]⟩ : ByteArray), .bool false]) (ok := fun _ => True) (okp := fun _ => True) ?hr ?hp (fun _ hk => hk) trivial (Below.refl _ _) (Nat.le_refl _) (by simp) ?_; (case hd => rfl); (case hg => rfl); (case hr => first | (go_simp; done) | (go_simp; rfl)); (case hp => exact (Reps.c6 (show Kd.M k42 _ _ _ (⟨10, 2, (⟨#[109, 101]⟩ : ByteArray), 9, (⟨#[]⟩ : ByteArray), false⟩ : S42) [.int .i64 10, .int .i64 2, .string (⟨#[109, 101]⟩ : ByteArray), .int .i64 9, .string (⟨#[]⟩ : ByteArray), .bool false] from (k42_mkM _ _ _ (⟨10, 2, (⟨#[109, 101]⟩ : ByteArray), 9, (⟨#[]⟩ : ByteArray), false⟩ : S42) )) (Reps.none _ _))); intro v389 w14 ho15 hb hg_ hnew_; clear hg_ hnew_; (first | rw [← Ny388.out] at ho15 | (simp only [Int.reduceToNat] at ho15; rw [← Ny388.out] at ho15)); have n0_ := am_ (Kd.R_below (by (with_reducible repeat (first | apply r1_ | apply r2_ | apply r3_)); exact (Kd.R_mono (Kd.R_far (p := ⟨gb387, 6, none⟩) (Kd.R_far (p := ⟨gb387, 5, none⟩) (Kd.R_far (p := ⟨gb387, 4, none⟩) (Kd.R_far (p := ⟨gb387, 3, none⟩) (Kd.R_far (p := ⟨gb387, 2, none⟩) (Kd.R_far (p := ⟨gb387, 1, none⟩) (Kd.R_far (p := ⟨gb387, 0, none⟩) (Kd.R_types HO378.out BK387.out (by decide)) (fun _ hk => hk.2) (.int .i64 t374)) (fun _ hk => hk.2) (.int .i64 t375)) (fun _ hk => hk.2) (.slice Ao11 t376.length co11)) (fun _ hk => hk.2) (.slice Ao12 t379.length co12)) (fun _ hk => hk.2) (.int .i64 t382)) (fun _ hk => hk.2) (.string t383)) (fun _ hk => hk.2) (.slice Ao13 t384.length co13)) (fun _ h_ => h_.1))) hb); have n1_ := am_ (Kd.R_below (by (with_reducible repeat (first | apply r1_ | apply r2_ | apply r3_)); exact (Kd.R_mono (Kd.R_far (p := ⟨gb387, 6, none⟩) (Kd.R_far (p := ⟨gb387, 5, none⟩) (Kd.R_far (p := ⟨gb387, 4, none⟩) (Kd.R_far (p := ⟨gb387, 3, none⟩) (Kd.R_far (p := ⟨gb387, 2, none⟩) (Kd.R_far (p := ⟨gb387, 1, none⟩) (Kd.R_far (p := ⟨gb387, 0, none⟩) (Kd.R_types HO381.out BK387.out (by decide)) (fun _ hk => hk.2) (.int .i64 t374)) (fun _ hk => hk.2) (.int .i64 t375)) (fun _ hk => hk.2) (.slice Ao11 t376.length co11)) (fun _ hk => hk.2) (.slice Ao12 t379.length co12)) (fun _ hk => hk.2) (.int .i64 t382)) (fun _ hk => hk.2) (.string t383)) (fun _ hk => hk.2) (.slice Ao13 t384.length co13)) (fun _ h_ => h_.1))) hb); have n2_ := am_ (Kd.R_below (by (with_reducible repeat (first | apply r1_ | apply r2_ | apply r3_)); exact (Kd.R_mono (Kd.R_far (p := ⟨gb387, 6, none⟩) (Kd.R_far (p := ⟨gb387, 5, none⟩) (Kd.R_far (p := ⟨gb387, 4, none⟩) (Kd.R_far (p := ⟨gb387, 3, none⟩) (Kd.R_far (p := ⟨gb387, 2, none⟩) (Kd.R_far (p := ⟨gb387, 1, none⟩) (Kd.R_far (p := ⟨gb387, 0, none⟩) (Kd.R_types HO386.out BK387.out (by decide)) (fun _ hk => hk.2) (.int .i64 t374)) (fun _ hk => hk.2) (.int .i64 t375)) (fun _ hk => hk.2) (.slice Ao11 t376.length co11)) (fun _ hk => hk.2) (.slice Ao12 t379.length co12)) (fun _ hk => hk.2) (.int .i64 t382)) (fun _ hk => hk.2) (.string t383)) (fun _ hk => hk.2) (.slice Ao13 t384.length co13)) (fun _ h_ => h_.1))) hb); have n3_ := am_ (Kd.R_lower ho15 (bz_ (by repeat (with_reducible first | exact HB.out | apply p3_ | apply p1_ | apply p2_ | refine bs_ ?_ GE387.out)))); have n4_ := am_ (kb_ (g := gb387) (o := .cells #[.int .i64 t374, .int .i64 t375, .slice Ao11 t376.length co11, .slice Ao12 t379.length co12, .int .i64 t382, .string t383, .slice Ao13 t384.length co13] 26 (0, 0)) (by (with_reducible repeat (first | refine k2_ ?_ _ | refine k3_ ?_ | refine k1_ ?_ _)); refine blk_put (cs := #[.int .i64 t374, .int .i64 t375, .slice Ao11 t376.length co11, .slice Ao12 t379.length co12, .int .i64 t382, .string t383, .slice none 0 0]) ?_ 6 _ rfl; (with_reducible repeat (first | refine k2_ ?_ _ | refine k3_ ?_ | refine k1_ ?_ _)); refine blk_put (cs := #[.int .i64 t374, .int .i64 t375, .slice Ao11 t376.length co11, .slice Ao12 t379.length co12, .int .i64 t382, .string (⟨#[]⟩ : ByteArray), .slice none 0 0]) ?_ 5 _ rfl; (with_reducible repeat (first | refine k2_ ?_ _ | refine k3_ ?_ | refine k1_ ?_ _)); refine blk_put (cs := #[.int .i64 t374, .int .i64 t375, .slice Ao11 t376.length co11, .slice Ao12 t379.length co12, .int .i64 0, .string (⟨#[]⟩ : ByteArray), .slice none 0 0]) ?_ 4 _ rfl; (with_reducible repeat (first | refine k2_ ?_ _ | refine k3_ ?_ | refine k1_ ?_ _)); refine blk_put (cs := #[.int .i64 t374, .int .i64 t375, .slice Ao11 t376.length co11, .slice none 0 0, .int .i64 0, .string (⟨#[]⟩ : ByteArray), .slice none 0 0]) ?_ 3 _ rfl; (with_reducible repeat (first | refine k2_ ?_ _ | refine k3_ ?_ | refine k1_ ?_ _)); refine blk_put (cs := #[.int .i64 t374, .int .i64 t375, .slice none 0 0, .slice none 0 0, .int .i64 0, .string (⟨#[]⟩ : ByteArray), .slice none 0 0]) ?_ 2 _ rfl; (with_reducible repeat (first | refine k2_ ?_ _ | refine k3_ ?_ | refine k1_ ?_ _)); refine blk_put (cs := #[.int .i64 t374, .int .i64 0, .slice none 0 0, .slice none 0 0, .int .i64 0, .string (⟨#[]⟩ : ByteArray), .slice none 0 0]) ?_ 1 _ rfl; (with_reducible repeat (first | refine k2_ ?_ _ | refine k3_ ?_ | refine k1_ ?_ _)); refine blk_put (cs := #[.int .i64 0, .int .i64 0, .slice none 0 0, .slice none 0 0, .int .i64 0, .string (⟨#[]⟩ : ByteArray), .slice none 0 0]) ?_ 0 _ rfl; (with_reducible repeat (first | refine k2_ ?_ _ | refine k3_ ?_ | refine k1_ ?_ _)); exact BK387.out) hb); have n5_ := am_ (bt_ (by repeat (with_reducible first | exact HB.out | apply p3_ | apply p1_ | apply p2_ | refine bs_ ?_ GE387.out)) hb); clear HO378; clear HO381; clear HO386; clear BK387; clear HB; have HO378 := n0_; have HO381 := n1_; have HO386 := n2_; have HO390 := n3_; have BK387 := n4_; have HB := n5_; clear n0_ n1_ n2_ n3_ n4_ n5_; clear hb ho15))
  (try simp only [Act.put, List.setIfInBounds_toArray, List.set_cons_zero, List.set_cons_succ])
  go_cut [7, 8] (fun v7 v8 wc => ∃ (kq : Nat) (x7_5 : Int) (x8_5 : ByteArray) (x9_5 : List (S42)) (x388001_5 : Int), v7 = .int .i64 x7_5 ∧ v8 = .string x8_5 ∧ Aside0 (pinfoldlaw18_DropForms.j0 kq x7_5 x8_5 x9_5 t374 x388001_5 t376 t379 t382 t383 t384 = some r) ∧ Aside0 (kq ≤ k) ∧ Aside0 (Kd.R k42 42 wc w.heap.size (fun _ => True) v389 x9_5) ∧ Aside0 (Kd.R (Kd.int .i64) 3 wc w.heap.size (fun _ => True) (.slice Ao11 t376.length co11) t376) ∧ Aside0 (Kd.R k72 72 wc w.heap.size (fun _ => True) (.slice Ao12 t379.length co12) t379) ∧ Aside0 (Kd.R k74 74 wc w.heap.size (fun _ => True) (.slice Ao13 t384.length co13) t384) ∧ Aside0 (wc.heap[gb387]? = some (.cells #[.int .i64 t374, .int .i64 x388001_5, (.slice Ao11 t376.length co11), (.slice Ao12 t379.length co12), .int .i64 t382, .string t383, (.slice Ao13 t384.length co13)] 26 (0, 0))) ∧ Aside0 (Below w.heap.size w wc))
  case first =>
   have H := HC6.out
   clear HC6
   by_cases c16 : (Int.tmod (IntKind.u64.wrap (a0)) 5) = 0
   ·rw [if_pos c16] at H
    have c16b0 : ((Int.tmod (IntKind.u64.wrap (a0)) 5) == 0) = true := beq_iff_eq.mpr c16
    have c16b1 : ((Int.tmod (IntKind.u64.wrap (a0)) 5) != 0) = false := e1_ c16
    clear c16
    (first | rw [c16b0] | (simp only [i64_w, i32_w]; rw [c16b0]) | skip)
    have H' := am_ H
    clear H
    have hcz17_0 : w14.cell? ⟨gb387, 0, none⟩ = some (.int .i64 t374) := (bc_ BK387.out 0).trans rfl; have hcz17_1 : w14.cell? ⟨gb387, 1, none⟩ = some (.int .i64 t375) := (bc_ BK387.out 1).trans rfl; have hcz17_2 : w14.cell? ⟨gb387, 2, none⟩ = some (.slice Ao11 t376.length co11) := (bc_ BK387.out 2).trans rfl; have hcz17_3 : w14.cell? ⟨gb387, 3, none⟩ = some (.slice Ao12 t379.length co12) := (bc_ BK387.out 3).trans rfl; have hcz17_4 : w14.cell? ⟨gb387, 4, none⟩ = some (.int .i64 t382) := (bc_ BK387.out 4).trans rfl; have hcz17_5 : w14.cell? ⟨gb387, 5, none⟩ = some (.string t383) := (bc_ BK387.out 5).trans rfl; have hcz17_6 : w14.cell? ⟨gb387, 6, none⟩ = some (.slice Ao13 t384.length co13) := (bc_ BK387.out 6).trans rfl; have hfz17_0 := bf_ BK387.out 0; have hfz17_1 := bf_ BK387.out 1; have hfz17_2 := bf_ BK387.out 2; have hfz17_3 := bf_ BK387.out 3; have hfz17_4 := bf_ BK387.out 4; have hfz17_5 := bf_ BK387.out 5; have hfz17_6 := bf_ BK387.out 6
    go_wp2
    go_meet
    case rel => exact ⟨_, (0), ((⟨#[109, 101]⟩ : ByteArray)), (y388), (9), (by first | rfl | (simp; done) | (simp [*]; done)), (by first | rfl | (simp; done) | (simp [*]; done)), H', ⟨by first | omega | exact Nat.le_refl _⟩, ⟨by (with_reducible repeat (first | apply r1_ | apply r2_ | apply r3_)); exact Kd.R_mono (Kd.R_far (p := ⟨gb387, 1, none⟩) (Kd.R_types HO390.out BK387.out (by decide)) (fun _ hk => hk.2) (.int .i64 9)) (fun _ hk => trivial)⟩, ⟨by (with_reducible repeat (first | apply r1_ | apply r2_ | apply r3_)); exact Kd.R_mono (Kd.R_far (p := ⟨gb387, 1, none⟩) (Kd.R_types HO378.out BK387.out (by decide)) (fun _ hk => hk.2) (.int .i64 9)) (fun _ hk => trivial)⟩, ⟨by (with_reducible repeat (first | apply r1_ | apply r2_ | apply r3_)); exact Kd.R_mono (Kd.R_far (p := ⟨gb387, 1, none⟩) (Kd.R_types HO381.out BK387.out (by decide)) (fun _ hk => hk.2) (.int .i64 9)) (fun _ hk => trivial)⟩, ⟨by (with_reducible repeat (first | apply r1_ | apply r2_ | apply r3_)); exact Kd.R_mono (Kd.R_far (p := ⟨gb387, 1, none⟩) (Kd.R_types HO386.out BK387.out (by decide)) (fun _ hk => hk.2) (.int .i64 9)) (fun _ hk => trivial)⟩, ⟨by (with_reducible repeat (first | refine k2_ ?_ _ | refine k3_ ?_ | refine k1_ ?_ _)); refine blk_put (cs := #[.int .i64 t374, .int .i64 t375, .slice Ao11 t376.length co11, .slice Ao12 t379.length co12, .int .i64 t382, .string t383, .slice Ao13 t384.length co13]) ?_ 1 _ rfl; (with_reducible repeat (first | refine k2_ ?_ _ | refine k3_ ?_ | refine k1_ ?_ _)); exact BK387.out⟩, ⟨by repeat (with_reducible first | exact HB.out | apply p3_ | apply p1_ | apply p2_ | refine bs_ ?_ GE387.out)⟩⟩
   rw [if_neg c16] at H
   have c16b0 : ((Int.tmod (IntKind.u64.wrap (a0)) 5) == 0) = false := e2_ c16
   have c16b1 : ((Int.tmod (IntKind.u64.wrap (a0)) 5) != 0) = true := bne_iff_ne.mpr c16
   (first | rw [c16b0] | (simp only [i64_w, i32_w]; rw [c16b0]) | skip)
   by_cases c18 : (Int.tmod (IntKind.u64.wrap (a0)) 5) = 1
   ·rw [if_pos c18] at H
    have c18b0 : ((Int.tmod (IntKind.u64.wrap (a0)) 5) == 1) = true := beq_iff_eq.mpr c18
    have c18b1 : ((Int.tmod (IntKind.u64.wrap (a0)) 5) != 1) = false := e1_ c18
    clear c18
    by_cases c19 : 0 < (y388.length : Int)
    rotate_left
    ·rw [if_neg c19] at H
     exact absurd H (by simp)
    rw [if_pos c19] at H
    have c19b0 : decide (0 < (y388.length : Int)) = true := decide_eq_true c19
    have c19b1 : decide (0 < y388.length) = true := decide_eq_true (by omega)
    clear c19
    obtain ⟨y391, hy391⟩ : ∃ y_ : List (S42), y_ = (y388.set (0 : Int).toNat (⟨(rd_T42 y388 0).f0, (rd_T42 y388 0).f1, (⟨#[]⟩ : ByteArray), (rd_T42 y388 0).f3, (rd_T42 y388 0).f4, (rd_T42 y388 0).f5⟩ : S42)) := ⟨_, rfl⟩
    replace H : (pinfoldlaw18_DropForms.j0 k 0 (⟨#[109, 101]⟩ : ByteArray) y391 t374 t375 t376 t379 t382 t383 t384) = some r := by first | (rw [hy391]; with_reducible exact H) | (have H2_ := (Option.bind_some _ _).symm.trans H; rw [hy391]; with_reducible exact H2_) | (have H2_ := (Option.bind_some _ _).symm.trans H; with_reducible exact H2_) | with_reducible exact H | (rw [hy391]; exact H) | exact H
    have Ny391 := am_ hy391
    clear hy391
    have H' := am_ H
    clear H
    have p20 : 0 ≤ (0 : Int) := (by omega)
    have q20 : (0 : Int) < ((y388.length : Int) : Int) := of_decide_eq_true (by first | (with_reducible assumption) | assumption)
    have qi20 : (0 < y388.length) = True := eq_true (by omega)
    obtain ⟨go20, co20, eo20, gb20, gl20, cl20, HG20⟩ := Kd.R_form HO390.out (by omega)
    (first | cases eo20 | (injection eo20 with ea_ en_ ec_; (first | subst ea_ | (injection ea_ with ea_; subst ea_)); subst ec_; clear en_))
    have GB20 := am_ gb20
    have GG20 := am_ HG20
    clear gb20 gl20 HG20
    obtain ⟨ce20, hcl20, hM20, hcc20, hfr20⟩ := Kd.R_elem HO390.out z42 (0 : Int) p20 q20
    obtain rfl := k42_openM hM20
    have hx20_0 : w14.cell? ⟨go20, (0 : Int).toNat * 6, none⟩ = some (.int .i64 ((rd_T42 y388 0).f0)) := hcc20 0 _ rfl
    have hx20_1 : w14.cell? ⟨go20, (0 : Int).toNat * 6 + 1, none⟩ = some (.int .i64 ((rd_T42 y388 0).f1)) := hcc20 1 _ rfl
    have hx20_2 : w14.cell? ⟨go20, (0 : Int).toNat * 6 + 2, none⟩ = some (.string ((rd_T42 y388 0).f2)) := hcc20 2 _ rfl
    have hx20_3 : w14.cell? ⟨go20, (0 : Int).toNat * 6 + 3, none⟩ = some (.int .i64 ((rd_T42 y388 0).f3)) := hcc20 3 _ rfl
    have hx20_4 : w14.cell? ⟨go20, (0 : Int).toNat * 6 + 4, none⟩ = some (.string ((rd_T42 y388 0).f4)) := hcc20 4 _ rfl
    have hx20_5 : w14.cell? ⟨go20, (0 : Int).toNat * 6 + 5, none⟩ = some (.bool ((rd_T42 y388 0).f5)) := hcc20 5 _ rfl
    have hf20_0 : w14.frozen? ⟨go20, (0 : Int).toNat * 6, none⟩ = false := hfr20 0
    have hf20_1 : w14.frozen? ⟨go20, (0 : Int).toNat * 6 + 1, none⟩ = false := hfr20 1
    have hf20_2 : w14.frozen? ⟨go20, (0 : Int).toNat * 6 + 2, none⟩ = false := hfr20 2
    have hf20_3 : w14.frozen? ⟨go20, (0 : Int).toNat * 6 + 3, none⟩ = false := hfr20 3
    have hf20_4 : w14.frozen? ⟨go20, (0 : Int).toNat * 6 + 4, none⟩ = false := hfr20 4
    have hf20_5 : w14.frozen? ⟨go20, (0 : Int).toNat * 6 + 5, none⟩ = false := hfr20 5
    clear hcl20 hcc20 hfr20 hM20
    (try rw [show ((0 : Int)).toNat = 0 from rfl] at hx20_0)
    (try simp only [Nat.reduceMul, Nat.zero_mul, Nat.zero_add, Nat.reduceAdd] at hx20_0)
    (try rw [show ((0 : Int)).toNat = 0 from rfl] at hf20_0)
    (try simp only [Nat.reduceMul, Nat.zero_mul, Nat.zero_add, Nat.reduceAdd] at hf20_0)
    (try rw [show ((0 : Int)).toNat = 0 from rfl] at hx20_1)
    (try simp only [Nat.reduceMul, Nat.zero_mul, Nat.zero_add, Nat.reduceAdd] at hx20_1)
    (try rw [show ((0 : Int)).toNat = 0 from rfl] at hf20_1)
    (try simp only [Nat.reduceMul, Nat.zero_mul, Nat.zero_add, Nat.reduceAdd] at hf20_1)
    (try rw [show ((0 : Int)).toNat = 0 from rfl] at hx20_2)
    (try simp only [Nat.reduceMul, Nat.zero_mul, Nat.zero_add, Nat.reduceAdd] at hx20_2)
    (try rw [show ((0 : Int)).toNat = 0 from rfl] at hf20_2)
    (try simp only [Nat.reduceMul, Nat.zero_mul, Nat.zero_add, Nat.reduceAdd] at hf20_2)
    (try rw [show ((0 : Int)).toNat = 0 from rfl] at hx20_3)
    (try simp only [Nat.reduceMul, Nat.zero_mul, Nat.zero_add, Nat.reduceAdd] at hx20_3)
    (try rw [show ((0 : Int)).toNat = 0 from rfl] at hf20_3)
    (try simp only [Nat.reduceMul, Nat.zero_mul, Nat.zero_add, Nat.reduceAdd] at hf20_3)
    (try rw [show ((0 : Int)).toNat = 0 from rfl] at hx20_4)
    (try simp only [Nat.reduceMul, Nat.zero_mul, Nat.zero_add, Nat.reduceAdd] at hx20_4)
    (try rw [show ((0 : Int)).toNat = 0 from rfl] at hf20_4)
    (try simp only [Nat.reduceMul, Nat.zero_mul, Nat.zero_add, Nat.reduceAdd] at hf20_4)
    (try rw [show ((0 : Int)).toNat = 0 from rfl] at hx20_5)
    (try simp only [Nat.reduceMul, Nat.zero_mul, Nat.zero_add, Nat.reduceAdd] at hx20_5)
    (try rw [show ((0 : Int)).toNat = 0 from rfl] at hf20_5)
    (try simp only [Nat.reduceMul, Nat.zero_mul, Nat.zero_add, Nat.reduceAdd] at hf20_5)
    replace p20 := eq_true p20
    replace q20 := eq_true q20
    have HX21 := am_ (show Kd.R k42 42 w14 w.heap.size (fun _ => True) (.slice (some ⟨go20, 0, none⟩) y388.length co20) y388 from (by (with_reducible repeat (first | apply r1_ | apply r2_ | apply r3_)); exact HO390.out))
    obtain ⟨ce21, hcl21, hM21, hcc21, hfr21⟩ := Kd.R_elem HX21.out z42 (0 : Int) (by omega) (by have h_ : (0 : Int) < ((y388.length : Int) : Int) := of_decide_eq_true (by first | (with_reducible assumption) | assumption); first | exact h_ | (have e_ := (Kd.R_reads' HO390.out).1; omega) | simpa using h_)
    obtain rfl := k42_openM hM21
    have HP21 := Kd.R_seg HX21.out (0 : Int) (by omega) (by have h_ : (0 : Int) < ((y388.length : Int) : Int) := of_decide_eq_true (by first | (with_reducible assumption) | assumption); first | exact h_ | (have e_ := (Kd.R_reads' HO390.out).1; omega) | simpa using h_) (seg := [.string (⟨#[]⟩ : ByteArray)]) (j := 2) hcl21 hcc21 (show 3 ≤ 6 from by decide) (x' := (⟨(rd_T42 y388 0).f0, (rd_T42 y388 0).f1, (⟨#[]⟩ : ByteArray), (rd_T42 y388 0).f3, (rd_T42 y388 0).f4, (rd_T42 y388 0).f5⟩ : S42)) (k42_mkM _ _ _ (⟨(rd_T42 y388 0).f0, (rd_T42 y388 0).f1, (⟨#[]⟩ : ByteArray), (rd_T42 y388 0).f3, (rd_T42 y388 0).f4, (rd_T42 y388 0).f5⟩ : S42) ) (fun _ hk => hk)
    have hx21_2 := hcc21 2 _ rfl
    (try simp only [show (k42).sz = 6 from rfl, Nat.mul_one, Nat.add_zero] at hx21_2)
    (try rw [show ((0 : Int)).toNat = 0 from rfl] at hx21_2)
    (try simp only [Nat.reduceMul, Nat.zero_mul, Nat.zero_add, Nat.reduceAdd] at hx21_2)
    have hf21_2 := hfr21 2
    (try simp only [show (k42).sz = 6 from rfl, Nat.mul_one, Nat.add_zero] at hf21_2)
    (try rw [show ((0 : Int)).toNat = 0 from rfl] at hf21_2)
    (try simp only [Nat.reduceMul, Nat.zero_mul, Nat.zero_add, Nat.reduceAdd] at hf21_2)
    clear hcl21 hcc21 hfr21 hM21
    go_wp2_with (first | ((with_reducible refine gate_store (t := 9) (p := 36) rfl ?_); refine store_event (t := 9) (p := 36) (v := ?vo_w22) (w1 := (w14.setCell ⟨go20, 2, none⟩ (.string (⟨#[]⟩ : ByteArray)))) ?hg ?ho ?hn ?hr ?_; (case ho => rfl); (case hg => rfl); (case hn => rfl); (case hr => first | (go_simp; done) | (go_simp; rfl)); intro w22 hw; have hg : w14.grownBy w22 (some go20) := (by rw [hw]; exact HP21.2); have hp_ : Kd.R k42 42 w22 w.heap.size (fun _ => True) (.slice (some ⟨go20, 0, none⟩) y388.length co20) y391 := (by rw [hw, Ny391.out]; exact HP21.1); clear HP21; have n0_ := am_ (Kd.R_over' (v := (.slice (some ⟨go20, 0, none⟩) y388.length co20)) (by (with_reducible repeat (first | apply r1_ | apply r2_ | apply r3_)); exact HO378.out) (Kd.R_typed HO390.out) (by decide) hg); have n1_ := am_ (Kd.R_over' (v := (.slice (some ⟨go20, 0, none⟩) y388.length co20)) (by (with_reducible repeat (first | apply r1_ | apply r2_ | apply r3_)); exact HO381.out) (Kd.R_typed HO390.out) (by decide) hg); have n2_ := am_ (Kd.R_over' (v := (.slice (some ⟨go20, 0, none⟩) y388.length co20)) (by (with_reducible repeat (first | apply r1_ | apply r2_ | apply r3_)); exact HO386.out) (Kd.R_typed HO390.out) (by decide) hg); have n3_ := am_ (blk_grown (g := gb387) (o := .cells #[.int .i64 t374, .int .i64 t375, .slice Ao11 t376.length co11, .slice Ao12 t379.length co12, .int .i64 t382, .string t383, .slice Ao13 t384.length co13] 26 (0, 0)) (by (with_reducible repeat (first | refine k2_ ?_ _ | refine k3_ ?_ | refine k1_ ?_ _)); exact BK387.out) hg (Kd.R_ne HO390.out BK387.out (by decide))); have n4_ := am_ (hp_); have n5_ := am_ ((by rw [hw]; exact bs_ (HB.out) GB20.out : Below w.heap.size w w22)); clear HO378; clear HO381; clear HO386; clear BK387; clear HO390; clear HB; have HO378 := n0_; have HO381 := n1_; have HO386 := n2_; have BK387 := n3_; have HO390 := n4_; have HB := n5_; clear n0_ n1_ n2_ n3_ n4_ n5_; clear hg hw hp_))
    go_meet
    case rel => exact ⟨_, (0), ((⟨#[109, 101]⟩ : ByteArray)), (y391), (t375), (by first | rfl | (simp; done) | (simp [*]; done)), (by first | rfl | (simp; done) | (simp [*]; done)), H', ⟨by first | omega | exact Nat.le_refl _⟩, ⟨by (with_reducible repeat (first | apply r1_ | apply r2_ | apply r3_)); exact HO390.out⟩, ⟨by (with_reducible repeat (first | apply r1_ | apply r2_ | apply r3_)); exact HO378.out⟩, ⟨by (with_reducible repeat (first | apply r1_ | apply r2_ | apply r3_)); exact HO381.out⟩, ⟨by (with_reducible repeat (first | apply r1_ | apply r2_ | apply r3_)); exact HO386.out⟩, ⟨by (with_reducible repeat (first | refine k2_ ?_ _ | refine k3_ ?_ | refine k1_ ?_ _)); exact BK387.out⟩, ⟨by repeat (with_reducible first | exact HB.out | apply p3_ | apply p1_ | apply p2_ | refine bs_ ?_ GE387.out)⟩⟩
   rw [if_neg c18] at H
   have c18b0 : ((Int.tmod (IntKind.u64.wrap (a0)) 5) == 1) = false := e2_ c18
   have c18b1 : ((Int.tmod (IntKind.u64.wrap (a0)) 5) != 1) = true := bne_iff_ne.mpr c18
   by_cases c23 : (Int.tmod (IntKind.u64.wrap (a0)) 5) = 2
   ·rw [if_pos c23] at H
    have c23b0 : ((Int.tmod (IntKind.u64.wrap (a0)) 5) == 2) = true := beq_iff_eq.mpr c23
    have c23b1 : ((Int.tmod (IntKind.u64.wrap (a0)) 5) != 2) = false := e1_ c23
    clear c23
    have H' := am_ H
    clear H
    go_wp2
    go_meet
    case rel => exact ⟨_, (wrap64 (-(wrap64 (1 + (Go.bits .and .i64 a1 1023))))), ((⟨#[109, 101]⟩ : ByteArray)), (y388), (t375), (by first | rfl | (simp; done) | (simp [*]; done)), (by first | rfl | (simp; done) | (simp [*]; done)), H', ⟨by first | omega | exact Nat.le_refl _⟩, ⟨by (with_reducible repeat (first | apply r1_ | apply r2_ | apply r3_)); exact HO390.out⟩, ⟨by (with_reducible repeat (first | apply r1_ | apply r2_ | apply r3_)); exact HO378.out⟩, ⟨by (with_reducible repeat (first | apply r1_ | apply r2_ | apply r3_)); exact HO381.out⟩, ⟨by (with_reducible repeat (first | apply r1_ | apply r2_ | apply r3_)); exact HO386.out⟩, ⟨by (with_reducible repeat (first | refine k2_ ?_ _ | refine k3_ ?_ | refine k1_ ?_ _)); exact BK387.out⟩, ⟨by repeat (with_reducible first | exact HB.out | apply p3_ | apply p1_ | apply p2_ | refine bs_ ?_ GE387.out)⟩⟩
   rw [if_neg c23] at H
   have c23b0 : ((Int.tmod (IntKind.u64.wrap (a0)) 5) == 2) = false := e2_ c23
   have c23b1 : ((Int.tmod (IntKind.u64.wrap (a0)) 5) != 2) = true := bne_iff_ne.mpr c23
   by_cases c24 : (Int.tmod (IntKind.u64.wrap (a0)) 5) = 3
   ·rw [if_pos c24] at H
    have c24b0 : ((Int.tmod (IntKind.u64.wrap (a0)) 5) == 3) = true := beq_iff_eq.mpr c24
    have c24b1 : ((Int.tmod (IntKind.u64.wrap (a0)) 5) != 3) = false := e1_ c24
    clear c24
    have H' := am_ H
    clear H
    go_wp2
    go_meet
    case rel => exact ⟨_, (wrap64 (1099510579200 + (wrap64 (1 + (Go.bits .and .i64 a1 1023))))), ((⟨#[109, 101]⟩ : ByteArray)), (y388), (t375), (by first | rfl | (simp; done) | (simp [*]; done)), (by first | rfl | (simp; done) | (simp [*]; done)), H', ⟨by first | omega | exact Nat.le_refl _⟩, ⟨by (with_reducible repeat (first | apply r1_ | apply r2_ | apply r3_)); exact HO390.out⟩, ⟨by (with_reducible repeat (first | apply r1_ | apply r2_ | apply r3_)); exact HO378.out⟩, ⟨by (with_reducible repeat (first | apply r1_ | apply r2_ | apply r3_)); exact HO381.out⟩, ⟨by (with_reducible repeat (first | apply r1_ | apply r2_ | apply r3_)); exact HO386.out⟩, ⟨by (with_reducible repeat (first | refine k2_ ?_ _ | refine k3_ ?_ | refine k1_ ?_ _)); exact BK387.out⟩, ⟨by repeat (with_reducible first | exact HB.out | apply p3_ | apply p1_ | apply p2_ | refine bs_ ?_ GE387.out)⟩⟩
   rw [if_neg c24] at H
   have c24b0 : ((Int.tmod (IntKind.u64.wrap (a0)) 5) == 3) = false := e2_ c24
   have c24b1 : ((Int.tmod (IntKind.u64.wrap (a0)) 5) != 3) = true := bne_iff_ne.mpr c24
   obtain ⟨ji25, hji25⟩ : ∃ j_ : Int, (wrap64 (16 + (wrap64 (1 + (Go.bits .and .i64 a1 1023))))) = j_ := ⟨_, rfl⟩
   replace H : (if 0 ≤ (ji25) then (if (ji25 : Int).toNat ≤ 281474976710656 then (pinfoldlaw18_DropForms.j0 k 0 (strOfNums (List.replicate (ji25 : Int).toNat 0)) y388 t374 t375 t376 t379 t382 t383 t384) else (none)) else (none)) = some r := by first | (rw [hji25] at H; exact H) | (simp only [hji25] at H ⊢; exact H)
   have hji25w : (IntKind.i64.wrap (16 + (wrap64 (1 + (Go.bits .and .i64 a1 1023))))) = ji25 := (i64_w _).trans hji25
   by_cases c26 : 0 ≤ (ji25)
   rotate_left
   ·rw [if_neg c26] at H
    exact absurd H (by simp)
   rw [if_pos c26] at H
   have c26b0 := eq_true c26
   have c26b1 : decide (0 ≤ (ji25)) = true := decide_eq_true c26
   clear c26
   by_cases c27 : (ji25 : Int).toNat ≤ 281474976710656
   rotate_left
   ·rw [if_neg c27] at H
    exact absurd H (by simp)
   rw [if_pos c27] at H
   have c27b0 := eq_true c27
   have c27b1 : decide ((ji25 : Int).toNat ≤ 281474976710656) = true := decide_eq_true c27
   clear c27
   obtain ⟨y392, hy392⟩ : ∃ y_ : List Int, y_ = (List.replicate (ji25 : Int).toNat 0) := ⟨_, rfl⟩
   replace H : (pinfoldlaw18_DropForms.j0 k 0 (strOfNums y392) y388 t374 t375 t376 t379 t382 t383 t384) = some r := by first | (rw [hy392]; with_reducible exact H) | (have H2_ := (Option.bind_some _ _).symm.trans H; rw [hy392]; with_reducible exact H2_) | (have H2_ := (Option.bind_some _ _).symm.trans H; with_reducible exact H2_) | with_reducible exact H | (rw [hy392]; exact H) | exact H
   have Ny392 := am_ hy392
   clear hy392
   have H' := am_ H
   clear H
   go_wp2_with (first | ((with_reducible refine gate_dst (N := 27) rfl ?_); refine Kd.R_make (Kd.int .u8) _ 5 rfl (N := 27) rfl 46 _ _ rfl ji25 rfl rfl Tryd.underlying46 (.int .u8 0) 1 info5 rfl (by decide) (by omega) 0 (ok := fun _ => True) (okp := fun _ => True) rfl (fun _ hk => hk) trivial (of_decide_eq_true (by first | (with_reducible assumption) | assumption)) (Nat.le_trans (Nat.mul_le_mul_right _ (of_decide_eq_true (by first | (with_reducible assumption) | assumption) : ji25.toNat ≤ 281474976710656)) (by omega)) (Below.refl _ _) (Nat.le_refl _) ?_; intro v393 w28 ho29 hb hg_ hnew_; clear hg_ hnew_; (first | rw [← Ny392.out] at ho29 | (simp only [Int.reduceToNat] at ho29; rw [← Ny392.out] at ho29)); have n0_ := am_ (Kd.R_below (by (with_reducible repeat (first | apply r1_ | apply r2_ | apply r3_)); exact HO378.out) hb); have n1_ := am_ (Kd.R_below (by (with_reducible repeat (first | apply r1_ | apply r2_ | apply r3_)); exact HO381.out) hb); have n2_ := am_ (Kd.R_below (by (with_reducible repeat (first | apply r1_ | apply r2_ | apply r3_)); exact HO386.out) hb); have n3_ := am_ (Kd.R_below (by (with_reducible repeat (first | apply r1_ | apply r2_ | apply r3_)); exact HO390.out) hb); have n4_ := am_ (Kd.R_lower ho29 (bz_ (by repeat (with_reducible first | exact HB.out | apply p3_ | apply p1_ | apply p2_ | refine bs_ ?_ GE387.out)))); have n5_ := am_ (kb_ (g := gb387) (o := .cells #[.int .i64 t374, .int .i64 t375, .slice Ao11 t376.length co11, .slice Ao12 t379.length co12, .int .i64 t382, .string t383, .slice Ao13 t384.length co13] 26 (0, 0)) (by (with_reducible repeat (first | refine k2_ ?_ _ | refine k3_ ?_ | refine k1_ ?_ _)); exact BK387.out) hb); have n6_ := am_ (bt_ (by repeat (with_reducible first | exact HB.out | apply p3_ | apply p1_ | apply p2_ | refine bs_ ?_ GE387.out)) hb); clear HO378; clear HO381; clear HO386; clear HO390; clear BK387; clear HB; have HO378 := n0_; have HO381 := n1_; have HO386 := n2_; have HO390 := n3_; have HO394 := n4_; have BK387 := n5_; have HB := n6_; clear n0_ n1_ n2_ n3_ n4_ n5_ n6_; clear hb ho29; have hcv30 := own_string (P := Tryd.prog) Tryd.underlying46 Tryd.underlying5 Tryd.underlying9 (Kd.own_of_R HO394.out)))
   go_meet
   case rel => exact ⟨_, (0), (strOfNums y392), (y388), (t375), (by first | rfl | (simp; done) | (simp [*]; done)), (by first | rfl | (simp; done) | (simp [*]; done)), H', ⟨by first | omega | exact Nat.le_refl _⟩, ⟨by (with_reducible repeat (first | apply r1_ | apply r2_ | apply r3_)); exact HO390.out⟩, ⟨by (with_reducible repeat (first | apply r1_ | apply r2_ | apply r3_)); exact HO378.out⟩, ⟨by (with_reducible repeat (first | apply r1_ | apply r2_ | apply r3_)); exact HO381.out⟩, ⟨by (with_reducible repeat (first | apply r1_ | apply r2_ | apply r3_)); exact HO386.out⟩, ⟨by (with_reducible repeat (first | refine k2_ ?_ _ | refine k3_ ?_ | refine k1_ ?_ _)); exact BK387.out⟩, ⟨by repeat (with_reducible first | exact HB.out | apply p3_ | apply p1_ | apply p2_ | refine bs_ ?_ GE387.out)⟩⟩
  case rest =>
   clear HC6
   (try clear c4); (try clear c6); (try clear hcz10_0); (try clear hcz10_1); (try clear hcz10_2); (try clear hcz10_3); (try clear hcz10_4); (try clear hcz10_5); (try clear hcz10_6); (try clear hfz10_0); (try clear hfz10_1); (try clear hfz10_2); (try clear hfz10_3); (try clear hfz10_4); (try clear hfz10_5); (try clear hfz10_6)
   obtain ⟨kq, x7_5, x8_5, x9_5, x388001_5, rfl, rfl, HA, HJ5, HO_9, HO_388002, HO_388003, HO_388006, BK387, HB⟩ := hcut
   cases kq with
   | zero => exact absurd HA.out (by simp [pinfoldlaw18_DropForms.j0])
   | succ kj5 =>
    have H := HA.out
    clear HA
    simp only [pinfoldlaw18_DropForms.j0] at H
    replace H := e4_ H
    obtain ⟨⟨t395, t398⟩, A310, H⟩ := H
    replace H : ((drop_Decline.f t374 x388001_5 t376 t379 t382 t383 t384 x9_5 x7_5 x8_5 10).bind fun bt399 => (if (wrap64 ((t395.length : Int) + (bt399.1.length : Int))) = 0 then ((pinfoldlaw0_Num.f t398).bind fun t403 => (if t403 = 1800 then ((pinfoldlaw0_Num.f bt399.2).bind fun t404 => (some (t404 == 1800))) else (none))) else (none))) = some r := H
    have A31 := am_ A310
    clear A310
    replace H := e4_ H
    obtain ⟨⟨t399, t402⟩, A320, H⟩ := H
    replace H : (if (wrap64 ((t395.length : Int) + (t399.length : Int))) = 0 then ((pinfoldlaw0_Num.f t398).bind fun t403 => (if t403 = 1800 then ((pinfoldlaw0_Num.f t402).bind fun t404 => (some (t404 == 1800))) else (none))) else (none)) = some r := H
    have A32 := am_ A320
    clear A320
    by_cases c33 : (wrap64 ((t395.length : Int) + (t399.length : Int))) = 0
    rotate_left
    ·rw [if_neg c33] at H
     exact absurd H (by simp)
    rw [if_pos c33] at H
    have c33b0 : ((wrap64 ((t395.length : Int) + (t399.length : Int))) == 0) = true := beq_iff_eq.mpr c33
    have c33b1 : ((wrap64 ((t395.length : Int) + (t399.length : Int))) != 0) = false := e1_ c33
    clear c33
    replace H := e4_ H
    obtain ⟨t403, A340, H⟩ := H
    replace H : (if t403 = 1800 then ((pinfoldlaw0_Num.f t402).bind fun t404 => (some (t404 == 1800))) else (none)) = some r := H
    have A34 := am_ A340
    clear A340
    by_cases c35 : t403 = 1800
    rotate_left
    ·rw [if_neg c35] at H
     exact absurd H (by simp)
    rw [if_pos c35] at H
    have c35b0 : (t403 == 1800) = true := beq_iff_eq.mpr c35
    have c35b1 : (t403 != 1800) = false := e1_ c35
    clear c35
    replace H := e4_ H
    obtain ⟨t404, A360, H⟩ := H
    replace H : (some (t404 == 1800)) = some r := H
    have A36 := am_ A360
    clear A360
    obtain rfl := e5_ H
    have hcz37_0 : wc.cell? ⟨gb387, 0, none⟩ = some (.int .i64 t374) := (bc_ BK387.out 0).trans rfl; have hcz37_1 : wc.cell? ⟨gb387, 1, none⟩ = some (.int .i64 x388001_5) := (bc_ BK387.out 1).trans rfl; have hcz37_2 : wc.cell? ⟨gb387, 2, none⟩ = some (.slice Ao11 t376.length co11) := (bc_ BK387.out 2).trans rfl; have hcz37_3 : wc.cell? ⟨gb387, 3, none⟩ = some (.slice Ao12 t379.length co12) := (bc_ BK387.out 3).trans rfl; have hcz37_4 : wc.cell? ⟨gb387, 4, none⟩ = some (.int .i64 t382) := (bc_ BK387.out 4).trans rfl; have hcz37_5 : wc.cell? ⟨gb387, 5, none⟩ = some (.string t383) := (bc_ BK387.out 5).trans rfl; have hcz37_6 : wc.cell? ⟨gb387, 6, none⟩ = some (.slice Ao13 t384.length co13) := (bc_ BK387.out 6).trans rfl; have hfz37_0 := bf_ BK387.out 0; have hfz37_1 := bf_ BK387.out 1; have hfz37_2 := bf_ BK387.out 2; have hfz37_3 := bf_ BK387.out 3; have hfz37_4 := bf_ BK387.out 4; have hfz37_5 := bf_ BK387.out 5; have hfz37_6 := bf_ BK387.out 6
    obtain ⟨Ao38, co38, eo38⟩ := Kd.R_slice HO_9.out
    subst eo38
    go_wp2_with (first | ((with_reducible refine gate_callee (f := 15) rfl ?_); refine goesL_ (some 50) rfl rfl Tryd.func15 (by kernel_rfl) rfl #[.agg #[.int .i64 t374, .int .i64 x388001_5, .slice Ao11 t376.length co11, .slice Ao12 t379.length co12, .int .i64 t382, .string t383, .slice Ao13 t384.length co13], .slice Ao38 x9_5.length co38, .int .i64 x7_5, .string x8_5, .int .i64 10] rfl (by (try simp only [List.map_toArray, List.map_cons, List.map_nil]); first | done | rfl | (simp only [List.length_drop, List.length_take]; rfl)) ?_; (with_reducible refine (drop_Release.calls t374 x388001_5 _ _ t376 _ _ t379 t382 t383 _ _ t384 _ _ x9_5 x7_5 x8_5 10 t395 t398 _ ?side1 ?side2 ?side3 ?side4 ?side5 ?side6 ?side7 ?side8 A31.out).mono ?_); (case side1 => repeat (first | exact (Kd.R_reads' HO_388002.out).2.2 | (with_reducible refine c1_ ?_ _) | (with_reducible refine c2_ ?_ _) | (with_reducible refine c3_ ?_))); (case side2 => exact (Kd.R_reads' HO_388002.out).2.1); (case side3 => repeat (first | exact (Kd.R_reads' HO_388003.out).2.2 | (with_reducible refine c1_ ?_ _) | (with_reducible refine c2_ ?_ _) | (with_reducible refine c3_ ?_))); (case side4 => exact (Kd.R_reads' HO_388003.out).2.1); (case side5 => repeat (first | exact (Kd.R_reads' HO_388006.out).2.2 | (with_reducible refine c1_ ?_ _) | (with_reducible refine c2_ ?_ _) | (with_reducible refine c3_ ?_))); (case side6 => exact (Kd.R_reads' HO_388006.out).2.1); (case side7 => repeat (first | exact (Kd.R_reads' HO_9.out).2.2 | (with_reducible refine c1_ ?_ _) | (with_reducible refine c2_ ?_ _) | (with_reducible refine c3_ ?_))); (case side8 => exact (Kd.R_reads' HO_9.out).2.1); rintro e w39 ⟨v396, rfl, ho0, hb⟩; refine ⟨_, rfl, ?_⟩; have n0_ := am_ (r5_ (by (with_reducible repeat (first | apply r1_ | apply r2_ | apply r3_)); exact HO_9.out) (r4_ ho0) hb); have n1_ := am_ (Kd.R_below (by (with_reducible repeat (first | apply r1_ | apply r2_ | apply r3_)); exact HO_388002.out) hb); have n2_ := am_ (Kd.R_below (by (with_reducible repeat (first | apply r1_ | apply r2_ | apply r3_)); exact HO_388003.out) hb); have n3_ := am_ (Kd.R_below (by (with_reducible repeat (first | apply r1_ | apply r2_ | apply r3_)); exact HO_388006.out) hb); have n4_ := am_ (Kd.R_lower (Kd.R_new' ho0 (Kd.R_lt (by (with_reducible repeat (first | apply r1_ | apply r2_ | apply r3_)); exact HO_9.out))) (bz_ (by repeat (with_reducible first | exact HB.out | apply p3_ | apply p1_ | apply p2_ | refine bs_ ?_ GE387.out)))); have n5_ := am_ (kb_ (g := gb387) (o := .cells #[.int .i64 t374, .int .i64 x388001_5, .slice Ao11 t376.length co11, .slice Ao12 t379.length co12, .int .i64 t382, .string t383, .slice Ao13 t384.length co13] 26 (0, 0)) (by (with_reducible repeat (first | refine k2_ ?_ _ | refine k3_ ?_ | refine k1_ ?_ _)); exact BK387.out) hb); have n6_ := am_ (bt_ (by repeat (with_reducible first | exact HB.out | apply p3_ | apply p1_ | apply p2_ | refine bs_ ?_ GE387.out)) hb); clear HO_9; clear HO_388002; clear HO_388003; clear HO_388006; clear BK387; clear HB; have HO_9 := n0_; have HO_388002 := n1_; have HO_388003 := n2_; have HO_388006 := n3_; have HO397 := n4_; have BK387 := n5_; have HB := n6_; clear n0_ n1_ n2_ n3_ n4_ n5_ n6_; (try clear hb); (try clear ho0); have hcz40_0 : w39.cell? ⟨gb387, 0, none⟩ = some (.int .i64 t374) := (bc_ BK387.out 0).trans rfl; have hcz40_1 : w39.cell? ⟨gb387, 1, none⟩ = some (.int .i64 x388001_5) := (bc_ BK387.out 1).trans rfl; have hcz40_2 : w39.cell? ⟨gb387, 2, none⟩ = some (.slice Ao11 t376.length co11) := (bc_ BK387.out 2).trans rfl; have hcz40_3 : w39.cell? ⟨gb387, 3, none⟩ = some (.slice Ao12 t379.length co12) := (bc_ BK387.out 3).trans rfl; have hcz40_4 : w39.cell? ⟨gb387, 4, none⟩ = some (.int .i64 t382) := (bc_ BK387.out 4).trans rfl; have hcz40_5 : w39.cell? ⟨gb387, 5, none⟩ = some (.string t383) := (bc_ BK387.out 5).trans rfl; have hcz40_6 : w39.cell? ⟨gb387, 6, none⟩ = some (.slice Ao13 t384.length co13) := (bc_ BK387.out 6).trans rfl; have hfz40_0 := bf_ BK387.out 0; have hfz40_1 := bf_ BK387.out 1; have hfz40_2 := bf_ BK387.out 2; have hfz40_3 := bf_ BK387.out 3; have hfz40_4 := bf_ BK387.out 4; have hfz40_5 := bf_ BK387.out 5; have hfz40_6 := bf_ BK387.out 6) | ((with_reducible refine gate_callee (f := 17) rfl ?_); refine goesL_ (some 58) rfl rfl Tryd.func17 (by kernel_rfl) rfl #[.agg #[.int .i64 t374, .int .i64 x388001_5, .slice Ao11 t376.length co11, .slice Ao12 t379.length co12, .int .i64 t382, .string t383, .slice Ao13 t384.length co13], .slice Ao38 x9_5.length co38, .int .i64 x7_5, .string x8_5, .int .i64 10] rfl (by (try simp only [List.map_toArray, List.map_cons, List.map_nil]); first | done | rfl | (simp only [List.length_drop, List.length_take]; rfl)) ?_; (with_reducible refine (drop_Decline.calls t374 x388001_5 _ _ t376 _ _ t379 t382 t383 _ _ t384 _ _ x9_5 x7_5 x8_5 10 t399 t402 _ ?side1 ?side2 ?side3 ?side4 ?side5 ?side6 ?side7 ?side8 A32.out).mono ?_); (case side1 => repeat (first | exact (Kd.R_reads' HO_388002.out).2.2 | (with_reducible refine c1_ ?_ _) | (with_reducible refine c2_ ?_ _) | (with_reducible refine c3_ ?_))); (case side2 => exact (Kd.R_reads' HO_388002.out).2.1); (case side3 => repeat (first | exact (Kd.R_reads' HO_388003.out).2.2 | (with_reducible refine c1_ ?_ _) | (with_reducible refine c2_ ?_ _) | (with_reducible refine c3_ ?_))); (case side4 => exact (Kd.R_reads' HO_388003.out).2.1); (case side5 => repeat (first | exact (Kd.R_reads' HO_388006.out).2.2 | (with_reducible refine c1_ ?_ _) | (with_reducible refine c2_ ?_ _) | (with_reducible refine c3_ ?_))); (case side6 => exact (Kd.R_reads' HO_388006.out).2.1); (case side7 => repeat (first | exact (Kd.R_reads' HO_9.out).2.2 | (with_reducible refine c1_ ?_ _) | (with_reducible refine c2_ ?_ _) | (with_reducible refine c3_ ?_))); (case side8 => exact (Kd.R_reads' HO_9.out).2.1); rintro e w41 ⟨v400, rfl, ho0, hb⟩; refine ⟨_, rfl, ?_⟩; have n0_ := am_ (r5_ (by (with_reducible repeat (first | apply r1_ | apply r2_ | apply r3_)); exact HO_9.out) (r4_ ho0) hb); have n1_ := am_ (Kd.R_below (by (with_reducible repeat (first | apply r1_ | apply r2_ | apply r3_)); exact HO_388002.out) hb); have n2_ := am_ (Kd.R_below (by (with_reducible repeat (first | apply r1_ | apply r2_ | apply r3_)); exact HO_388003.out) hb); have n3_ := am_ (Kd.R_below (by (with_reducible repeat (first | apply r1_ | apply r2_ | apply r3_)); exact HO_388006.out) hb); have n4_ := am_ (r5_ (by (with_reducible repeat (first | apply r1_ | apply r2_ | apply r3_)); exact HO397.out) (r4_ ho0) hb); have n5_ := am_ (Kd.R_lower (Kd.R_new' (Kd.R_new' ho0 (Kd.R_lt (by (with_reducible repeat (first | apply r1_ | apply r2_ | apply r3_)); exact HO_9.out))) (Kd.R_lt (by (with_reducible repeat (first | apply r1_ | apply r2_ | apply r3_)); exact HO397.out))) (bz_ (by repeat (with_reducible first | exact HB.out | apply p3_ | apply p1_ | apply p2_ | refine bs_ ?_ GE387.out)))); have n6_ := am_ (kb_ (g := gb387) (o := .cells #[.int .i64 t374, .int .i64 x388001_5, .slice Ao11 t376.length co11, .slice Ao12 t379.length co12, .int .i64 t382, .string t383, .slice Ao13 t384.length co13] 26 (0, 0)) (by (with_reducible repeat (first | refine k2_ ?_ _ | refine k3_ ?_ | refine k1_ ?_ _)); exact BK387.out) hb); have n7_ := am_ (bt_ (by repeat (with_reducible first | exact HB.out | apply p3_ | apply p1_ | apply p2_ | refine bs_ ?_ GE387.out)) hb); clear HO_9; clear HO_388002; clear HO_388003; clear HO_388006; clear HO397; clear BK387; clear HB; have HO_9 := n0_; have HO_388002 := n1_; have HO_388003 := n2_; have HO_388006 := n3_; have HO397 := n4_; have HO401 := n5_; have BK387 := n6_; have HB := n7_; clear n0_ n1_ n2_ n3_ n4_ n5_ n6_ n7_; (try clear hb); (try clear ho0); obtain ⟨Ao42, co42, eo42⟩ := Kd.R_slice HO397.out; subst eo42; obtain ⟨Ao43, co43, eo43⟩ := Kd.R_slice HO401.out; subst eo43) | (go_at_call 20; (with_reducible refine (pinfoldlaw0_Num.calls t398 t403 _ A34.out).mono ?_); rintro e w' ⟨rfl, ⟨nd, rfl⟩⟩) | (go_at_call 20; (with_reducible refine (pinfoldlaw0_Num.calls t402 t404 _ A36.out).mono ?_); rintro e w' ⟨rfl, ⟨nd, rfl⟩⟩))
    go_ret
    exact ⟨by first | rfl | (simp [errW_none, errW_some] <;> rfl) | (simp [*, errW_none, errW_some] <;> rfl), by repeat (with_reducible first | exact HB.out | apply p3_ | apply p1_ | apply p2_ | refine bs_ ?_ GE387.out)⟩
 replace c4 := e3_ c4
 subst c4
 have H1 : (none) = some r := by rw [if_neg (show ¬ (false = true) by decide)] at H; exact H
 clear H
 have H := H1
 clear H1
 exact absurd H (by simp)

/-- THE ONE PURE STATEMENT of pinfoldlaw18_DropForms. -/
def pinfoldlaw18_DropForms.Pure : Prop := ∀ (a0 : Int) (a1 : Int), (Lit.int .i64 a0).wf = true → (Lit.int .i64 a1).wf = true → ∃ k, pinfoldlaw18_DropForms.f k a0 a1 = some true
theorem pinfoldlaw18_DropForms.walk (P : pinfoldlaw18_DropForms.Pure) (a0 : Int) (a1 : Int) (w : World)  (w0 : (Lit.int .i64 a0).wf = true) (w1 : (Lit.int .i64 a1).wf = true) :
  Calls Tryd.prog 5 #[.int .i64 a0, .int .i64 a1] w fun e w' => e = .returned (.bool true) ∧ Below w.heap.size w w' := by
 obtain ⟨k, h⟩ := P a0 a1 w0 w1
 refine (pinfoldlaw18_DropForms.calls k a0 a1 true w  h).mono ?_
 rintro e w' ⟨rfl, hd⟩
 exact ⟨rfl, hd⟩

end Go.Proofs.YtmoobaehoccihaaDoor.PE
