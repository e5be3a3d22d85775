-- Made by wip/pr.py out of the translation (a turned copy of the kit's print; contracts by hand where said).
import Derived.Test.YtibalpbkmgegnaaDoorPJx0
import Derived.Test.YtibalpbkmgegnaaDoorPJx11
namespace Go.Proofs.YtibalpbkmgegnaaDoor.PJ
open Go.RowKit Go.Proofs.YtibalpbkmgegnaaDoorW.PrintWords Go.Proofs.YtibalpbkmgegnaaDoorW.PrintLast Go.Proofs.YtibalpbkmgegnaaDoorW.PrintMore
-- shrunk
attribute [local go_sem] max2_int min2_int max_two min_two max_three min_three max_four min_four   -- for this text's walks alone
set_option linter.unusedVariables false
set_option linter.unusedSimpArgs false

/-! ### pinfoldlaw17_ClaimRenews: function 6 -/
mutual
def pinfoldlaw17_ClaimRenews.j0 : Nat → List Int → List Int → List (S36) → Bool → Int → Int → List Int → List (S72) → Int → ByteArray → List (S74) → Option (Bool)
 | 0, _, _, _, _, _, _, _, _, _, _, _ => none
 | k + 1, x0, x1, x6, x40, x284000, x284001, x284002, x284003, x284004, x284005, x284006 => if x40 = true then (none) else (pinfoldlaw17_ClaimRenews.l0 k x0 x1 x6 (([(⟨#[]⟩ : ByteArray), (⟨#[112, 99]⟩ : ByteArray), (⟨#[119, 119, 119]⟩ : ByteArray), (⟨#[116, 118, 46, 108, 97, 110]⟩ : ByteArray), (⟨#[97, 46, 110, 101, 116]⟩ : ByteArray)] : List ByteArray)) 0 (⟨#[]⟩ : ByteArray) 0 x284000 x284001 x284002 x284003 x284004 x284005 x284006)
def pinfoldlaw17_ClaimRenews.l0 : Nat → List Int → List Int → List (S36) → List ByteArray → Int → ByteArray → Int → Int → Int → List Int → List (S72) → Int → ByteArray → List (S74) → Option (Bool)
 | 0, _, _, _, _, _, _, _, _, _, _, _, _, _, _ => none
 | k + 1, x0, x1, x6, x10, x11, x12, x13, x284000, x284001, x284002, x284003, x284004, x284005, x284006 => if x13 < (x0.length : Int) then (pinfoldlaw17_ClaimRenews.j2 k x0 x1 x6 x10 x11 x12 x13 (decide (x13 < 15)) x284000 x284001 x284002 x284003 x284004 x284005 x284006) else (pinfoldlaw17_ClaimRenews.j2 k x0 x1 x6 x10 x11 x12 x13 false x284000 x284001 x284002 x284003 x284004 x284005 x284006)
def pinfoldlaw17_ClaimRenews.j2 : Nat → List Int → List Int → List (S36) → List ByteArray → Int → ByteArray → Int → Bool → Int → Int → List Int → List (S72) → Int → ByteArray → List (S74) → Option (Bool)
 | 0, _, _, _, _, _, _, _, _, _, _, _, _, _, _, _ => none
 | k + 1, x0, x1, x6, x10, x11, x12, x13, x49, x284000, x284001, x284002, x284003, x284004, x284005, x284006 => if x49 = true then (if 0 ≤ x13 then (if x13 < (x0.length : Int) then (if x13 < (x1.length : Int) then (if 0 ≤ (wrap64 (Int.tmod (IntKind.u64.wrap (rd x1 x13)) 5)) then (if (wrap64 (Int.tmod (IntKind.u64.wrap (rd x1 x13)) 5)) < (x10.length : Int) then (pinfoldlaw17_ClaimRenews.j3 k x0 x1 x6 x10 (wrap64 (x11 + (Go.bits .and .i64 (rd x0 x13) 63))) x12 x13 x284000 x284001 x284002 x284003 x284004 x284005 x284006 false 0 0 10 (rdOf ByteArray.empty x10 (wrap64 (Int.tmod (IntKind.u64.wrap (rd x1 x13)) 5)))) else (none)) else (none)) else (pinfoldlaw17_ClaimRenews.j3 k x0 x1 x6 x10 (wrap64 (x11 + (Go.bits .and .i64 (rd x0 x13) 63))) x12 x13 x284000 x284001 x284002 x284003 x284004 x284005 x284006 false 0 0 10 (⟨#[]⟩ : ByteArray))) else (none)) else (none)) else (some true)
def pinfoldlaw17_ClaimRenews.j3 : Nat → List Int → List Int → List (S36) → List ByteArray → Int → ByteArray → Int → Int → Int → List Int → List (S72) → Int → ByteArray → List (S74) → Bool → Int → Int → Int → ByteArray → Option (Bool)
 | 0, _, _, _, _, _, _, _, _, _, _, _, _, _, _, _, _, _, _, _ => none
 | k + 1, x0, x1, x6, x10, x11, x12, x13, x284000, x284001, x284002, x284003, x284004, x284005, x284006, x299000, x299001, x299002, x299003, x299004 => if x299004.toList = ([] : List UInt8) then (pinfoldlaw17_ClaimRenews.j4 k x0 x1 x6 x10 x11 x12 x13 x284000 x284001 x284002 x284003 x284004 x284005 x284006 x299000 x299001 x299002 x299003 x299004) else (pinfoldlaw17_ClaimRenews.j4 k x0 x1 x6 x10 x11 x299004 x13 x284000 x284001 x284002 x284003 x284004 x284005 x284006 x299000 x299001 x299002 x299003 x299004)
def pinfoldlaw17_ClaimRenews.j4 : Nat → List Int → List Int → List (S36) → List ByteArray → Int → ByteArray → Int → Int → Int → List Int → List (S72) → Int → ByteArray → List (S74) → Bool → Int → Int → Int → ByteArray → Option (Bool)
 | 0, _, _, _, _, _, _, _, _, _, _, _, _, _, _, _, _, _, _, _ => none
 | k + 1, x0, x1, x6, x10, x11, x12, x13, x284000, x284001, x284002, x284003, x284004, x284005, x284006, x299000, x299001, x299002, x299003, x299004 => (claim_Claim.f x284000 x284001 x284002 x284003 x284004 x284005 x284006 x6 x11 (⟨#[109, 101]⟩ : ByteArray) x299000 x299001 x299002 x299003 x299004).bind fun bt301 => (if x12.toList = ([112, 99] : List UInt8) then (pinfoldlaw17_ClaimRenews.j5 k x0 x1 x10 x11 x12 x13 bt301.1 bt301.2.1 bt301.2.2.1 bt301.2.2.2 true x284000 x284001 x284002 x284003 x284004 x284005 x284006) else (pinfoldlaw17_ClaimRenews.j5 k x0 x1 x10 x11 x12 x13 bt301.1 bt301.2.1 bt301.2.2.1 bt301.2.2.2 (x12.toList == ([116, 118, 46, 108, 97, 110] : List UInt8)) x284000 x284001 x284002 x284003 x284004 x284005 x284006))
def pinfoldlaw17_ClaimRenews.j5 : Nat → List Int → List Int → List ByteArray → Int → ByteArray → Int → List (S36) → Int → Int → Int → Bool → Int → Int → List Int → List (S72) → Int → ByteArray → List (S74) → Option (Bool)
 | 0, _, _, _, _, _, _, _, _, _, _, _, _, _, _, _, _, _, _ => none
 | k + 1, x0, x1, x10, x11, x12, x13, x15, x16, x17, x18, x19, x284000, x284001, x284002, x284003, x284004, x284005, x284006 => if x16 = 1 then (if x17 = 10 then ((pinfoldlaw0_Num.f x18).bind fun t307 => (if t307 = 0 then ((pinfoldlaw0_SameLeases.f k x15 (([(⟨10, 2, (⟨#[109, 101]⟩ : ByteArray), wrap64 (x11 + 100), x12, x19⟩ : S36)] : List (S36)))).bind fun t311 => (if t311 = true then (pinfoldlaw17_ClaimRenews.l0 k x0 x1 x15 x10 x11 x12 (wrap64 (x13 + 1)) x284000 x284001 x284002 x284003 x284004 x284005 x284006) else (none))) else (none))) else (none)) else (none)
end
def pinfoldlaw17_ClaimRenews.f (k : Nat) (l0 : List Int) (l1 : List Int) : Option (Bool) := (pinfoldlaw17_awake.f).bind fun t269 => (if t269 = true then ((pinfoldlaw17_given.f).bind fun bt270 => ((claim_Claim.f bt270.1 bt270.2.1 bt270.2.2.1 bt270.2.2.2.1 bt270.2.2.2.2.1 bt270.2.2.2.2.2.1 bt270.2.2.2.2.2.2 (([(⟨10, 1, (⟨#[109, 101]⟩ : ByteArray), 5, (⟨#[]⟩ : ByteArray), false⟩ : S36)] : List (S36))) 0 (⟨#[109, 101]⟩ : ByteArray) true 167772161 10 0 (⟨#[]⟩ : ByteArray)).bind fun bt287 => (if bt287.2.1 = 1 then ((pinfoldlaw0_Num.f bt287.2.2.2).bind fun t293 => (pinfoldlaw17_ClaimRenews.j0 k l0 l1 bt287.1 (t293 != 0) bt270.1 bt270.2.1 bt270.2.2.1 bt270.2.2.2.1 bt270.2.2.2.2.1 bt270.2.2.2.2.2.1 bt270.2.2.2.2.2.2)) else (pinfoldlaw17_ClaimRenews.j0 k l0 l1 bt287.1 true bt270.1 bt270.2.1 bt270.2.2.1 bt270.2.2.2.1 bt270.2.2.2.2.1 bt270.2.2.2.2.2.1 bt270.2.2.2.2.2.2)))) else (none))
theorem pinfoldlaw17_ClaimRenews.mono_l : ∀ k, (∀ y0 y1 y2 y3 y4 y5 y6 y7 y8 y9 y10, LeO (pinfoldlaw17_ClaimRenews.j0 k y0 y1 y2 y3 y4 y5 y6 y7 y8 y9 y10) (pinfoldlaw17_ClaimRenews.j0 (k + 1) y0 y1 y2 y3 y4 y5 y6 y7 y8 y9 y10)) ∧ (∀ y0 y1 y2 y3 y4 y5 y6 y7 y8 y9 y10 y11 y12 y13, LeO (pinfoldlaw17_ClaimRenews.l0 k y0 y1 y2 y3 y4 y5 y6 y7 y8 y9 y10 y11 y12 y13) (pinfoldlaw17_ClaimRenews.l0 (k + 1) y0 y1 y2 y3 y4 y5 y6 y7 y8 y9 y10 y11 y12 y13)) ∧ (∀ y0 y1 y2 y3 y4 y5 y6 y7 y8 y9 y10 y11 y12 y13 y14, LeO (pinfoldlaw17_ClaimRenews.j2 k y0 y1 y2 y3 y4 y5 y6 y7 y8 y9 y10 y11 y12 y13 y14) (pinfoldlaw17_ClaimRenews.j2 (k + 1) y0 y1 y2 y3 y4 y5 y6 y7 y8 y9 y10 y11 y12 y13 y14)) ∧ (∀ y0 y1 y2 y3 y4 y5 y6 y7 y8 y9 y10 y11 y12 y13 y14 y15 y16 y17 y18, LeO (pinfoldlaw17_ClaimRenews.j3 k y0 y1 y2 y3 y4 y5 y6 y7 y8 y9 y10 y11 y12 y13 y14 y15 y16 y17 y18) (pinfoldlaw17_ClaimRenews.j3 (k + 1) y0 y1 y2 y3 y4 y5 y6 y7 y8 y9 y10 y11 y12 y13 y14 y15 y16 y17 y18)) ∧ (∀ y0 y1 y2 y3 y4 y5 y6 y7 y8 y9 y10 y11 y12 y13 y14 y15 y16 y17 y18, LeO (pinfoldlaw17_ClaimRenews.j4 k y0 y1 y2 y3 y4 y5 y6 y7 y8 y9 y10 y11 y12 y13 y14 y15 y16 y17 y18) (pinfoldlaw17_ClaimRenews.j4 (k + 1) y0 y1 y2 y3 y4 y5 y6 y7 y8 y9 y10 y11 y12 y13 y14 y15 y16 y17 y18)) ∧ (∀ y0 y1 y2 y3 y4 y5 y6 y7 y8 y9 y10 y11 y12 y13 y14 y15 y16 y17, LeO (pinfoldlaw17_ClaimRenews.j5 k y0 y1 y2 y3 y4 y5 y6 y7 y8 y9 y10 y11 y12 y13 y14 y15 y16 y17) (pinfoldlaw17_ClaimRenews.j5 (k + 1) y0 y1 y2 y3 y4 y5 y6 y7 y8 y9 y10 y11 y12 y13 y14 y15 y16 y17))
 | 0 => ⟨fun _ _ _ _ _ _ _ _ _ _ _ r h => by simp [pinfoldlaw17_ClaimRenews.j0] at h, fun _ _ _ _ _ _ _ _ _ _ _ _ _ _ r h => by simp [pinfoldlaw17_ClaimRenews.l0] at h, fun _ _ _ _ _ _ _ _ _ _ _ _ _ _ _ r h => by simp [pinfoldlaw17_ClaimRenews.j2] at h, fun _ _ _ _ _ _ _ _ _ _ _ _ _ _ _ _ _ _ _ r h => by simp [pinfoldlaw17_ClaimRenews.j3] at h, fun _ _ _ _ _ _ _ _ _ _ _ _ _ _ _ _ _ _ _ r h => by simp [pinfoldlaw17_ClaimRenews.j4] at h, fun _ _ _ _ _ _ _ _ _ _ _ _ _ _ _ _ _ _ r h => by simp [pinfoldlaw17_ClaimRenews.j5] at h⟩
 | k + 1 => by
  obtain ⟨ih0, ih1, ih2, ih3, ih4, ih5⟩ := pinfoldlaw17_ClaimRenews.mono_l k
  refine ⟨?_, ?_, ?_, ?_, ?_, ?_⟩
  ·intro y0 y1 y2 y3 y4 y5 y6 y7 y8 y9 y10
   unfold pinfoldlaw17_ClaimRenews.j0
   repeat' first
   | (with_reducible exact ih0 _ _ _ _ _ _ _ _ _ _ _)
   | (with_reducible exact ih1 _ _ _ _ _ _ _ _ _ _ _ _ _ _)
   | (with_reducible exact ih2 _ _ _ _ _ _ _ _ _ _ _ _ _ _ _)
   | (with_reducible exact ih3 _ _ _ _ _ _ _ _ _ _ _ _ _ _ _ _ _ _ _)
   | (with_reducible exact ih4 _ _ _ _ _ _ _ _ _ _ _ _ _ _ _ _ _ _ _)
   | (with_reducible exact ih5 _ _ _ _ _ _ _ _ _ _ _ _ _ _ _ _ _ _)
   | (with_reducible exact pinfoldlaw0_SameLeases.mono _ _ _)
   | (with_reducible exact LeO.refl _)
   | (with_reducible exact LeO.none _)
   | (with_reducible refine LeO.ite ?_ ?_)
   | (with_reducible refine LeO.bind ?_ (fun _ => ?_))
   | exact ih0 _ _ _ _ _ _ _ _ _ _ _
   | exact ih1 _ _ _ _ _ _ _ _ _ _ _ _ _ _
   | exact ih2 _ _ _ _ _ _ _ _ _ _ _ _ _ _ _
   | exact ih3 _ _ _ _ _ _ _ _ _ _ _ _ _ _ _ _ _ _ _
   | exact ih4 _ _ _ _ _ _ _ _ _ _ _ _ _ _ _ _ _ _ _
   | exact ih5 _ _ _ _ _ _ _ _ _ _ _ _ _ _ _ _ _ _
   | exact pinfoldlaw0_SameLeases.mono _ _ _
   | exact LeO.none _
   | refine LeO.ite ?_ ?_
   | refine LeO.bind ?_ (fun _ => ?_)
  ·intro y0 y1 y2 y3 y4 y5 y6 y7 y8 y9 y10 y11 y12 y13
   unfold pinfoldlaw17_ClaimRenews.l0
   repeat' first
   | (with_reducible exact ih0 _ _ _ _ _ _ _ _ _ _ _)
   | (with_reducible exact ih1 _ _ _ _ _ _ _ _ _ _ _ _ _ _)
   | (with_reducible exact ih2 _ _ _ _ _ _ _ _ _ _ _ _ _ _ _)
   | (with_reducible exact ih3 _ _ _ _ _ _ _ _ _ _ _ _ _ _ _ _ _ _ _)
   | (with_reducible exact ih4 _ _ _ _ _ _ _ _ _ _ _ _ _ _ _ _ _ _ _)
   | (with_reducible exact ih5 _ _ _ _ _ _ _ _ _ _ _ _ _ _ _ _ _ _)
   | (with_reducible exact pinfoldlaw0_SameLeases.mono _ _ _)
   | (with_reducible exact LeO.refl _)
   | (with_reducible exact LeO.none _)
   | (with_reducible refine LeO.ite ?_ ?_)
   | (with_reducible refine LeO.bind ?_ (fun _ => ?_))
   | exact ih0 _ _ _ _ _ _ _ _ _ _ _
   | exact ih1 _ _ _ _ _ _ _ _ _ _ _ _ _ _
   | exact ih2 _ _ _ _ _ _ _ _ _ _ _ _ _ _ _
   | exact ih3 _ _ _ _ _ _ _ _ _ _ _ _ _ _ _ _ _ _ _
   | exact ih4 _ _ _ _ _ _ _ _ _ _ _ _ _ _ _ _ _ _ _
   | exact ih5 _ _ _ _ _ _ _ _ _ _ _ _ _ _ _ _ _ _
   | exact pinfoldlaw0_SameLeases.mono _ _ _
   | exact LeO.none _
   | refine LeO.ite ?_ ?_
   | refine LeO.bind ?_ (fun _ => ?_)
  ·intro y0 y1 y2 y3 y4 y5 y6 y7 y8 y9 y10 y11 y12 y13 y14
   unfold pinfoldlaw17_ClaimRenews.j2
   repeat' first
   | (with_reducible exact ih0 _ _ _ _ _ _ _ _ _ _ _)
   | (with_reducible exact ih1 _ _ _ _ _ _ _ _ _ _ _ _ _ _)
   | (with_reducible exact ih2 _ _ _ _ _ _ _ _ _ _ _ _ _ _ _)
   | (with_reducible exact ih3 _ _ _ _ _ _ _ _ _ _ _ _ _ _ _ _ _ _ _)
   | (with_reducible exact ih4 _ _ _ _ _ _ _ _ _ _ _ _ _ _ _ _ _ _ _)
   | (with_reducible exact ih5 _ _ _ _ _ _ _ _ _ _ _ _ _ _ _ _ _ _)
   | (with_reducible exact pinfoldlaw0_SameLeases.mono _ _ _)
   | (with_reducible exact LeO.refl _)
   | (with_reducible exact LeO.none _)
   | (with_reducible refine LeO.ite ?_ ?_)
   | (with_reducible refine LeO.bind ?_ (fun _ => ?_))
   | exact ih0 _ _ _ _ _ _ _ _ _ _ _
   | exact ih1 _ _ _ _ _ _ _ _ _ _ _ _ _ _
   | exact ih2 _ _ _ _ _ _ _ _ _ _ _ _ _ _ _
   | exact ih3 _ _ _ _ _ _ _ _ _ _ _ _ _ _ _ _ _ _ _
   | exact ih4 _ _ _ _ _ _ _ _ _ _ _ _ _ _ _ _ _ _ _
   | exact ih5 _ _ _ _ _ _ _ _ _ _ _ _ _ _ _ _ _ _
   | exact pinfoldlaw0_SameLeases.mono _ _ _
   | exact LeO.none _
   | refine LeO.ite ?_ ?_
   | refine LeO.bind ?_ (fun _ => ?_)
  ·intro y0 y1 y2 y3 y4 y5 y6 y7 y8 y9 y10 y11 y12 y13 y14 y15 y16 y17 y18
   unfold pinfoldlaw17_ClaimRenews.j3
   repeat' first
   | (with_reducible exact ih0 _ _ _ _ _ _ _ _ _ _ _)
   | (with_reducible exact ih1 _ _ _ _ _ _ _ _ _ _ _ _ _ _)
   | (with_reducible exact ih2 _ _ _ _ _ _ _ _ _ _ _ _ _ _ _)
   | (with_reducible exact ih3 _ _ _ _ _ _ _ _ _ _ _ _ _ _ _ _ _ _ _)
   | (with_reducible exact ih4 _ _ _ _ _ _ _ _ _ _ _ _ _ _ _ _ _ _ _)
   | (with_reducible exact ih5 _ _ _ _ _ _ _ _ _ _ _ _ _ _ _ _ _ _)
   | (with_reducible exact pinfoldlaw0_SameLeases.mono _ _ _)
   | (with_reducible exact LeO.refl _)
   | (with_reducible exact LeO.none _)
   | (with_reducible refine LeO.ite ?_ ?_)
   | (with_reducible refine LeO.bind ?_ (fun _ => ?_))
   | exact ih0 _ _ _ _ _ _ _ _ _ _ _
   | exact ih1 _ _ _ _ _ _ _ _ _ _ _ _ _ _
   | exact ih2 _ _ _ _ _ _ _ _ _ _ _ _ _ _ _
   | exact ih3 _ _ _ _ _ _ _ _ _ _ _ _ _ _ _ _ _ _ _
   | exact ih4 _ _ _ _ _ _ _ _ _ _ _ _ _ _ _ _ _ _ _
   | exact ih5 _ _ _ _ _ _ _ _ _ _ _ _ _ _ _ _ _ _
   | exact pinfoldlaw0_SameLeases.mono _ _ _
   | exact LeO.none _
   | refine LeO.ite ?_ ?_
   | refine LeO.bind ?_ (fun _ => ?_)
  ·intro y0 y1 y2 y3 y4 y5 y6 y7 y8 y9 y10 y11 y12 y13 y14 y15 y16 y17 y18
   unfold pinfoldlaw17_ClaimRenews.j4
   repeat' first
   | (with_reducible exact ih0 _ _ _ _ _ _ _ _ _ _ _)
   | (with_reducible exact ih1 _ _ _ _ _ _ _ _ _ _ _ _ _ _)
   | (with_reducible exact ih2 _ _ _ _ _ _ _ _ _ _ _ _ _ _ _)
   | (with_reducible exact ih3 _ _ _ _ _ _ _ _ _ _ _ _ _ _ _ _ _ _ _)
   | (with_reducible exact ih4 _ _ _ _ _ _ _ _ _ _ _ _ _ _ _ _ _ _ _)
   | (with_reducible exact ih5 _ _ _ _ _ _ _ _ _ _ _ _ _ _ _ _ _ _)
   | (with_reducible exact pinfoldlaw0_SameLeases.mono _ _ _)
   | (with_reducible exact LeO.refl _)
   | (with_reducible exact LeO.none _)
   | (with_reducible refine LeO.ite ?_ ?_)
   | (with_reducible refine LeO.bind ?_ (fun _ => ?_))
   | exact ih0 _ _ _ _ _ _ _ _ _ _ _
   | exact ih1 _ _ _ _ _ _ _ _ _ _ _ _ _ _
   | exact ih2 _ _ _ _ _ _ _ _ _ _ _ _ _ _ _
   | exact ih3 _ _ _ _ _ _ _ _ _ _ _ _ _ _ _ _ _ _ _
   | exact ih4 _ _ _ _ _ _ _ _ _ _ _ _ _ _ _ _ _ _ _
   | exact ih5 _ _ _ _ _ _ _ _ _ _ _ _ _ _ _ _ _ _
   | exact pinfoldlaw0_SameLeases.mono _ _ _
   | exact LeO.none _
   | refine LeO.ite ?_ ?_
   | refine LeO.bind ?_ (fun _ => ?_)
  ·intro y0 y1 y2 y3 y4 y5 y6 y7 y8 y9 y10 y11 y12 y13 y14 y15 y16 y17
   unfold pinfoldlaw17_ClaimRenews.j5
   repeat' first
   | (with_reducible exact ih0 _ _ _ _ _ _ _ _ _ _ _)
   | (with_reducible exact ih1 _ _ _ _ _ _ _ _ _ _ _ _ _ _)
   | (with_reducible exact ih2 _ _ _ _ _ _ _ _ _ _ _ _ _ _ _)
   | (with_reducible exact ih3 _ _ _ _ _ _ _ _ _ _ _ _ _ _ _ _ _ _ _)
   | (with_reducible exact ih4 _ _ _ _ _ _ _ _ _ _ _ _ _ _ _ _ _ _ _)
   | (with_reducible exact ih5 _ _ _ _ _ _ _ _ _ _ _ _ _ _ _ _ _ _)
   | (with_reducible exact pinfoldlaw0_SameLeases.mono _ _ _)
   | (with_reducible exact LeO.refl _)
   | (with_reducible exact LeO.none _)
   | (with_reducible refine LeO.ite ?_ ?_)
   | (with_reducible refine LeO.bind ?_ (fun _ => ?_))
   | exact ih0 _ _ _ _ _ _ _ _ _ _ _
   | exact ih1 _ _ _ _ _ _ _ _ _ _ _ _ _ _
   | exact ih2 _ _ _ _ _ _ _ _ _ _ _ _ _ _ _
   | exact ih3 _ _ _ _ _ _ _ _ _ _ _ _ _ _ _ _ _ _ _
   | exact ih4 _ _ _ _ _ _ _ _ _ _ _ _ _ _ _ _ _ _ _
   | exact ih5 _ _ _ _ _ _ _ _ _ _ _ _ _ _ _ _ _ _
   | exact pinfoldlaw0_SameLeases.mono _ _ _
   | exact LeO.none _
   | refine LeO.ite ?_ ?_
   | refine LeO.bind ?_ (fun _ => ?_)
theorem pinfoldlaw17_ClaimRenews.mono : ∀ a0 a1 k, LeO (pinfoldlaw17_ClaimRenews.f k a0 a1) (pinfoldlaw17_ClaimRenews.f (k + 1) a0 a1) := by
 intro a0 a1 k
 obtain ⟨ih0, ih1, ih2, ih3, ih4, ih5⟩ := pinfoldlaw17_ClaimRenews.mono_l k
 unfold pinfoldlaw17_ClaimRenews.f
 repeat' first
   | (with_reducible exact ih0 _ _ _ _ _ _ _ _ _ _ _)
   | (with_reducible exact ih1 _ _ _ _ _ _ _ _ _ _ _ _ _ _)
   | (with_reducible exact ih2 _ _ _ _ _ _ _ _ _ _ _ _ _ _ _)
   | (with_reducible exact ih3 _ _ _ _ _ _ _ _ _ _ _ _ _ _ _ _ _ _ _)
   | (with_reducible exact ih4 _ _ _ _ _ _ _ _ _ _ _ _ _ _ _ _ _ _ _)
   | (with_reducible exact ih5 _ _ _ _ _ _ _ _ _ _ _ _ _ _ _ _ _ _)
   | (with_reducible exact pinfoldlaw0_SameLeases.mono _ _ _)
   | (with_reducible exact LeO.refl _)
   | (with_reducible exact LeO.none _)
   | (with_reducible refine LeO.ite ?_ ?_)
   | (with_reducible refine LeO.bind ?_ (fun _ => ?_))
   | exact ih0 _ _ _ _ _ _ _ _ _ _ _
   | exact ih1 _ _ _ _ _ _ _ _ _ _ _ _ _ _
   | exact ih2 _ _ _ _ _ _ _ _ _ _ _ _ _ _ _
   | exact ih3 _ _ _ _ _ _ _ _ _ _ _ _ _ _ _ _ _ _ _
   | exact ih4 _ _ _ _ _ _ _ _ _ _ _ _ _ _ _ _ _ _ _
   | exact ih5 _ _ _ _ _ _ _ _ _ _ _ _ _ _ _ _ _ _
   | exact pinfoldlaw0_SameLeases.mono _ _ _
   | exact LeO.none _
   | refine LeO.ite ?_ ?_
   | refine LeO.bind ?_ (fun _ => ?_)
set_option maxHeartbeats 8000000 in
set_option maxRecDepth 100000 in
theorem pinfoldlaw17_ClaimRenews.calls (k : Nat) (A0 : Option Addr) (c0 : Nat) (l0 : List Int) (A1 : Option Addr) (c1 : Nat) (l1 : List Int) (r : Bool) (w : World) (hr0 : Kd.C (Kd.int .i64) w A0 l0.length l0) (hc0 : l0.length ≤ c0) (hr1 : Kd.C (Kd.int .i64) w A1 l1.length l1) (hc1 : l1.length ≤ c1) (h : pinfoldlaw17_ClaimRenews.f k l0 l1 = some r) :
  Calls Tryd.prog 6 #[.slice A0 l0.length c0, .slice A1 l1.length c1] w fun e w' => e = .returned (.bool r) ∧ Below w.heap.size w w' := by
 have hu26 := Tryd.underlying26
 have hu36 := Tryd.underlying36
 have hu29 := Tryd.underlying29
 have HR0 := am_ hr0
 have HC0 := am_ hc0
 clear hr0 hc0
 have HR1 := am_ hr1
 have HC1 := am_ hc1
 clear hr1 hc1
 have HB := am_ (Below.refl w.heap.size w)
 have H : ((pinfoldlaw17_awake.f).bind fun t269 => (if t269 = true then ((pinfoldlaw17_given.f).bind fun bt270 => ((claim_Claim.f bt270.1 bt270.2.1 bt270.2.2.1 bt270.2.2.2.1 bt270.2.2.2.2.1 bt270.2.2.2.2.2.1 bt270.2.2.2.2.2.2 (([(⟨10, 1, (⟨#[109, 101]⟩ : ByteArray), 5, (⟨#[]⟩ : ByteArray), false⟩ : S36)] : List (S36))) 0 (⟨#[109, 101]⟩ : ByteArray) true 167772161 10 0 (⟨#[]⟩ : ByteArray)).bind fun bt287 => (if bt287.2.1 = 1 then ((pinfoldlaw0_Num.f bt287.2.2.2).bind fun t293 => (pinfoldlaw17_ClaimRenews.j0 k l0 l1 bt287.1 (t293 != 0) bt270.1 bt270.2.1 bt270.2.2.1 bt270.2.2.2.1 bt270.2.2.2.2.1 bt270.2.2.2.2.2.1 bt270.2.2.2.2.2.2)) else (pinfoldlaw17_ClaimRenews.j0 k l0 l1 bt287.1 true bt270.1 bt270.2.1 bt270.2.2.1 bt270.2.2.2.1 bt270.2.2.2.2.1 bt270.2.2.2.2.2.1 bt270.2.2.2.2.2.2)))) else (none))) = some r := h
 clear h
 replace H := e4_ H
 obtain ⟨t269, A30, H⟩ := H
 replace H : (if t269 = true then ((pinfoldlaw17_given.f).bind fun bt270 => ((claim_Claim.f bt270.1 bt270.2.1 bt270.2.2.1 bt270.2.2.2.1 bt270.2.2.2.2.1 bt270.2.2.2.2.2.1 bt270.2.2.2.2.2.2 (([(⟨10, 1, (⟨#[109, 101]⟩ : ByteArray), 5, (⟨#[]⟩ : ByteArray), false⟩ : S36)] : List (S36))) 0 (⟨#[109, 101]⟩ : ByteArray) true 167772161 10 0 (⟨#[]⟩ : ByteArray)).bind fun bt287 => (if bt287.2.1 = 1 then ((pinfoldlaw0_Num.f bt287.2.2.2).bind fun t293 => (pinfoldlaw17_ClaimRenews.j0 k l0 l1 bt287.1 (t293 != 0) bt270.1 bt270.2.1 bt270.2.2.1 bt270.2.2.2.1 bt270.2.2.2.2.1 bt270.2.2.2.2.2.1 bt270.2.2.2.2.2.2)) else (pinfoldlaw17_ClaimRenews.j0 k l0 l1 bt287.1 true bt270.1 bt270.2.1 bt270.2.2.1 bt270.2.2.2.1 bt270.2.2.2.2.1 bt270.2.2.2.2.2.1 bt270.2.2.2.2.2.2)))) else (none)) = some r := H
 have A3 := am_ A30
 clear A30
 by_cases c4 : t269 = true
 ·subst c4
  have H1 : ((pinfoldlaw17_given.f).bind fun bt270 => ((claim_Claim.f bt270.1 bt270.2.1 bt270.2.2.1 bt270.2.2.2.1 bt270.2.2.2.2.1 bt270.2.2.2.2.2.1 bt270.2.2.2.2.2.2 (([(⟨10, 1, (⟨#[109, 101]⟩ : ByteArray), 5, (⟨#[]⟩ : ByteArray), false⟩ : S36)] : List (S36))) 0 (⟨#[109, 101]⟩ : ByteArray) true 167772161 10 0 (⟨#[]⟩ : ByteArray)).bind fun bt287 => (if bt287.2.1 = 1 then ((pinfoldlaw0_Num.f bt287.2.2.2).bind fun t293 => (pinfoldlaw17_ClaimRenews.j0 k l0 l1 bt287.1 (t293 != 0) bt270.1 bt270.2.1 bt270.2.2.1 bt270.2.2.2.1 bt270.2.2.2.2.1 bt270.2.2.2.2.2.1 bt270.2.2.2.2.2.2)) else (pinfoldlaw17_ClaimRenews.j0 k l0 l1 bt287.1 true bt270.1 bt270.2.1 bt270.2.2.1 bt270.2.2.2.1 bt270.2.2.2.2.1 bt270.2.2.2.2.2.1 bt270.2.2.2.2.2.2)))) = some r := by rw [if_pos rfl] at H; exact H
  clear H
  have H := H1
  clear H1
  replace H := e4_ H
  obtain ⟨⟨t270, t271, t272, t275, t278, t279, t280⟩, A50, H⟩ := H
  replace H : ((claim_Claim.f t270 t271 t272 t275 t278 t279 t280 (([(⟨10, 1, (⟨#[109, 101]⟩ : ByteArray), 5, (⟨#[]⟩ : ByteArray), false⟩ : S36)] : List (S36))) 0 (⟨#[109, 101]⟩ : ByteArray) true 167772161 10 0 (⟨#[]⟩ : ByteArray)).bind fun bt287 => (if bt287.2.1 = 1 then ((pinfoldlaw0_Num.f bt287.2.2.2).bind fun t293 => (pinfoldlaw17_ClaimRenews.j0 k l0 l1 bt287.1 (t293 != 0) t270 t271 t272 t275 t278 t279 t280)) else (pinfoldlaw17_ClaimRenews.j0 k l0 l1 bt287.1 true t270 t271 t272 t275 t278 t279 t280))) = some r := H
  have A5 := am_ A50
  clear A50
  obtain ⟨y284, hy284⟩ : ∃ y_ : List (S36), y_ = (([(⟨10, 1, (⟨#[109, 101]⟩ : ByteArray), 5, (⟨#[]⟩ : ByteArray), false⟩ : S36)] : List (S36))) := ⟨_, rfl⟩
  replace H : ((claim_Claim.f t270 t271 t272 t275 t278 t279 t280 y284 0 (⟨#[109, 101]⟩ : ByteArray) true 167772161 10 0 (⟨#[]⟩ : ByteArray)).bind fun bt287 => (if bt287.2.1 = 1 then ((pinfoldlaw0_Num.f bt287.2.2.2).bind fun t293 => (pinfoldlaw17_ClaimRenews.j0 k l0 l1 bt287.1 (t293 != 0) t270 t271 t272 t275 t278 t279 t280)) else (pinfoldlaw17_ClaimRenews.j0 k l0 l1 bt287.1 true t270 t271 t272 t275 t278 t279 t280))) = some r := by first | (rw [hy284]; with_reducible exact H) | (have H2_ := (Option.bind_some _ _).symm.trans H; rw [hy284]; with_reducible exact H2_) | (have H2_ := (Option.bind_some _ _).symm.trans H; with_reducible exact H2_) | with_reducible exact H | (rw [hy284]; exact H) | exact H
  have Ny284 := am_ hy284
  clear hy284
  replace H := e4_ H
  obtain ⟨⟨t287, t290, t291, t292⟩, A60, H⟩ := H
  replace H : (if t290 = 1 then ((pinfoldlaw0_Num.f t292).bind fun t293 => (pinfoldlaw17_ClaimRenews.j0 k l0 l1 t287 (t293 != 0) t270 t271 t272 t275 t278 t279 t280)) else (pinfoldlaw17_ClaimRenews.j0 k l0 l1 t287 true t270 t271 t272 t275 t278 t279 t280)) = some r := H
  have A6 := am_ A60
  clear A60
  have HC7 := am_ H
  clear H
  go_enter Tryd.func6, Tryd.ntmps6
  go_upto_region 6 with (first | ((with_reducible refine gate_callee (f := 8) rfl ?_); refine goesL_ (some 20) rfl rfl Tryd.func8 (by kernel_rfl) rfl #[] rfl (by (try simp only [List.map_toArray, List.map_cons, List.map_nil]); first | done | rfl | (simp only [List.length_drop, List.length_take]; rfl)) ?_; (with_reducible refine (pinfoldlaw17_awake.calls  true _ A3.out).mono ?_); rintro e w8 ⟨rfl, hb⟩; refine ⟨_, rfl, ?_⟩; have n0_ := am_ (bt_ (by repeat (with_reducible first | exact HB.out | apply p3_ | apply p1_ | apply p2_)) hb); clear HB; have HB := n0_; clear n0_; (try clear hb)) | ((with_reducible refine gate_callee (f := 16) rfl ?_); refine goesL_ (some 22) rfl rfl Tryd.func16 (by kernel_rfl) rfl #[] rfl (by (try simp only [List.map_toArray, List.map_cons, List.map_nil]); first | done | rfl | (simp only [List.length_drop, List.length_take]; rfl)) ?_; (with_reducible refine (pinfoldlaw17_given.calls  t270 t271 t272 t275 t278 t279 t280 _ A5.out).mono ?_); rintro e w9 ⟨v273, v276, v281, rfl, ho0, ho1, ho2, hb⟩; refine ⟨_, rfl, ?_⟩; have n0_ := am_ (Kd.R_lower ho0 (bz_ (by repeat (with_reducible first | exact HB.out | apply p3_ | apply p1_ | apply p2_)))); have n1_ := am_ (Kd.R_lower ho1 (bz_ (by repeat (with_reducible first | exact HB.out | apply p3_ | apply p1_ | apply p2_)))); have n2_ := am_ (Kd.R_lower ho2 (bz_ (by repeat (with_reducible first | exact HB.out | apply p3_ | apply p1_ | apply p2_)))); have n3_ := am_ (bt_ (by repeat (with_reducible first | exact HB.out | apply p3_ | apply p1_ | apply p2_)) hb); clear HB; have HO274 := n0_; have HO277 := n1_; have HO282 := n2_; have HB := n3_; clear n0_ n1_ n2_ n3_; (try clear hb); (try clear ho0); (try clear ho1); (try clear ho2)) | ((with_reducible refine gate_dst (N := 5) rfl ?_); (try (refine gate_guard (by rfl) ?_; dsimp only)); refine box_event ?hg (N := 5) ?hd (cs := #[.int .i64 0, .int .i64 0, .slice none 0 0, .slice none 0 0, .int .i64 0, .string (⟨#[]⟩ : ByteArray), .slice none 0 0]) (t := 26) ?hr ?_; (case hd => rfl); (case hg => rfl); (case hr => first | (go_simp; done) | (go_simp; rfl)); intro gb283 hg w10 hbox hb; have n0_ := am_ (Kd.R_below (by (with_reducible repeat (first | apply r1_ | apply r2_ | apply r3_)); exact HO274.out) hb); have n1_ := am_ (Kd.R_below (by (with_reducible repeat (first | apply r1_ | apply r2_ | apply r3_)); exact HO277.out) hb); have n2_ := am_ (Kd.R_below (by (with_reducible repeat (first | apply r1_ | apply r2_ | apply r3_)); exact HO282.out) hb); have n3_ := am_ (bt_ (by repeat (with_reducible first | exact HB.out | apply p3_ | apply p1_ | apply p2_)) hb); have n4_ := am_ (hbox); have n5_ := am_ ((by rw [hg]; exact (bz_ (by repeat (with_reducible first | exact HB.out | apply p3_ | apply p1_ | apply p2_))) : w.heap.size ≤ gb283)); have n6_ := am_ ((by rw [hg]; exact (bz_ (by repeat (with_reducible first | exact HB.out | apply p3_ | apply p1_ | apply p2_))) : w.heap.size ≤ gb283)); clear HO274; clear HO277; clear HO282; clear HB; have HO274 := n0_; have HO277 := n1_; have HO282 := n2_; have HB := n3_; have BK283 := n4_; have GW283 := n5_; have GE283 := n6_; clear n0_ n1_ n2_ n3_ n4_ n5_ n6_; clear hb hbox hg; have hcz11_0 : w10.cell? ⟨gb283, 0, none⟩ = some (.int .i64 0) := (bc_ BK283.out 0).trans rfl; have hcz11_1 : w10.cell? ⟨gb283, 1, none⟩ = some (.int .i64 0) := (bc_ BK283.out 1).trans rfl; have hcz11_2 : w10.cell? ⟨gb283, 2, none⟩ = some (.slice none 0 0) := (bc_ BK283.out 2).trans rfl; have hcz11_3 : w10.cell? ⟨gb283, 3, none⟩ = some (.slice none 0 0) := (bc_ BK283.out 3).trans rfl; have hcz11_4 : w10.cell? ⟨gb283, 4, none⟩ = some (.int .i64 0) := (bc_ BK283.out 4).trans rfl; have hcz11_5 : w10.cell? ⟨gb283, 5, none⟩ = some (.string (⟨#[]⟩ : ByteArray)) := (bc_ BK283.out 5).trans rfl; have hcz11_6 : w10.cell? ⟨gb283, 6, none⟩ = some (.slice none 0 0) := (bc_ BK283.out 6).trans rfl; have hfz11_0 := bf_ BK283.out 0; have hfz11_1 := bf_ BK283.out 1; have hfz11_2 := bf_ BK283.out 2; have hfz11_3 := bf_ BK283.out 3; have hfz11_4 := bf_ BK283.out 4; have hfz11_5 := bf_ BK283.out 5; have hfz11_6 := bf_ BK283.out 6; obtain ⟨Ao12, co12, eo12⟩ := Kd.R_slice HO274.out; subst eo12; obtain ⟨Ao13, co13, eo13⟩ := Kd.R_slice HO277.out; subst eo13; obtain ⟨Ao14, co14, eo14⟩ := Kd.R_slice HO282.out; subst eo14) | ((with_reducible refine gate_dst (N := 24) rfl ?_); (try (refine gate_guard (by rfl) ?_; dsimp only)); refine Kd.R_lit k36 _ 36 ?hg (N := 24) ?hd (xs := ([(⟨10, 1, (⟨#[109, 101]⟩ : ByteArray), 5, (⟨#[]⟩ : ByteArray), false⟩ : S36)] : List (S36))) (inner := [.int .i64 10, .int .i64 1, .string (⟨#[109, 101]⟩ : ByteArray), .int .i64 5, .string (⟨#[]⟩ : ByteArray), .bool false]) (ok := fun _ => True) (okp := fun _ => True) ?hr ?hp (fun _ hk => hk) trivial (Below.refl _ _) (Nat.le_refl _) (by simp) ?_; (case hd => rfl); (case hg => rfl); (case hr => first | (go_simp; done) | (go_simp; rfl)); (case hp => exact (Reps.c6 (show Kd.M k36 _ _ _ (⟨10, 1, (⟨#[109, 101]⟩ : ByteArray), 5, (⟨#[]⟩ : ByteArray), false⟩ : S36) [.int .i64 10, .int .i64 1, .string (⟨#[109, 101]⟩ : ByteArray), .int .i64 5, .string (⟨#[]⟩ : ByteArray), .bool false] from (k36_mkM _ _ _ (⟨10, 1, (⟨#[109, 101]⟩ : ByteArray), 5, (⟨#[]⟩ : ByteArray), false⟩ : S36) )) (Reps.none _ _))); intro v285 w15 ho16 hb hg_ hnew_; clear hg_ hnew_; (first | rw [← Ny284.out] at ho16 | (simp only [Int.reduceToNat] at ho16; rw [← Ny284.out] at ho16)); have n0_ := am_ (Kd.R_below (by (with_reducible repeat (first | apply r1_ | apply r2_ | apply r3_)); exact (Kd.R_mono (Kd.R_far (p := ⟨gb283, 6, none⟩) (Kd.R_far (p := ⟨gb283, 5, none⟩) (Kd.R_far (p := ⟨gb283, 4, none⟩) (Kd.R_far (p := ⟨gb283, 3, none⟩) (Kd.R_far (p := ⟨gb283, 2, none⟩) (Kd.R_far (p := ⟨gb283, 1, none⟩) (Kd.R_far (p := ⟨gb283, 0, none⟩) (Kd.R_types HO274.out BK283.out (by decide)) (fun _ hk => hk.2) (.int .i64 t270)) (fun _ hk => hk.2) (.int .i64 t271)) (fun _ hk => hk.2) (.slice Ao12 t272.length co12)) (fun _ hk => hk.2) (.slice Ao13 t275.length co13)) (fun _ hk => hk.2) (.int .i64 t278)) (fun _ hk => hk.2) (.string t279)) (fun _ hk => hk.2) (.slice Ao14 t280.length co14)) (fun _ h_ => h_.1))) hb); have n1_ := am_ (Kd.R_below (by (with_reducible repeat (first | apply r1_ | apply r2_ | apply r3_)); exact (Kd.R_mono (Kd.R_far (p := ⟨gb283, 6, none⟩) (Kd.R_far (p := ⟨gb283, 5, none⟩) (Kd.R_far (p := ⟨gb283, 4, none⟩) (Kd.R_far (p := ⟨gb283, 3, none⟩) (Kd.R_far (p := ⟨gb283, 2, none⟩) (Kd.R_far (p := ⟨gb283, 1, none⟩) (Kd.R_far (p := ⟨gb283, 0, none⟩) (Kd.R_types HO277.out BK283.out (by decide)) (fun _ hk => hk.2) (.int .i64 t270)) (fun _ hk => hk.2) (.int .i64 t271)) (fun _ hk => hk.2) (.slice Ao12 t272.length co12)) (fun _ hk => hk.2) (.slice Ao13 t275.length co13)) (fun _ hk => hk.2) (.int .i64 t278)) (fun _ hk => hk.2) (.string t279)) (fun _ hk => hk.2) (.slice Ao14 t280.length co14)) (fun _ h_ => h_.1))) hb); have n2_ := am_ (Kd.R_below (by (with_reducible repeat (first | apply r1_ | apply r2_ | apply r3_)); exact (Kd.R_mono (Kd.R_far (p := ⟨gb283, 6, none⟩) (Kd.R_far (p := ⟨gb283, 5, none⟩) (Kd.R_far (p := ⟨gb283, 4, none⟩) (Kd.R_far (p := ⟨gb283, 3, none⟩) (Kd.R_far (p := ⟨gb283, 2, none⟩) (Kd.R_far (p := ⟨gb283, 1, none⟩) (Kd.R_far (p := ⟨gb283, 0, none⟩) (Kd.R_types HO282.out BK283.out (by decide)) (fun _ hk => hk.2) (.int .i64 t270)) (fun _ hk => hk.2) (.int .i64 t271)) (fun _ hk => hk.2) (.slice Ao12 t272.length co12)) (fun _ hk => hk.2) (.slice Ao13 t275.length co13)) (fun _ hk => hk.2) (.int .i64 t278)) (fun _ hk => hk.2) (.string t279)) (fun _ hk => hk.2) (.slice Ao14 t280.length co14)) (fun _ h_ => h_.1))) hb); have n3_ := am_ (Kd.R_lower ho16 (bz_ (by repeat (with_reducible first | exact HB.out | apply p3_ | apply p1_ | apply p2_ | refine bs_ ?_ GE283.out)))); have n4_ := am_ (kb_ (g := gb283) (o := .cells #[.int .i64 t270, .int .i64 t271, .slice Ao12 t272.length co12, .slice Ao13 t275.length co13, .int .i64 t278, .string t279, .slice Ao14 t280.length co14] 26 (0, 0)) (by (with_reducible repeat (first | refine k2_ ?_ _ | refine k3_ ?_ | refine k1_ ?_ _)); refine blk_put (cs := #[.int .i64 t270, .int .i64 t271, .slice Ao12 t272.length co12, .slice Ao13 t275.length co13, .int .i64 t278, .string t279, .slice none 0 0]) ?_ 6 _ rfl; (with_reducible repeat (first | refine k2_ ?_ _ | refine k3_ ?_ | refine k1_ ?_ _)); refine blk_put (cs := #[.int .i64 t270, .int .i64 t271, .slice Ao12 t272.length co12, .slice Ao13 t275.length co13, .int .i64 t278, .string (⟨#[]⟩ : ByteArray), .slice none 0 0]) ?_ 5 _ rfl; (with_reducible repeat (first | refine k2_ ?_ _ | refine k3_ ?_ | refine k1_ ?_ _)); refine blk_put (cs := #[.int .i64 t270, .int .i64 t271, .slice Ao12 t272.length co12, .slice Ao13 t275.length co13, .int .i64 0, .string (⟨#[]⟩ : ByteArray), .slice none 0 0]) ?_ 4 _ rfl; (with_reducible repeat (first | refine k2_ ?_ _ | refine k3_ ?_ | refine k1_ ?_ _)); refine blk_put (cs := #[.int .i64 t270, .int .i64 t271, .slice Ao12 t272.length co12, .slice none 0 0, .int .i64 0, .string (⟨#[]⟩ : ByteArray), .slice none 0 0]) ?_ 3 _ rfl; (with_reducible repeat (first | refine k2_ ?_ _ | refine k3_ ?_ | refine k1_ ?_ _)); refine blk_put (cs := #[.int .i64 t270, .int .i64 t271, .slice none 0 0, .slice none 0 0, .int .i64 0, .string (⟨#[]⟩ : ByteArray), .slice none 0 0]) ?_ 2 _ rfl; (with_reducible repeat (first | refine k2_ ?_ _ | refine k3_ ?_ | refine k1_ ?_ _)); refine blk_put (cs := #[.int .i64 t270, .int .i64 0, .slice none 0 0, .slice none 0 0, .int .i64 0, .string (⟨#[]⟩ : ByteArray), .slice none 0 0]) ?_ 1 _ rfl; (with_reducible repeat (first | refine k2_ ?_ _ | refine k3_ ?_ | refine k1_ ?_ _)); refine blk_put (cs := #[.int .i64 0, .int .i64 0, .slice none 0 0, .slice none 0 0, .int .i64 0, .string (⟨#[]⟩ : ByteArray), .slice none 0 0]) ?_ 0 _ rfl; (with_reducible repeat (first | refine k2_ ?_ _ | refine k3_ ?_ | refine k1_ ?_ _)); exact BK283.out) hb); have n5_ := am_ (bt_ (by repeat (with_reducible first | exact HB.out | apply p3_ | apply p1_ | apply p2_ | refine bs_ ?_ GE283.out)) hb); clear HO274; clear HO277; clear HO282; clear BK283; clear HB; have HO274 := n0_; have HO277 := n1_; have HO282 := n2_; have HO286 := n3_; have BK283 := n4_; have HB := n5_; clear n0_ n1_ n2_ n3_ n4_ n5_; clear hb ho16; have hcz17_0 : w15.cell? ⟨gb283, 0, none⟩ = some (.int .i64 t270) := (bc_ BK283.out 0).trans rfl; have hcz17_1 : w15.cell? ⟨gb283, 1, none⟩ = some (.int .i64 t271) := (bc_ BK283.out 1).trans rfl; have hcz17_2 : w15.cell? ⟨gb283, 2, none⟩ = some (.slice Ao12 t272.length co12) := (bc_ BK283.out 2).trans rfl; have hcz17_3 : w15.cell? ⟨gb283, 3, none⟩ = some (.slice Ao13 t275.length co13) := (bc_ BK283.out 3).trans rfl; have hcz17_4 : w15.cell? ⟨gb283, 4, none⟩ = some (.int .i64 t278) := (bc_ BK283.out 4).trans rfl; have hcz17_5 : w15.cell? ⟨gb283, 5, none⟩ = some (.string t279) := (bc_ BK283.out 5).trans rfl; have hcz17_6 : w15.cell? ⟨gb283, 6, none⟩ = some (.slice Ao14 t280.length co14) := (bc_ BK283.out 6).trans rfl; have hfz17_0 := bf_ BK283.out 0; have hfz17_1 := bf_ BK283.out 1; have hfz17_2 := bf_ BK283.out 2; have hfz17_3 := bf_ BK283.out 3; have hfz17_4 := bf_ BK283.out 4; have hfz17_5 := bf_ BK283.out 5; have hfz17_6 := bf_ BK283.out 6; obtain ⟨Ao18, co18, eo18⟩ := Kd.R_slice HO286.out; subst eo18) | ((with_reducible refine gate_callee (f := 9) rfl ?_); refine goesL_ (some 29) rfl rfl Tryd.func9 (by kernel_rfl) rfl #[.agg #[.int .i64 t270, .int .i64 t271, .slice Ao12 t272.length co12, .slice Ao13 t275.length co13, .int .i64 t278, .string t279, .slice Ao14 t280.length co14], .slice Ao18 y284.length co18, .int .i64 0, .string (⟨#[109, 101]⟩ : ByteArray), .agg #[.bool true, .int .i64 167772161, .int .i64 10, .int .i64 0, .string (⟨#[]⟩ : ByteArray)]] rfl (by (try simp only [List.map_toArray, List.map_cons, List.map_nil]); first | done | rfl | (simp only [List.length_drop, List.length_take]; rfl)) ?_; (with_reducible refine (claim_Claim.calls t270 t271 _ _ t272 _ _ t275 t278 t279 _ _ t280 _ _ y284 0 (⟨#[109, 101]⟩ : ByteArray) true 167772161 10 0 (⟨#[]⟩ : ByteArray) t287 t290 t291 t292 _ ?side1 ?side2 ?side3 ?side4 ?side5 ?side6 ?side7 ?side8 A6.out).mono ?_); (case side1 => repeat (first | exact (Kd.R_reads' HO274.out).2.2 | (with_reducible refine c1_ ?_ _) | (with_reducible refine c2_ ?_ _) | (with_reducible refine c3_ ?_))); (case side2 => exact (Kd.R_reads' HO274.out).2.1); (case side3 => repeat (first | exact (Kd.R_reads' HO277.out).2.2 | (with_reducible refine c1_ ?_ _) | (with_reducible refine c2_ ?_ _) | (with_reducible refine c3_ ?_))); (case side4 => exact (Kd.R_reads' HO277.out).2.1); (case side5 => repeat (first | exact (Kd.R_reads' HO282.out).2.2 | (with_reducible refine c1_ ?_ _) | (with_reducible refine c2_ ?_ _) | (with_reducible refine c3_ ?_))); (case side6 => exact (Kd.R_reads' HO282.out).2.1); (case side7 => repeat (first | exact (Kd.R_reads' HO286.out).2.2 | (with_reducible refine c1_ ?_ _) | (with_reducible refine c2_ ?_ _) | (with_reducible refine c3_ ?_))); (case side8 => exact (Kd.R_reads' HO286.out).2.1); rintro e w19 ⟨v288, rfl, ho0, hb⟩; refine ⟨_, rfl, ?_⟩; have n0_ := am_ (Kd.R_below (by (with_reducible repeat (first | apply r1_ | apply r2_ | apply r3_)); exact HO274.out) hb); have n1_ := am_ (Kd.R_below (by (with_reducible repeat (first | apply r1_ | apply r2_ | apply r3_)); exact HO277.out) hb); have n2_ := am_ (Kd.R_below (by (with_reducible repeat (first | apply r1_ | apply r2_ | apply r3_)); exact HO282.out) hb); have n3_ := am_ (r5_ (by (with_reducible repeat (first | apply r1_ | apply r2_ | apply r3_)); exact HO286.out) (r4_ ho0) hb); have n4_ := am_ (Kd.R_lower (Kd.R_new' ho0 (Kd.R_lt (by (with_reducible repeat (first | apply r1_ | apply r2_ | apply r3_)); exact HO286.out))) (bz_ (by repeat (with_reducible first | exact HB.out | apply p3_ | apply p1_ | apply p2_ | refine bs_ ?_ GE283.out)))); have n5_ := am_ (kb_ (g := gb283) (o := .cells #[.int .i64 t270, .int .i64 t271, .slice Ao12 t272.length co12, .slice Ao13 t275.length co13, .int .i64 t278, .string t279, .slice Ao14 t280.length co14] 26 (0, 0)) (by (with_reducible repeat (first | refine k2_ ?_ _ | refine k3_ ?_ | refine k1_ ?_ _)); exact BK283.out) hb); have n6_ := am_ (bt_ (by repeat (with_reducible first | exact HB.out | apply p3_ | apply p1_ | apply p2_ | refine bs_ ?_ GE283.out)) hb); clear HO274; clear HO277; clear HO282; clear HO286; clear BK283; clear HB; have HO274 := n0_; have HO277 := n1_; have HO282 := n2_; have HO286 := n3_; have HO289 := n4_; have BK283 := n5_; have HB := n6_; clear n0_ n1_ n2_ n3_ n4_ n5_ n6_; (try clear hb); (try clear ho0)))
  (try simp only [Act.put, sa_, sb_, sc_])
  go_cut [40] (fun v40 wc => ∃ (kq : Nat) (x40_6 : Bool), v40 = .bool x40_6 ∧ Aside0 (pinfoldlaw17_ClaimRenews.j0 kq l0 l1 t287 x40_6 t270 t271 t272 t275 t278 t279 t280 = some r) ∧ Aside0 (kq ≤ k) ∧ Aside0 (Kd.R k36 36 wc w.heap.size (fun _ => True) v288 t287) ∧ Aside0 (Kd.R (Kd.int .i64) 3 wc w.heap.size (fun _ => True) (.slice Ao12 t272.length co12) t272) ∧ Aside0 (Kd.R k72 72 wc w.heap.size (fun _ => True) (.slice Ao13 t275.length co13) t275) ∧ Aside0 (Kd.R k74 74 wc w.heap.size (fun _ => True) (.slice Ao14 t280.length co14) t280) ∧ Aside0 (wc.heap[gb283]? = some (.cells #[.int .i64 t270, .int .i64 t271, (.slice Ao12 t272.length co12), (.slice Ao13 t275.length co13), .int .i64 t278, .string t279, (.slice Ao14 t280.length co14)] 26 (0, 0))) ∧ Aside0 (Below w.heap.size w wc))
  case first =>
   have H := HC7.out
   clear HC7
   by_cases c20 : t290 = 1
   ·rw [if_pos c20] at H
    have c20b0 : (t290 == 1) = true := beq_iff_eq.mpr c20
    have c20b1 : (t290 != 1) = false := e1_ c20
    clear c20
    (first | rw [c20b0] | (simp only [i64_w, i32_w]; rw [c20b0]) | skip)
    replace H := e4_ H
    obtain ⟨t293, A210, H⟩ := H
    replace H : (pinfoldlaw17_ClaimRenews.j0 k l0 l1 t287 (t293 != 0) t270 t271 t272 t275 t278 t279 t280) = some r := H
    have A21 := am_ A210
    clear A210
    have H' := am_ H
    clear H
    go_wp2_with (first | (go_at_call 10; (with_reducible refine (pinfoldlaw0_Num.calls t292 t293 _ A21.out).mono ?_); rintro e w' ⟨rfl, ⟨nd, rfl⟩⟩))
    go_meet
    case rel => exact ⟨_, ((t293 != 0)), (by first | rfl | (simp; done) | (simp [*]; done) | (simp only [str_ne_]; rfl) | (simp only [str_eq_]; rfl)), H', ⟨by first | omega | exact Nat.le_refl _⟩, ⟨by (with_reducible repeat (first | apply r1_ | apply r2_ | apply r3_)); exact Kd.R_mono HO289.out (fun _ hk => trivial)⟩, ⟨by (with_reducible repeat (first | apply r1_ | apply r2_ | apply r3_)); exact HO274.out⟩, ⟨by (with_reducible repeat (first | apply r1_ | apply r2_ | apply r3_)); exact HO277.out⟩, ⟨by (with_reducible repeat (first | apply r1_ | apply r2_ | apply r3_)); exact HO282.out⟩, ⟨by (with_reducible repeat (first | refine k2_ ?_ _ | refine k3_ ?_ | refine k1_ ?_ _)); exact BK283.out⟩, ⟨by repeat (with_reducible first | exact HB.out | apply p3_ | apply p1_ | apply p2_ | refine bs_ ?_ GE283.out)⟩⟩
   rw [if_neg c20] at H
   have c20b0 : (t290 == 1) = false := e2_ c20
   have c20b1 : (t290 != 1) = true := bne_iff_ne.mpr c20
   (first | rw [c20b0] | (simp only [i64_w, i32_w]; rw [c20b0]) | skip)
   have H' := am_ H
   clear H
   go_wp2
   go_meet
   case rel => exact ⟨_, (true), (by first | rfl | (simp; done) | (simp [*]; done) | (simp only [str_ne_]; rfl) | (simp only [str_eq_]; rfl)), H', ⟨by first | omega | exact Nat.le_refl _⟩, ⟨by (with_reducible repeat (first | apply r1_ | apply r2_ | apply r3_)); exact Kd.R_mono HO289.out (fun _ hk => trivial)⟩, ⟨by (with_reducible repeat (first | apply r1_ | apply r2_ | apply r3_)); exact HO274.out⟩, ⟨by (with_reducible repeat (first | apply r1_ | apply r2_ | apply r3_)); exact HO277.out⟩, ⟨by (with_reducible repeat (first | apply r1_ | apply r2_ | apply r3_)); exact HO282.out⟩, ⟨by (with_reducible repeat (first | refine k2_ ?_ _ | refine k3_ ?_ | refine k1_ ?_ _)); exact BK283.out⟩, ⟨by repeat (with_reducible first | exact HB.out | apply p3_ | apply p1_ | apply p2_ | refine bs_ ?_ GE283.out)⟩⟩
  case rest =>
   clear HC7
   (try clear c1); (try clear c4); (try clear c6); (try clear hcz11_0); (try clear hcz11_1); (try clear hcz11_2); (try clear hcz11_3); (try clear hcz11_4); (try clear hcz11_5); (try clear hcz11_6); (try clear hcz17_0); (try clear hcz17_1); (try clear hcz17_2); (try clear hcz17_3); (try clear hcz17_4); (try clear hcz17_5); (try clear hcz17_6); (try clear hfz11_0); (try clear hfz11_1); (try clear hfz11_2); (try clear hfz11_3); (try clear hfz11_4); (try clear hfz11_5); (try clear hfz11_6); (try clear hfz17_0); (try clear hfz17_1); (try clear hfz17_2); (try clear hfz17_3); (try clear hfz17_4); (try clear hfz17_5); (try clear hfz17_6)
   obtain ⟨kq, x40_6, rfl, HA, HJ6, HO_6, HO_284002, HO_284003, HO_284006, BK283, HB⟩ := hcut
   cases kq with
   | zero => exact absurd HA.out (by simp [pinfoldlaw17_ClaimRenews.j0])
   | succ kj6 =>
    have H := HA.out
    clear HA
    simp only [pinfoldlaw17_ClaimRenews.j0] at H
    by_cases c22 : x40_6 = true
    ·subst c22
     have H1 : (none) = some r := by rw [if_pos rfl] at H; exact H
     clear H
     have H := H1
     clear H1
     exact absurd H (by simp)
    replace c22 := e3_ c22
    subst c22
    have H1 : (pinfoldlaw17_ClaimRenews.l0 kj6 l0 l1 t287 (([(⟨#[]⟩ : ByteArray), (⟨#[112, 99]⟩ : ByteArray), (⟨#[119, 119, 119]⟩ : ByteArray), (⟨#[116, 118, 46, 108, 97, 110]⟩ : ByteArray), (⟨#[97, 46, 110, 101, 116]⟩ : ByteArray)] : List ByteArray)) 0 (⟨#[]⟩ : ByteArray) 0 t270 t271 t272 t275 t278 t279 t280) = some r := by rw [if_neg (show ¬ (false = true) by decide)] at H; exact H
    clear H
    have H := H1
    clear H1
    obtain ⟨y294, hy294⟩ : ∃ y_ : List ByteArray, y_ = (([(⟨#[]⟩ : ByteArray), (⟨#[112, 99]⟩ : ByteArray), (⟨#[119, 119, 119]⟩ : ByteArray), (⟨#[116, 118, 46, 108, 97, 110]⟩ : ByteArray), (⟨#[97, 46, 110, 101, 116]⟩ : ByteArray)] : List ByteArray)) := ⟨_, rfl⟩
    replace H : (pinfoldlaw17_ClaimRenews.l0 kj6 l0 l1 t287 y294 0 (⟨#[]⟩ : ByteArray) 0 t270 t271 t272 t275 t278 t279 t280) = some r := by first | (rw [hy294]; with_reducible exact H) | (have H2_ := (Option.bind_some _ _).symm.trans H; rw [hy294]; with_reducible exact H2_) | (have H2_ := (Option.bind_some _ _).symm.trans H; with_reducible exact H2_) | with_reducible exact H | (rw [hy294]; exact H) | exact H
    have Ny294 := am_ hy294
    clear hy294
    have H' := am_ H
    clear H
    go_wp2_with (first | ((with_reducible refine gate_dst (N := 41) rfl ?_); (try (refine gate_guard (by rfl) ?_; dsimp only)); refine Kd.R_lit Kd.string _ 9 ?hg (N := 41) ?hd (xs := ([(⟨#[]⟩ : ByteArray), (⟨#[112, 99]⟩ : ByteArray), (⟨#[119, 119, 119]⟩ : ByteArray), (⟨#[116, 118, 46, 108, 97, 110]⟩ : ByteArray), (⟨#[97, 46, 110, 101, 116]⟩ : ByteArray)] : List ByteArray)) (inner := [.string (⟨#[]⟩ : ByteArray), .string (⟨#[112, 99]⟩ : ByteArray), .string (⟨#[119, 119, 119]⟩ : ByteArray), .string (⟨#[116, 118, 46, 108, 97, 110]⟩ : ByteArray), .string (⟨#[97, 46, 110, 101, 116]⟩ : ByteArray)]) (ok := fun _ => True) (okp := fun _ => True) ?hr ?hp (fun _ hk => hk) trivial (Below.refl _ _) (Nat.le_refl _) (by simp) ?_; (case hd => rfl); (case hg => rfl); (case hr => first | (go_simp; done) | (go_simp; rfl)); (case hp => exact (Reps.one (show Kd.M Kd.string _ _ _ (⟨#[]⟩ : ByteArray) [.string (⟨#[]⟩ : ByteArray)] from rfl) (Reps.one (show Kd.M Kd.string _ _ _ (⟨#[112, 99]⟩ : ByteArray) [.string (⟨#[112, 99]⟩ : ByteArray)] from rfl) (Reps.one (show Kd.M Kd.string _ _ _ (⟨#[119, 119, 119]⟩ : ByteArray) [.string (⟨#[119, 119, 119]⟩ : ByteArray)] from rfl) (Reps.one (show Kd.M Kd.string _ _ _ (⟨#[116, 118, 46, 108, 97, 110]⟩ : ByteArray) [.string (⟨#[116, 118, 46, 108, 97, 110]⟩ : ByteArray)] from rfl) (Reps.one (show Kd.M Kd.string _ _ _ (⟨#[97, 46, 110, 101, 116]⟩ : ByteArray) [.string (⟨#[97, 46, 110, 101, 116]⟩ : ByteArray)] from rfl) (Reps.none _ _))))))); intro v295 w23 ho24 hb hg_ hnew_; clear hg_ hnew_; (first | rw [← Ny294.out] at ho24 | (simp only [Int.reduceToNat] at ho24; rw [← Ny294.out] at ho24)); have n0_ := am_ (Kd.R_below (by (with_reducible repeat (first | apply r1_ | apply r2_ | apply r3_)); exact HO_6.out) hb); have n1_ := am_ (Kd.R_below (by (with_reducible repeat (first | apply r1_ | apply r2_ | apply r3_)); exact HO_284002.out) hb); have n2_ := am_ (Kd.R_below (by (with_reducible repeat (first | apply r1_ | apply r2_ | apply r3_)); exact HO_284003.out) hb); have n3_ := am_ (Kd.R_below (by (with_reducible repeat (first | apply r1_ | apply r2_ | apply r3_)); exact HO_284006.out) hb); have n4_ := am_ (Kd.R_lower ho24 (bz_ (by repeat (with_reducible first | exact HB.out | apply p3_ | apply p1_ | apply p2_ | refine bs_ ?_ GE283.out)))); have n5_ := am_ (kb_ (g := gb283) (o := .cells #[.int .i64 t270, .int .i64 t271, .slice Ao12 t272.length co12, .slice Ao13 t275.length co13, .int .i64 t278, .string t279, .slice Ao14 t280.length co14] 26 (0, 0)) (by (with_reducible repeat (first | refine k2_ ?_ _ | refine k3_ ?_ | refine k1_ ?_ _)); exact BK283.out) hb); have n6_ := am_ (bt_ (by repeat (with_reducible first | exact HB.out | apply p3_ | apply p1_ | apply p2_ | refine bs_ ?_ GE283.out)) hb); clear HO_6; clear HO_284002; clear HO_284003; clear HO_284006; clear BK283; clear HB; have HO_6 := n0_; have HO_284002 := n1_; have HO_284003 := n2_; have HO_284006 := n3_; have HO296 := n4_; have BK283 := n5_; have HB := n6_; clear n0_ n1_ n2_ n3_ n4_ n5_ n6_; clear hb ho24))
    go_loopg [6, 11, 12, 13] kj6 (fun kq v6 v11 v12 v13 w' => ∃ (x6_2 : List (S36)) (x11_2 : Int) (x12_2 : ByteArray) (x13_2 : Int), v11 = .int .i64 x11_2 ∧ v12 = .string x12_2 ∧ v13 = .int .i64 x13_2 ∧ Aside0 (pinfoldlaw17_ClaimRenews.l0 kq l0 l1 x6_2 y294 x11_2 x12_2 x13_2 t270 t271 t272 t275 t278 t279 t280 = some r) ∧ Aside0 (kq ≤ kj6) ∧ Aside0 (Kd.R k36 36 w' w.heap.size (fun _ => True) v6 x6_2) ∧ Aside0 (Kd.R Kd.string 9 w' w.heap.size (fun _ => True) v295 y294) ∧ Aside0 (Kd.R (Kd.int .i64) 3 w' w.heap.size (fun _ => True) (.slice Ao12 t272.length co12) t272) ∧ Aside0 (Kd.R k72 72 w' w.heap.size (fun _ => True) (.slice Ao13 t275.length co13) t275) ∧ Aside0 (Kd.R k74 74 w' w.heap.size (fun _ => True) (.slice Ao14 t280.length co14) t280) ∧ Aside0 (w'.heap[gb283]? = some (.cells #[.int .i64 t270, .int .i64 t271, (.slice Ao12 t272.length co12), (.slice Ao13 t275.length co13), .int .i64 t278, .string t279, (.slice Ao14 t280.length co14)] 26 (0, 0))) ∧ Aside0 (Below w.heap.size w w'))
    case atStart => exact ⟨(t287), (0), ((⟨#[]⟩ : ByteArray)), (0), (by first | rfl | (simp; done) | (simp [*]; done) | (simp only [str_ne_]; rfl) | (simp only [str_eq_]; rfl)), (by first | rfl | (simp; done) | (simp [*]; done) | (simp only [str_ne_]; rfl) | (simp only [str_eq_]; rfl)), (by first | rfl | (simp; done) | (simp [*]; done) | (simp only [str_ne_]; rfl) | (simp only [str_eq_]; rfl)), H', ⟨Nat.le_refl _⟩, ⟨by (with_reducible repeat (first | apply r1_ | apply r2_ | apply r3_)); exact HO_6.out⟩, ⟨by (with_reducible repeat (first | apply r1_ | apply r2_ | apply r3_)); exact HO296.out⟩, ⟨by (with_reducible repeat (first | apply r1_ | apply r2_ | apply r3_)); exact HO_284002.out⟩, ⟨by (with_reducible repeat (first | apply r1_ | apply r2_ | apply r3_)); exact HO_284003.out⟩, ⟨by (with_reducible repeat (first | apply r1_ | apply r2_ | apply r3_)); exact HO_284006.out⟩, ⟨by (with_reducible repeat (first | refine k2_ ?_ _ | refine k3_ ?_ | refine k1_ ?_ _)); exact BK283.out⟩, ⟨by repeat (with_reducible first | exact HB.out | apply p3_ | apply p1_ | apply p2_ | refine bs_ ?_ GE283.out)⟩⟩
    case round =>
     clear H'
     (try clear c1); (try clear c4); (try clear c6); (try clear c22); (try clear hcz11_0); (try clear hcz11_1); (try clear hcz11_2); (try clear hcz11_3); (try clear hcz11_4); (try clear hcz11_5); (try clear hcz11_6); (try clear hcz17_0); (try clear hcz17_1); (try clear hcz17_2); (try clear hcz17_3); (try clear hcz17_4); (try clear hcz17_5); (try clear hcz17_6); (try clear hfz11_0); (try clear hfz11_1); (try clear hfz11_2); (try clear hfz11_3); (try clear hfz11_4); (try clear hfz11_5); (try clear hfz11_6); (try clear hfz17_0); (try clear hfz17_1); (try clear hfz17_2); (try clear hfz17_3); (try clear hfz17_4); (try clear hfz17_5); (try clear hfz17_6)
     obtain ⟨x6_2, x11_2, x12_2, x13_2, rfl, rfl, rfl, HA, HK2, HO_6, HO_10, HO_284002, HO_284003, HO_284006, BK283, HB⟩ := hrel
     cases gk with
     | zero => exact absurd HA.out (by simp [pinfoldlaw17_ClaimRenews.l0])
     | succ k2 =>
      have H := HA.out
      clear HA
      simp only [pinfoldlaw17_ClaimRenews.l0] at H
      have HC25 := am_ H
      clear H
      go_upto_region 11 with (fail)
      go_cut [49] (fun v49 wc => ∃ (kq : Nat) (x49_24 : Bool), v49 = .bool x49_24 ∧ Aside0 (pinfoldlaw17_ClaimRenews.j2 kq l0 l1 x6_2 y294 x11_2 x12_2 x13_2 x49_24 t270 t271 t272 t275 t278 t279 t280 = some r) ∧ Aside0 (kq ≤ k2) ∧ Aside0 (Kd.R k36 36 wc w.heap.size (fun _ => True) u6 x6_2) ∧ Aside0 (Kd.R Kd.string 9 wc w.heap.size (fun _ => True) v295 y294) ∧ Aside0 (Kd.R (Kd.int .i64) 3 wc w.heap.size (fun _ => True) (.slice Ao12 t272.length co12) t272) ∧ Aside0 (Kd.R k72 72 wc w.heap.size (fun _ => True) (.slice Ao13 t275.length co13) t275) ∧ Aside0 (Kd.R k74 74 wc w.heap.size (fun _ => True) (.slice Ao14 t280.length co14) t280) ∧ Aside0 (wc.heap[gb283]? = some (.cells #[.int .i64 t270, .int .i64 t271, (.slice Ao12 t272.length co12), (.slice Ao13 t275.length co13), .int .i64 t278, .string t279, (.slice Ao14 t280.length co14)] 26 (0, 0))) ∧ Aside0 (Below w.heap.size w wc))
      case first =>
       have H := HC25.out
       clear HC25
       by_cases c26 : x13_2 < (l0.length : Int)
       ·rw [if_pos c26] at H
        have c26b0 : decide (x13_2 < (l0.length : Int)) = true := decide_eq_true c26
        clear c26
        (first | rw [c26b0] | (simp only [i64_w, i32_w]; rw [c26b0]) | skip)
        have H' := am_ H
        clear H
        go_wp2
        go_meet
        case rel => exact ⟨_, (decide (x13_2 < 15)), (by first | rfl | (simp; done) | (simp [*]; done) | (simp only [str_ne_]; rfl) | (simp only [str_eq_]; rfl)), H', ⟨by have := HJ6.out; have := HK2.out; first | omega | exact Nat.le_refl _⟩, ⟨by (with_reducible repeat (first | apply r1_ | apply r2_ | apply r3_)); exact HO_6.out⟩, ⟨by (with_reducible repeat (first | apply r1_ | apply r2_ | apply r3_)); exact HO_10.out⟩, ⟨by (with_reducible repeat (first | apply r1_ | apply r2_ | apply r3_)); exact HO_284002.out⟩, ⟨by (with_reducible repeat (first | apply r1_ | apply r2_ | apply r3_)); exact HO_284003.out⟩, ⟨by (with_reducible repeat (first | apply r1_ | apply r2_ | apply r3_)); exact HO_284006.out⟩, ⟨by (with_reducible repeat (first | refine k2_ ?_ _ | refine k3_ ?_ | refine k1_ ?_ _)); exact BK283.out⟩, ⟨by repeat (with_reducible first | exact HB.out | apply p3_ | apply p1_ | apply p2_ | refine bs_ ?_ GE283.out)⟩⟩
       rw [if_neg c26] at H
       have c26b0 : decide (x13_2 < (l0.length : Int)) = false := decide_eq_false c26
       clear c26
       (first | rw [c26b0] | (simp only [i64_w, i32_w]; rw [c26b0]) | skip)
       have H' := am_ H
       clear H
       go_wp2
       go_meet
       case rel => exact ⟨_, (false), (by first | rfl | (simp; done) | (simp [*]; done) | (simp only [str_ne_]; rfl) | (simp only [str_eq_]; rfl)), H', ⟨by have := HJ6.out; have := HK2.out; first | omega | exact Nat.le_refl _⟩, ⟨by (with_reducible repeat (first | apply r1_ | apply r2_ | apply r3_)); exact HO_6.out⟩, ⟨by (with_reducible repeat (first | apply r1_ | apply r2_ | apply r3_)); exact HO_10.out⟩, ⟨by (with_reducible repeat (first | apply r1_ | apply r2_ | apply r3_)); exact HO_284002.out⟩, ⟨by (with_reducible repeat (first | apply r1_ | apply r2_ | apply r3_)); exact HO_284003.out⟩, ⟨by (with_reducible repeat (first | apply r1_ | apply r2_ | apply r3_)); exact HO_284006.out⟩, ⟨by (with_reducible repeat (first | refine k2_ ?_ _ | refine k3_ ?_ | refine k1_ ?_ _)); exact BK283.out⟩, ⟨by repeat (with_reducible first | exact HB.out | apply p3_ | apply p1_ | apply p2_ | refine bs_ ?_ GE283.out)⟩⟩
      case rest =>
       clear HC25
       (try clear c1); (try clear c4); (try clear c6); (try clear c22); (try clear hcz11_0); (try clear hcz11_1); (try clear hcz11_2); (try clear hcz11_3); (try clear hcz11_4); (try clear hcz11_5); (try clear hcz11_6); (try clear hcz17_0); (try clear hcz17_1); (try clear hcz17_2); (try clear hcz17_3); (try clear hcz17_4); (try clear hcz17_5); (try clear hcz17_6); (try clear hfz11_0); (try clear hfz11_1); (try clear hfz11_2); (try clear hfz11_3); (try clear hfz11_4); (try clear hfz11_5); (try clear hfz11_6); (try clear hfz17_0); (try clear hfz17_1); (try clear hfz17_2); (try clear hfz17_3); (try clear hfz17_4); (try clear hfz17_5); (try clear hfz17_6)
       obtain ⟨kq, x49_24, rfl, HA, HJ24, HO_6, HO_10, HO_284002, HO_284003, HO_284006, BK283, HB⟩ := hcut
       cases kq with
       | zero => exact absurd HA.out (by simp [pinfoldlaw17_ClaimRenews.j2])
       | succ kj24 =>
        have H := HA.out
        clear HA
        simp only [pinfoldlaw17_ClaimRenews.j2] at H
        by_cases c27 : x49_24 = true
        ·subst c27
         have H1 : (if 0 ≤ x13_2 then (if x13_2 < (l0.length : Int) then (if x13_2 < (l1.length : Int) then (if 0 ≤ (wrap64 (Int.tmod (IntKind.u64.wrap (rd l1 x13_2)) 5)) then (if (wrap64 (Int.tmod (IntKind.u64.wrap (rd l1 x13_2)) 5)) < (y294.length : Int) then (pinfoldlaw17_ClaimRenews.j3 kj24 l0 l1 x6_2 y294 (wrap64 (x11_2 + (Go.bits .and .i64 (rd l0 x13_2) 63))) x12_2 x13_2 t270 t271 t272 t275 t278 t279 t280 false 0 0 10 (rdOf ByteArray.empty y294 (wrap64 (Int.tmod (IntKind.u64.wrap (rd l1 x13_2)) 5)))) else (none)) else (none)) else (pinfoldlaw17_ClaimRenews.j3 kj24 l0 l1 x6_2 y294 (wrap64 (x11_2 + (Go.bits .and .i64 (rd l0 x13_2) 63))) x12_2 x13_2 t270 t271 t272 t275 t278 t279 t280 false 0 0 10 (⟨#[]⟩ : ByteArray))) else (none)) else (none)) = some r := by rw [if_pos rfl] at H; exact H
         clear H
         have H := H1
         clear H1
         by_cases c28 : 0 ≤ x13_2
         rotate_left
         ·rw [if_neg c28] at H
          exact absurd H (by simp)
         rw [if_pos c28] at H
         have c28b0 : decide (0 ≤ x13_2) = true := decide_eq_true c28
         clear c28
         by_cases c29 : x13_2 < (l0.length : Int)
         rotate_left
         ·rw [if_neg c29] at H
          exact absurd H (by simp)
         rw [if_pos c29] at H
         have c29b0 : decide (x13_2 < (l0.length : Int)) = true := decide_eq_true c29
         clear c29
         have HC30 := am_ H
         clear H
         have p297 : 0 ≤ (x13_2 : Int) := of_decide_eq_true (by first | (with_reducible assumption) | assumption)
         have q297 : x13_2 < (l0.length : Int) := of_decide_eq_true (by first | (with_reducible assumption) | assumption)
         obtain ⟨ad297, e297, hx297_0⟩ := Kd.at_int HR0.out x13_2 p297 q297
         cases e297
         replace hx297_0 := (HB.out.cell (wb_ w _ hx297_0)).trans hx297_0
         replace p297 := eq_true p297
         replace q297 := eq_true q297
         go_upto_if 63 with (first | ((with_reducible refine gate_dst (N := 14) rfl ?_); (try (refine gate_guard (by rfl) ?_; dsimp only)); refine box_event ?hg (N := 14) ?hd (cs := #[.bool false, .int .i64 0, .int .i64 0, .int .i64 0, .string (⟨#[]⟩ : ByteArray)]) (t := 29) ?hr ?_; (case hd => rfl); (case hg => rfl); (case hr => first | (go_simp; done) | (go_simp; rfl)); intro gb298 hg w31 hbox hb; have n0_ := am_ (Kd.R_below (by (with_reducible repeat (first | apply r1_ | apply r2_ | apply r3_)); exact HO_6.out) hb); have n1_ := am_ (Kd.R_below (by (with_reducible repeat (first | apply r1_ | apply r2_ | apply r3_)); exact HO_10.out) hb); have n2_ := am_ (Kd.R_below (by (with_reducible repeat (first | apply r1_ | apply r2_ | apply r3_)); exact HO_284002.out) hb); have n3_ := am_ (Kd.R_below (by (with_reducible repeat (first | apply r1_ | apply r2_ | apply r3_)); exact HO_284003.out) hb); have n4_ := am_ (Kd.R_below (by (with_reducible repeat (first | apply r1_ | apply r2_ | apply r3_)); exact HO_284006.out) hb); have n5_ := am_ (kb_ (g := gb283) (o := .cells #[.int .i64 t270, .int .i64 t271, .slice Ao12 t272.length co12, .slice Ao13 t275.length co13, .int .i64 t278, .string t279, .slice Ao14 t280.length co14] 26 (0, 0)) (by (with_reducible repeat (first | refine k2_ ?_ _ | refine k3_ ?_ | refine k1_ ?_ _)); exact BK283.out) hb); have n6_ := am_ (bt_ (by repeat (with_reducible first | exact HB.out | apply p3_ | apply p1_ | apply p2_ | refine bs_ ?_ GE283.out)) hb); have n7_ := am_ (hbox); have n8_ := am_ ((by rw [hg]; exact (bz_ (by repeat (with_reducible first | exact HB.out | apply p3_ | apply p1_ | apply p2_ | refine bs_ ?_ GE283.out))) : w.heap.size ≤ gb298)); have n9_ := am_ ((by rw [hg]; exact (bz_ (by repeat (with_reducible first | exact HB.out | apply p3_ | apply p1_ | apply p2_ | refine bs_ ?_ GE283.out))) : w.heap.size ≤ gb298)); have n10_ := am_ ((by rw [hg]; exact Nat.ne_of_lt (blk_lt (g := gb283) (o := .cells #[.int .i64 t270, .int .i64 t271, .slice Ao12 t272.length co12, .slice Ao13 t275.length co13, .int .i64 t278, .string t279, .slice Ao14 t280.length co14] 26 (0, 0)) (by (with_reducible repeat (first | refine k2_ ?_ _ | refine k3_ ?_ | refine k1_ ?_ _)); exact BK283.out)) : gb283 ≠ gb298)); have n11_ := am_ ((by rw [hg]; exact Nat.ne_of_gt (blk_lt (g := gb283) (o := .cells #[.int .i64 t270, .int .i64 t271, .slice Ao12 t272.length co12, .slice Ao13 t275.length co13, .int .i64 t278, .string t279, .slice Ao14 t280.length co14] 26 (0, 0)) (by (with_reducible repeat (first | refine k2_ ?_ _ | refine k3_ ?_ | refine k1_ ?_ _)); exact BK283.out)) : gb298 ≠ gb283)); clear HO_6; clear HO_10; clear HO_284002; clear HO_284003; clear HO_284006; clear BK283; clear HB; have HO_6 := n0_; have HO_10 := n1_; have HO_284002 := n2_; have HO_284003 := n3_; have HO_284006 := n4_; have BK283 := n5_; have HB := n6_; have BK298 := n7_; have GW298 := n8_; have GE298 := n9_; have NB283_298 := n10_; have NB298_283 := n11_; clear n0_ n1_ n2_ n3_ n4_ n5_ n6_ n7_ n8_ n9_ n10_ n11_; clear hb hbox hg; have hnb32 := NB298_283.out; have hnc32 := NB283_298.out; have hcz33_0 : w31.cell? ⟨gb298, 0, none⟩ = some (.bool false) := (bc_ BK298.out 0).trans rfl; have hcz33_1 : w31.cell? ⟨gb298, 1, none⟩ = some (.int .i64 0) := (bc_ BK298.out 1).trans rfl; have hcz33_2 : w31.cell? ⟨gb298, 2, none⟩ = some (.int .i64 0) := (bc_ BK298.out 2).trans rfl; have hcz33_3 : w31.cell? ⟨gb298, 3, none⟩ = some (.int .i64 0) := (bc_ BK298.out 3).trans rfl; have hcz33_4 : w31.cell? ⟨gb298, 4, none⟩ = some (.string (⟨#[]⟩ : ByteArray)) := (bc_ BK298.out 4).trans rfl; have hfz33_0 := bf_ BK298.out 0; have hfz33_1 := bf_ BK298.out 1; have hfz33_2 := bf_ BK298.out 2; have hfz33_3 := bf_ BK298.out 3; have hfz33_4 := bf_ BK298.out 4))
         (try simp only [Act.put, sa_, sb_, sc_])
         go_cut [] (fun wc => ∃ (kq : Nat) (x299004_29 : ByteArray), Aside0 (pinfoldlaw17_ClaimRenews.j3 kq l0 l1 x6_2 y294 (wrap64 (x11_2 + (Go.bits .and .i64 (rd l0 x13_2) 63))) x12_2 x13_2 t270 t271 t272 t275 t278 t279 t280 false 0 0 10 x299004_29 = some r) ∧ Aside0 (kq ≤ kj24) ∧ Aside0 (Kd.R k36 36 wc w.heap.size (fun _ => True) u6 x6_2) ∧ Aside0 (Kd.R Kd.string 9 wc w.heap.size (fun _ => True) v295 y294) ∧ Aside0 (Kd.R (Kd.int .i64) 3 wc w.heap.size (fun _ => True) (.slice Ao12 t272.length co12) t272) ∧ Aside0 (Kd.R k72 72 wc w.heap.size (fun _ => True) (.slice Ao13 t275.length co13) t275) ∧ Aside0 (Kd.R k74 74 wc w.heap.size (fun _ => True) (.slice Ao14 t280.length co14) t280) ∧ Aside0 (wc.heap[gb283]? = some (.cells #[.int .i64 t270, .int .i64 t271, (.slice Ao12 t272.length co12), (.slice Ao13 t275.length co13), .int .i64 t278, .string t279, (.slice Ao14 t280.length co14)] 26 (0, 0))) ∧ Aside0 (wc.heap[gb298]? = some (.cells #[.bool false, .int .i64 0, .int .i64 0, .int .i64 10, .string x299004_29] 29 (0, 0))) ∧ Aside0 (Below w.heap.size w wc))
         case first =>
          have H := HC30.out
          clear HC30
          by_cases c34 : x13_2 < (l1.length : Int)
          ·rw [if_pos c34] at H
           have c34b0 : decide (x13_2 < (l1.length : Int)) = true := decide_eq_true c34
           clear c34
           (first | rw [c34b0] | (simp only [i64_w, i32_w]; rw [c34b0]) | skip)
           obtain ⟨ji35, hji35⟩ : ∃ j_ : Int, (wrap64 (Int.tmod (IntKind.u64.wrap (rd l1 x13_2)) 5)) = j_ := ⟨_, rfl⟩
           replace H : (if 0 ≤ (ji35) then (if (ji35) < (y294.length : Int) then (pinfoldlaw17_ClaimRenews.j3 kj24 l0 l1 x6_2 y294 (wrap64 (x11_2 + (Go.bits .and .i64 (rd l0 x13_2) 63))) x12_2 x13_2 t270 t271 t272 t275 t278 t279 t280 false 0 0 10 (rdOf ByteArray.empty y294 (ji35))) else (none)) else (none)) = some r := by first | (rw [hji35] at H; exact H) | (simp only [hji35] at H ⊢; exact H)
           have hji35w : (IntKind.i64.wrap (Int.tmod (IntKind.u64.wrap (rd l1 x13_2)) 5)) = ji35 := (i64_w _).trans hji35
           by_cases c36 : 0 ≤ (ji35)
           rotate_left
           ·rw [if_neg c36] at H
            exact absurd H (by simp)
           rw [if_pos c36] at H
           have c36b0 : decide (0 ≤ (ji35)) = true := decide_eq_true c36
           clear c36
           by_cases c37 : (ji35) < (y294.length : Int)
           rotate_left
           ·rw [if_neg c37] at H
            exact absurd H (by simp)
           rw [if_pos c37] at H
           have c37b0 : decide ((ji35) < (y294.length : Int)) = true := decide_eq_true c37
           clear c37
           have H' := am_ H
           clear H
           have p299 : 0 ≤ (x13_2 : Int) := of_decide_eq_true (by first | (with_reducible assumption) | assumption)
           have q299 : x13_2 < (l1.length : Int) := of_decide_eq_true (by first | (with_reducible assumption) | assumption)
           obtain ⟨ad299, e299, hx299_0⟩ := Kd.at_int HR1.out x13_2 p299 q299
           cases e299
           have hn299_0 : ad299.block ≠ gb298 := Nat.ne_of_lt (Nat.lt_of_lt_of_le (by have := wb_ _ _ hx299_0; first | rwa [add_block] at this | exact this) GW298.out)
           have hn299_1 : ad299.block ≠ gb298 := Nat.ne_of_lt (Nat.lt_of_lt_of_le (by have := wb_ _ _ hx299_0; first | rwa [add_block] at this | exact this) GW298.out)
           have hn299_2 : ad299.block ≠ gb298 := Nat.ne_of_lt (Nat.lt_of_lt_of_le (by have := wb_ _ _ hx299_0; first | rwa [add_block] at this | exact this) GW298.out)
           have hn299_3 : ad299.block ≠ gb298 := Nat.ne_of_lt (Nat.lt_of_lt_of_le (by have := wb_ _ _ hx299_0; first | rwa [add_block] at this | exact this) GW298.out)
           have hn299_4 : ad299.block ≠ gb298 := Nat.ne_of_lt (Nat.lt_of_lt_of_le (by have := wb_ _ _ hx299_0; first | rwa [add_block] at this | exact this) GW298.out)
           replace hx299_0 := (HB.out.cell (wb_ w _ hx299_0)).trans hx299_0
           replace hx299_0 := (cell_far (p := ⟨gb298, 0, none⟩) (by first | (rw [add_block]; exact hn299_0) | (show (Addr.add _ _).block ≠ _; rw [add_block]; exact hn299_0) | exact hn299_0) (.bool false)).trans hx299_0
           replace hx299_0 := (cell_far (p := ⟨gb298, 1, none⟩) (by first | (rw [add_block]; exact hn299_1) | (show (Addr.add _ _).block ≠ _; rw [add_block]; exact hn299_1) | exact hn299_1) (.int .i64 0)).trans hx299_0
           replace hx299_0 := (cell_far (p := ⟨gb298, 2, none⟩) (by first | (rw [add_block]; exact hn299_2) | (show (Addr.add _ _).block ≠ _; rw [add_block]; exact hn299_2) | exact hn299_2) (.int .i64 0)).trans hx299_0
           replace hx299_0 := (cell_far (p := ⟨gb298, 3, none⟩) (by first | (rw [add_block]; exact hn299_3) | (show (Addr.add _ _).block ≠ _; rw [add_block]; exact hn299_3) | exact hn299_3) (.int .i64 10)).trans hx299_0
           replace hx299_0 := (cell_far (p := ⟨gb298, 4, none⟩) (by first | (rw [add_block]; exact hn299_4) | (show (Addr.add _ _).block ≠ _; rw [add_block]; exact hn299_4) | exact hn299_4) (.string (⟨#[]⟩ : ByteArray))).trans hx299_0
           clear hn299_0
           clear hn299_1
           clear hn299_2
           clear hn299_3
           clear hn299_4
           replace p299 := eq_true p299
           replace q299 := eq_true q299
           obtain ⟨Ao38, co38, eo38⟩ := Kd.R_slice HO_10.out
           subst eo38
           have p300 : 0 ≤ ((ji35) : Int) := of_decide_eq_true (by first | (with_reducible assumption) | assumption)
           have q300 : (ji35) < (y294.length : Int) := of_decide_eq_true (by first | (with_reducible assumption) | assumption)
           obtain ⟨ad300, e300, hx300_0⟩ := Kd.at_string (Kd.R_reads' HO_10.out).2.2 (ji35) p300 q300
           cases e300
           have hn300_0 : ad300.block ≠ gb298 := Kd.own_blk (Kd.R_ne HO_10.out BK298.out (by decide))
           have hn300_1 : ad300.block ≠ gb298 := Kd.own_blk (Kd.R_ne HO_10.out BK298.out (by decide))
           have hn300_2 : ad300.block ≠ gb298 := Kd.own_blk (Kd.R_ne HO_10.out BK298.out (by decide))
           have hn300_3 : ad300.block ≠ gb298 := Kd.own_blk (Kd.R_ne HO_10.out BK298.out (by decide))
           have hn300_4 : ad300.block ≠ gb298 := Kd.own_blk (Kd.R_ne HO_10.out BK298.out (by decide))
           replace hx300_0 := (cell_far (p := ⟨gb298, 0, none⟩) (by first | (rw [add_block]; exact hn300_0) | (show (Addr.add _ _).block ≠ _; rw [add_block]; exact hn300_0) | exact hn300_0) (.bool false)).trans hx300_0
           replace hx300_0 := (cell_far (p := ⟨gb298, 1, none⟩) (by first | (rw [add_block]; exact hn300_1) | (show (Addr.add _ _).block ≠ _; rw [add_block]; exact hn300_1) | exact hn300_1) (.int .i64 0)).trans hx300_0
           replace hx300_0 := (cell_far (p := ⟨gb298, 2, none⟩) (by first | (rw [add_block]; exact hn300_2) | (show (Addr.add _ _).block ≠ _; rw [add_block]; exact hn300_2) | exact hn300_2) (.int .i64 0)).trans hx300_0
           replace hx300_0 := (cell_far (p := ⟨gb298, 3, none⟩) (by first | (rw [add_block]; exact hn300_3) | (show (Addr.add _ _).block ≠ _; rw [add_block]; exact hn300_3) | exact hn300_3) (.int .i64 10)).trans hx300_0
           replace hx300_0 := (cell_far (p := ⟨gb298, 4, none⟩) (by first | (rw [add_block]; exact hn300_4) | (show (Addr.add _ _).block ≠ _; rw [add_block]; exact hn300_4) | exact hn300_4) (.string (⟨#[]⟩ : ByteArray))).trans hx300_0
           clear hn300_0
           clear hn300_1
           clear hn300_2
           clear hn300_3
           clear hn300_4
           replace p300 := eq_true p300
           replace q300 := eq_true q300
           have hnb39 := NB298_283.out
           have hnc39 := NB283_298.out
           have hcz40_0 : w31.cell? ⟨gb298, 0, none⟩ = some (.bool false) := (bc_ BK298.out 0).trans rfl; have hcz40_1 : w31.cell? ⟨gb298, 1, none⟩ = some (.int .i64 0) := (bc_ BK298.out 1).trans rfl; have hcz40_2 : w31.cell? ⟨gb298, 2, none⟩ = some (.int .i64 0) := (bc_ BK298.out 2).trans rfl; have hcz40_3 : w31.cell? ⟨gb298, 3, none⟩ = some (.int .i64 0) := (bc_ BK298.out 3).trans rfl; have hcz40_4 : w31.cell? ⟨gb298, 4, none⟩ = some (.string (⟨#[]⟩ : ByteArray)) := (bc_ BK298.out 4).trans rfl; have hfz40_0 := bf_ BK298.out 0; have hfz40_1 := bf_ BK298.out 1; have hfz40_2 := bf_ BK298.out 2; have hfz40_3 := bf_ BK298.out 3; have hfz40_4 := bf_ BK298.out 4
           go_wp2
           go_meet
           case rel => exact ⟨_, (rdOf ByteArray.empty y294 (ji35)), H', ⟨by have := HJ6.out; have := HK2.out; have := HJ24.out; first | omega | exact Nat.le_refl _⟩, ⟨by (with_reducible repeat (first | apply r1_ | apply r2_ | apply r3_)); exact Kd.R_mono (Kd.R_far (p := ⟨gb298, 4, none⟩) (Kd.R_far (p := ⟨gb298, 4, none⟩) (Kd.R_far (p := ⟨gb298, 3, none⟩) (Kd.R_far (p := ⟨gb298, 2, none⟩) (Kd.R_far (p := ⟨gb298, 1, none⟩) (Kd.R_far (p := ⟨gb298, 0, none⟩) (Kd.R_types HO_6.out BK298.out (by decide)) (fun _ hk => hk.2) (.bool false)) (fun _ hk => hk.2) (.int .i64 0)) (fun _ hk => hk.2) (.int .i64 0)) (fun _ hk => hk.2) (.int .i64 10)) (fun _ hk => hk.2) (.string (⟨#[]⟩ : ByteArray))) (fun _ hk => hk.2) (.string (rdOf ByteArray.empty y294 (ji35)))) (fun _ hk => trivial)⟩, ⟨by (with_reducible repeat (first | apply r1_ | apply r2_ | apply r3_)); exact Kd.R_mono (Kd.R_far (p := ⟨gb298, 4, none⟩) (Kd.R_far (p := ⟨gb298, 4, none⟩) (Kd.R_far (p := ⟨gb298, 3, none⟩) (Kd.R_far (p := ⟨gb298, 2, none⟩) (Kd.R_far (p := ⟨gb298, 1, none⟩) (Kd.R_far (p := ⟨gb298, 0, none⟩) (Kd.R_types HO_10.out BK298.out (by decide)) (fun _ hk => hk.2) (.bool false)) (fun _ hk => hk.2) (.int .i64 0)) (fun _ hk => hk.2) (.int .i64 0)) (fun _ hk => hk.2) (.int .i64 10)) (fun _ hk => hk.2) (.string (⟨#[]⟩ : ByteArray))) (fun _ hk => hk.2) (.string (rdOf ByteArray.empty y294 (ji35)))) (fun _ hk => trivial)⟩, ⟨by (with_reducible repeat (first | apply r1_ | apply r2_ | apply r3_)); exact Kd.R_mono (Kd.R_far (p := ⟨gb298, 4, none⟩) (Kd.R_far (p := ⟨gb298, 4, none⟩) (Kd.R_far (p := ⟨gb298, 3, none⟩) (Kd.R_far (p := ⟨gb298, 2, none⟩) (Kd.R_far (p := ⟨gb298, 1, none⟩) (Kd.R_far (p := ⟨gb298, 0, none⟩) (Kd.R_types HO_284002.out BK298.out (by decide)) (fun _ hk => hk.2) (.bool false)) (fun _ hk => hk.2) (.int .i64 0)) (fun _ hk => hk.2) (.int .i64 0)) (fun _ hk => hk.2) (.int .i64 10)) (fun _ hk => hk.2) (.string (⟨#[]⟩ : ByteArray))) (fun _ hk => hk.2) (.string (rdOf ByteArray.empty y294 (ji35)))) (fun _ hk => trivial)⟩, ⟨by (with_reducible repeat (first | apply r1_ | apply r2_ | apply r3_)); exact Kd.R_mono (Kd.R_far (p := ⟨gb298, 4, none⟩) (Kd.R_far (p := ⟨gb298, 4, none⟩) (Kd.R_far (p := ⟨gb298, 3, none⟩) (Kd.R_far (p := ⟨gb298, 2, none⟩) (Kd.R_far (p := ⟨gb298, 1, none⟩) (Kd.R_far (p := ⟨gb298, 0, none⟩) (Kd.R_types HO_284003.out BK298.out (by decide)) (fun _ hk => hk.2) (.bool false)) (fun _ hk => hk.2) (.int .i64 0)) (fun _ hk => hk.2) (.int .i64 0)) (fun _ hk => hk.2) (.int .i64 10)) (fun _ hk => hk.2) (.string (⟨#[]⟩ : ByteArray))) (fun _ hk => hk.2) (.string (rdOf ByteArray.empty y294 (ji35)))) (fun _ hk => trivial)⟩, ⟨by (with_reducible repeat (first | apply r1_ | apply r2_ | apply r3_)); exact Kd.R_mono (Kd.R_far (p := ⟨gb298, 4, none⟩) (Kd.R_far (p := ⟨gb298, 4, none⟩) (Kd.R_far (p := ⟨gb298, 3, none⟩) (Kd.R_far (p := ⟨gb298, 2, none⟩) (Kd.R_far (p := ⟨gb298, 1, none⟩) (Kd.R_far (p := ⟨gb298, 0, none⟩) (Kd.R_types HO_284006.out BK298.out (by decide)) (fun _ hk => hk.2) (.bool false)) (fun _ hk => hk.2) (.int .i64 0)) (fun _ hk => hk.2) (.int .i64 0)) (fun _ hk => hk.2) (.int .i64 10)) (fun _ hk => hk.2) (.string (⟨#[]⟩ : ByteArray))) (fun _ hk => hk.2) (.string (rdOf ByteArray.empty y294 (ji35)))) (fun _ hk => trivial)⟩, ⟨by (with_reducible repeat (first | refine k2_ ?_ _ | refine k3_ ?_ | refine k1_ ?_ _)); refine blk_far ?_ NB283_298.out _; (with_reducible repeat (first | refine k2_ ?_ _ | refine k3_ ?_ | refine k1_ ?_ _)); refine blk_far ?_ NB283_298.out _; (with_reducible repeat (first | refine k2_ ?_ _ | refine k3_ ?_ | refine k1_ ?_ _)); refine blk_far ?_ NB283_298.out _; (with_reducible repeat (first | refine k2_ ?_ _ | refine k3_ ?_ | refine k1_ ?_ _)); refine blk_far ?_ NB283_298.out _; (with_reducible repeat (first | refine k2_ ?_ _ | refine k3_ ?_ | refine k1_ ?_ _)); refine blk_far ?_ NB283_298.out _; (with_reducible repeat (first | refine k2_ ?_ _ | refine k3_ ?_ | refine k1_ ?_ _)); refine blk_far ?_ NB283_298.out _; (with_reducible repeat (first | refine k2_ ?_ _ | refine k3_ ?_ | refine k1_ ?_ _)); exact BK283.out⟩, ⟨by (with_reducible repeat (first | refine k2_ ?_ _ | refine k3_ ?_ | refine k1_ ?_ _)); refine blk_put (cs := #[.bool false, .int .i64 0, .int .i64 0, .int .i64 10, .string (⟨#[]⟩ : ByteArray)]) ?_ 4 _ rfl; (with_reducible repeat (first | refine k2_ ?_ _ | refine k3_ ?_ | refine k1_ ?_ _)); refine blk_put (cs := #[.bool false, .int .i64 0, .int .i64 0, .int .i64 10, .string (⟨#[]⟩ : ByteArray)]) ?_ 4 _ rfl; (with_reducible repeat (first | refine k2_ ?_ _ | refine k3_ ?_ | refine k1_ ?_ _)); refine blk_put (cs := #[.bool false, .int .i64 0, .int .i64 0, .int .i64 0, .string (⟨#[]⟩ : ByteArray)]) ?_ 3 _ rfl; (with_reducible repeat (first | refine k2_ ?_ _ | refine k3_ ?_ | refine k1_ ?_ _)); refine blk_put (cs := #[.bool false, .int .i64 0, .int .i64 0, .int .i64 0, .string (⟨#[]⟩ : ByteArray)]) ?_ 2 _ rfl; (with_reducible repeat (first | refine k2_ ?_ _ | refine k3_ ?_ | refine k1_ ?_ _)); refine blk_put (cs := #[.bool false, .int .i64 0, .int .i64 0, .int .i64 0, .string (⟨#[]⟩ : ByteArray)]) ?_ 1 _ rfl; (with_reducible repeat (first | refine k2_ ?_ _ | refine k3_ ?_ | refine k1_ ?_ _)); refine blk_put (cs := #[.bool false, .int .i64 0, .int .i64 0, .int .i64 0, .string (⟨#[]⟩ : ByteArray)]) ?_ 0 _ rfl; (with_reducible repeat (first | refine k2_ ?_ _ | refine k3_ ?_ | refine k1_ ?_ _)); exact BK298.out⟩, ⟨by repeat (with_reducible first | exact HB.out | apply p3_ | apply p1_ | apply p2_ | refine bs_ ?_ GE283.out | refine bs_ ?_ GE298.out)⟩⟩
          rw [if_neg c34] at H
          have c34b0 : decide (x13_2 < (l1.length : Int)) = false := decide_eq_false c34
          clear c34
          (first | rw [c34b0] | (simp only [i64_w, i32_w]; rw [c34b0]) | skip)
          have H' := am_ H
          clear H
          go_wp2
          go_meet
          case rel => exact ⟨_, ((⟨#[]⟩ : ByteArray)), H', ⟨by have := HJ6.out; have := HK2.out; have := HJ24.out; first | omega | exact Nat.le_refl _⟩, ⟨by (with_reducible repeat (first | apply r1_ | apply r2_ | apply r3_)); exact Kd.R_mono (Kd.R_far (p := ⟨gb298, 4, none⟩) (Kd.R_far (p := ⟨gb298, 3, none⟩) (Kd.R_far (p := ⟨gb298, 2, none⟩) (Kd.R_far (p := ⟨gb298, 1, none⟩) (Kd.R_far (p := ⟨gb298, 0, none⟩) (Kd.R_types HO_6.out BK298.out (by decide)) (fun _ hk => hk.2) (.bool false)) (fun _ hk => hk.2) (.int .i64 0)) (fun _ hk => hk.2) (.int .i64 0)) (fun _ hk => hk.2) (.int .i64 10)) (fun _ hk => hk.2) (.string (⟨#[]⟩ : ByteArray))) (fun _ hk => trivial)⟩, ⟨by (with_reducible repeat (first | apply r1_ | apply r2_ | apply r3_)); exact Kd.R_mono (Kd.R_far (p := ⟨gb298, 4, none⟩) (Kd.R_far (p := ⟨gb298, 3, none⟩) (Kd.R_far (p := ⟨gb298, 2, none⟩) (Kd.R_far (p := ⟨gb298, 1, none⟩) (Kd.R_far (p := ⟨gb298, 0, none⟩) (Kd.R_types HO_10.out BK298.out (by decide)) (fun _ hk => hk.2) (.bool false)) (fun _ hk => hk.2) (.int .i64 0)) (fun _ hk => hk.2) (.int .i64 0)) (fun _ hk => hk.2) (.int .i64 10)) (fun _ hk => hk.2) (.string (⟨#[]⟩ : ByteArray))) (fun _ hk => trivial)⟩, ⟨by (with_reducible repeat (first | apply r1_ | apply r2_ | apply r3_)); exact Kd.R_mono (Kd.R_far (p := ⟨gb298, 4, none⟩) (Kd.R_far (p := ⟨gb298, 3, none⟩) (Kd.R_far (p := ⟨gb298, 2, none⟩) (Kd.R_far (p := ⟨gb298, 1, none⟩) (Kd.R_far (p := ⟨gb298, 0, none⟩) (Kd.R_types HO_284002.out BK298.out (by decide)) (fun _ hk => hk.2) (.bool false)) (fun _ hk => hk.2) (.int .i64 0)) (fun _ hk => hk.2) (.int .i64 0)) (fun _ hk => hk.2) (.int .i64 10)) (fun _ hk => hk.2) (.string (⟨#[]⟩ : ByteArray))) (fun _ hk => trivial)⟩, ⟨by (with_reducible repeat (first | apply r1_ | apply r2_ | apply r3_)); exact Kd.R_mono (Kd.R_far (p := ⟨gb298, 4, none⟩) (Kd.R_far (p := ⟨gb298, 3, none⟩) (Kd.R_far (p := ⟨gb298, 2, none⟩) (Kd.R_far (p := ⟨gb298, 1, none⟩) (Kd.R_far (p := ⟨gb298, 0, none⟩) (Kd.R_types HO_284003.out BK298.out (by decide)) (fun _ hk => hk.2) (.bool false)) (fun _ hk => hk.2) (.int .i64 0)) (fun _ hk => hk.2) (.int .i64 0)) (fun _ hk => hk.2) (.int .i64 10)) (fun _ hk => hk.2) (.string (⟨#[]⟩ : ByteArray))) (fun _ hk => trivial)⟩, ⟨by (with_reducible repeat (first | apply r1_ | apply r2_ | apply r3_)); exact Kd.R_mono (Kd.R_far (p := ⟨gb298, 4, none⟩) (Kd.R_far (p := ⟨gb298, 3, none⟩) (Kd.R_far (p := ⟨gb298, 2, none⟩) (Kd.R_far (p := ⟨gb298, 1, none⟩) (Kd.R_far (p := ⟨gb298, 0, none⟩) (Kd.R_types HO_284006.out BK298.out (by decide)) (fun _ hk => hk.2) (.bool false)) (fun _ hk => hk.2) (.int .i64 0)) (fun _ hk => hk.2) (.int .i64 0)) (fun _ hk => hk.2) (.int .i64 10)) (fun _ hk => hk.2) (.string (⟨#[]⟩ : ByteArray))) (fun _ hk => trivial)⟩, ⟨by (with_reducible repeat (first | refine k2_ ?_ _ | refine k3_ ?_ | refine k1_ ?_ _)); refine blk_far ?_ NB283_298.out _; (with_reducible repeat (first | refine k2_ ?_ _ | refine k3_ ?_ | refine k1_ ?_ _)); refine blk_far ?_ NB283_298.out _; (with_reducible repeat (first | refine k2_ ?_ _ | refine k3_ ?_ | refine k1_ ?_ _)); refine blk_far ?_ NB283_298.out _; (with_reducible repeat (first | refine k2_ ?_ _ | refine k3_ ?_ | refine k1_ ?_ _)); refine blk_far ?_ NB283_298.out _; (with_reducible repeat (first | refine k2_ ?_ _ | refine k3_ ?_ | refine k1_ ?_ _)); refine blk_far ?_ NB283_298.out _; (with_reducible repeat (first | refine k2_ ?_ _ | refine k3_ ?_ | refine k1_ ?_ _)); exact BK283.out⟩, ⟨by (with_reducible repeat (first | refine k2_ ?_ _ | refine k3_ ?_ | refine k1_ ?_ _)); refine blk_put (cs := #[.bool false, .int .i64 0, .int .i64 0, .int .i64 10, .string (⟨#[]⟩ : ByteArray)]) ?_ 4 _ rfl; (with_reducible repeat (first | refine k2_ ?_ _ | refine k3_ ?_ | refine k1_ ?_ _)); refine blk_put (cs := #[.bool false, .int .i64 0, .int .i64 0, .int .i64 0, .string (⟨#[]⟩ : ByteArray)]) ?_ 3 _ rfl; (with_reducible repeat (first | refine k2_ ?_ _ | refine k3_ ?_ | refine k1_ ?_ _)); refine blk_put (cs := #[.bool false, .int .i64 0, .int .i64 0, .int .i64 0, .string (⟨#[]⟩ : ByteArray)]) ?_ 2 _ rfl; (with_reducible repeat (first | refine k2_ ?_ _ | refine k3_ ?_ | refine k1_ ?_ _)); refine blk_put (cs := #[.bool false, .int .i64 0, .int .i64 0, .int .i64 0, .string (⟨#[]⟩ : ByteArray)]) ?_ 1 _ rfl; (with_reducible repeat (first | refine k2_ ?_ _ | refine k3_ ?_ | refine k1_ ?_ _)); refine blk_put (cs := #[.bool false, .int .i64 0, .int .i64 0, .int .i64 0, .string (⟨#[]⟩ : ByteArray)]) ?_ 0 _ rfl; (with_reducible repeat (first | refine k2_ ?_ _ | refine k3_ ?_ | refine k1_ ?_ _)); exact BK298.out⟩, ⟨by repeat (with_reducible first | exact HB.out | apply p3_ | apply p1_ | apply p2_ | refine bs_ ?_ GE283.out | refine bs_ ?_ GE298.out)⟩⟩
         case rest =>
          clear HC30
          (try clear c1); (try clear c4); (try clear c6); (try clear c22); (try clear c27); (try clear c28); (try clear c28b0); (try clear c29); (try clear c29b0); (try clear hcz11_0); (try clear hcz11_1); (try clear hcz11_2); (try clear hcz11_3); (try clear hcz11_4); (try clear hcz11_5); (try clear hcz11_6); (try clear hcz17_0); (try clear hcz17_1); (try clear hcz17_2); (try clear hcz17_3); (try clear hcz17_4); (try clear hcz17_5); (try clear hcz17_6); (try clear hcz33_0); (try clear hcz33_1); (try clear hcz33_2); (try clear hcz33_3); (try clear hcz33_4); (try clear hfz11_0); (try clear hfz11_1); (try clear hfz11_2); (try clear hfz11_3); (try clear hfz11_4); (try clear hfz11_5); (try clear hfz11_6); (try clear hfz17_0); (try clear hfz17_1); (try clear hfz17_2); (try clear hfz17_3); (try clear hfz17_4); (try clear hfz17_5); (try clear hfz17_6); (try clear hfz33_0); (try clear hfz33_1); (try clear hfz33_2); (try clear hfz33_3); (try clear hfz33_4); (try clear hx297_0); (try clear p297); (try clear q297)
          obtain ⟨kq, x299004_29, HA, HJ29, HO_6, HO_10, HO_284002, HO_284003, HO_284006, BK283, BK298, HB⟩ := hcut
          cases kq with
          | zero => exact absurd HA.out (by simp [pinfoldlaw17_ClaimRenews.j3])
          | succ kj29 =>
           have H := HA.out
           clear HA
           simp only [pinfoldlaw17_ClaimRenews.j3] at H
           have HC41 := am_ H
           clear H
           have hnb42 := NB298_283.out
           have hnc42 := NB283_298.out
           have hcz43_0 : wc.cell? ⟨gb298, 0, none⟩ = some (.bool false) := (bc_ BK298.out 0).trans rfl; have hcz43_1 : wc.cell? ⟨gb298, 1, none⟩ = some (.int .i64 0) := (bc_ BK298.out 1).trans rfl; have hcz43_2 : wc.cell? ⟨gb298, 2, none⟩ = some (.int .i64 0) := (bc_ BK298.out 2).trans rfl; have hcz43_3 : wc.cell? ⟨gb298, 3, none⟩ = some (.int .i64 10) := (bc_ BK298.out 3).trans rfl; have hcz43_4 : wc.cell? ⟨gb298, 4, none⟩ = some (.string x299004_29) := (bc_ BK298.out 4).trans rfl; have hfz43_0 := bf_ BK298.out 0; have hfz43_1 := bf_ BK298.out 1; have hfz43_2 := bf_ BK298.out 2; have hfz43_3 := bf_ BK298.out 3; have hfz43_4 := bf_ BK298.out 4
           go_upto_if 77 with (fail)
           go_cut [12] (fun v12 wc => ∃ (kq : Nat) (x12_40 : ByteArray), v12 = .string x12_40 ∧ Aside0 (pinfoldlaw17_ClaimRenews.j4 kq l0 l1 x6_2 y294 (wrap64 (x11_2 + (Go.bits .and .i64 (rd l0 x13_2) 63))) x12_40 x13_2 t270 t271 t272 t275 t278 t279 t280 false 0 0 10 x299004_29 = some r) ∧ Aside0 (kq ≤ kj29) ∧ Aside0 (Kd.R k36 36 wc w.heap.size (fun _ => True) u6 x6_2) ∧ Aside0 (Kd.R Kd.string 9 wc w.heap.size (fun _ => True) v295 y294) ∧ Aside0 (Kd.R (Kd.int .i64) 3 wc w.heap.size (fun _ => True) (.slice Ao12 t272.length co12) t272) ∧ Aside0 (Kd.R k72 72 wc w.heap.size (fun _ => True) (.slice Ao13 t275.length co13) t275) ∧ Aside0 (Kd.R k74 74 wc w.heap.size (fun _ => True) (.slice Ao14 t280.length co14) t280) ∧ Aside0 (wc.heap[gb283]? = some (.cells #[.int .i64 t270, .int .i64 t271, (.slice Ao12 t272.length co12), (.slice Ao13 t275.length co13), .int .i64 t278, .string t279, (.slice Ao14 t280.length co14)] 26 (0, 0))) ∧ Aside0 (wc.heap[gb298]? = some (.cells #[.bool false, .int .i64 0, .int .i64 0, .int .i64 10, .string x299004_29] 29 (0, 0))) ∧ Aside0 (Below w.heap.size w wc))
           case first =>
            have H := HC41.out
            clear HC41
            by_cases c44 : x299004_29.toList = ([] : List UInt8)
            ·rw [if_pos c44] at H
             have c44b0 : (x299004_29.toList == ([] : List UInt8)) = true := beq_iff_eq.mpr c44
             have c44b1 : (x299004_29.toList != ([] : List UInt8)) = false := e1_ c44
             have c44b9 : (x299004_29.toList).isEmpty = true := by rw [List.isEmpty_iff]; exact c44
             clear c44
             (first | rw [c44b0] | (simp only [i64_w, i32_w]; rw [c44b0]) | skip)
             have H' := am_ H
             clear H
             go_wp2
             (try any_goals (exact absurd ‹x299004_29.toList.isEmpty = false› (by rw [c44b9]; decide))); (try any_goals (exact absurd ‹x299004_29.toList.isEmpty = true› (by rw [c44b9]; decide)))
             (try any_goals (exact absurd ‹(!x299004_29.toList.isEmpty) = true› (by rw [c44b9]; decide))); (try any_goals (exact absurd ‹(!x299004_29.toList.isEmpty) = false› (by rw [c44b9]; decide)))
             go_meet
             case rel => exact ⟨_, (x12_2), (by first | rfl | (simp; done) | (simp [*]; done) | (simp only [str_ne_]; rfl) | (simp only [str_eq_]; rfl)), H', ⟨by have := HJ6.out; have := HK2.out; have := HJ24.out; have := HJ29.out; first | omega | exact Nat.le_refl _⟩, ⟨by (with_reducible repeat (first | apply r1_ | apply r2_ | apply r3_)); exact HO_6.out⟩, ⟨by (with_reducible repeat (first | apply r1_ | apply r2_ | apply r3_)); exact HO_10.out⟩, ⟨by (with_reducible repeat (first | apply r1_ | apply r2_ | apply r3_)); exact HO_284002.out⟩, ⟨by (with_reducible repeat (first | apply r1_ | apply r2_ | apply r3_)); exact HO_284003.out⟩, ⟨by (with_reducible repeat (first | apply r1_ | apply r2_ | apply r3_)); exact HO_284006.out⟩, ⟨by (with_reducible repeat (first | refine k2_ ?_ _ | refine k3_ ?_ | refine k1_ ?_ _)); exact BK283.out⟩, ⟨by (with_reducible repeat (first | refine k2_ ?_ _ | refine k3_ ?_ | refine k1_ ?_ _)); exact BK298.out⟩, ⟨by repeat (with_reducible first | exact HB.out | apply p3_ | apply p1_ | apply p2_ | refine bs_ ?_ GE283.out | refine bs_ ?_ GE298.out)⟩⟩
            rw [if_neg c44] at H
            have c44b0 : (x299004_29.toList == ([] : List UInt8)) = false := e2_ c44
            have c44b1 : (x299004_29.toList != ([] : List UInt8)) = true := bne_iff_ne.mpr c44
            have c44b9 : (x299004_29.toList).isEmpty = false := by rw [Bool.eq_false_iff, ne_eq, List.isEmpty_iff]; exact c44
            (first | rw [c44b0] | (simp only [i64_w, i32_w]; rw [c44b0]) | skip)
            have H' := am_ H
            clear H
            have hnb45 := NB298_283.out
            have hnc45 := NB283_298.out
            have hcz46_0 : wc.cell? ⟨gb298, 0, none⟩ = some (.bool false) := (bc_ BK298.out 0).trans rfl; have hcz46_1 : wc.cell? ⟨gb298, 1, none⟩ = some (.int .i64 0) := (bc_ BK298.out 1).trans rfl; have hcz46_2 : wc.cell? ⟨gb298, 2, none⟩ = some (.int .i64 0) := (bc_ BK298.out 2).trans rfl; have hcz46_3 : wc.cell? ⟨gb298, 3, none⟩ = some (.int .i64 10) := (bc_ BK298.out 3).trans rfl; have hcz46_4 : wc.cell? ⟨gb298, 4, none⟩ = some (.string x299004_29) := (bc_ BK298.out 4).trans rfl; have hfz46_0 := bf_ BK298.out 0; have hfz46_1 := bf_ BK298.out 1; have hfz46_2 := bf_ BK298.out 2; have hfz46_3 := bf_ BK298.out 3; have hfz46_4 := bf_ BK298.out 4
            go_wp2
            (try any_goals (exact absurd ‹x299004_29.toList.isEmpty = false› (by rw [c44b9]; decide))); (try any_goals (exact absurd ‹x299004_29.toList.isEmpty = true› (by rw [c44b9]; decide)))
            (try any_goals (exact absurd ‹(!x299004_29.toList.isEmpty) = true› (by rw [c44b9]; decide))); (try any_goals (exact absurd ‹(!x299004_29.toList.isEmpty) = false› (by rw [c44b9]; decide)))
            go_meet
            case rel => exact ⟨_, (x299004_29), (by first | rfl | (simp; done) | (simp [*]; done) | (simp only [str_ne_]; rfl) | (simp only [str_eq_]; rfl)), H', ⟨by have := HJ6.out; have := HK2.out; have := HJ24.out; have := HJ29.out; first | omega | exact Nat.le_refl _⟩, ⟨by (with_reducible repeat (first | apply r1_ | apply r2_ | apply r3_)); exact HO_6.out⟩, ⟨by (with_reducible repeat (first | apply r1_ | apply r2_ | apply r3_)); exact HO_10.out⟩, ⟨by (with_reducible repeat (first | apply r1_ | apply r2_ | apply r3_)); exact HO_284002.out⟩, ⟨by (with_reducible repeat (first | apply r1_ | apply r2_ | apply r3_)); exact HO_284003.out⟩, ⟨by (with_reducible repeat (first | apply r1_ | apply r2_ | apply r3_)); exact HO_284006.out⟩, ⟨by (with_reducible repeat (first | refine k2_ ?_ _ | refine k3_ ?_ | refine k1_ ?_ _)); exact BK283.out⟩, ⟨by (with_reducible repeat (first | refine k2_ ?_ _ | refine k3_ ?_ | refine k1_ ?_ _)); exact BK298.out⟩, ⟨by repeat (with_reducible first | exact HB.out | apply p3_ | apply p1_ | apply p2_ | refine bs_ ?_ GE283.out | refine bs_ ?_ GE298.out)⟩⟩
           case rest =>
            clear HC41
            (try clear c1); (try clear c4); (try clear c6); (try clear c22); (try clear c27); (try clear c28); (try clear c28b0); (try clear c29); (try clear c29b0); (try clear hcz11_0); (try clear hcz11_1); (try clear hcz11_2); (try clear hcz11_3); (try clear hcz11_4); (try clear hcz11_5); (try clear hcz11_6); (try clear hcz17_0); (try clear hcz17_1); (try clear hcz17_2); (try clear hcz17_3); (try clear hcz17_4); (try clear hcz17_5); (try clear hcz17_6); (try clear hcz33_0); (try clear hcz33_1); (try clear hcz33_2); (try clear hcz33_3); (try clear hcz33_4); (try clear hcz43_0); (try clear hcz43_1); (try clear hcz43_2); (try clear hcz43_3); (try clear hcz43_4); (try clear hfz11_0); (try clear hfz11_1); (try clear hfz11_2); (try clear hfz11_3); (try clear hfz11_4); (try clear hfz11_5); (try clear hfz11_6); (try clear hfz17_0); (try clear hfz17_1); (try clear hfz17_2); (try clear hfz17_3); (try clear hfz17_4); (try clear hfz17_5); (try clear hfz17_6); (try clear hfz33_0); (try clear hfz33_1); (try clear hfz33_2); (try clear hfz33_3); (try clear hfz33_4); (try clear hfz43_0); (try clear hfz43_1); (try clear hfz43_2); (try clear hfz43_3); (try clear hfz43_4); (try clear hx297_0); (try clear p297); (try clear q297)
            obtain ⟨kq, x12_40, rfl, HA, HJ40, HO_6, HO_10, HO_284002, HO_284003, HO_284006, BK283, BK298, HB⟩ := hcut
            cases kq with
            | zero => exact absurd HA.out (by simp [pinfoldlaw17_ClaimRenews.j4])
            | succ kj40 =>
             have H := HA.out
             clear HA
             simp only [pinfoldlaw17_ClaimRenews.j4] at H
             replace H := e4_ H
             obtain ⟨⟨t301, t304, t305, t306⟩, A470, H⟩ := H
             replace H : (if x12_40.toList = ([112, 99] : List UInt8) then (pinfoldlaw17_ClaimRenews.j5 kj40 l0 l1 y294 (wrap64 (x11_2 + (Go.bits .and .i64 (rd l0 x13_2) 63))) x12_40 x13_2 t301 t304 t305 t306 true t270 t271 t272 t275 t278 t279 t280) else (pinfoldlaw17_ClaimRenews.j5 kj40 l0 l1 y294 (wrap64 (x11_2 + (Go.bits .and .i64 (rd l0 x13_2) 63))) x12_40 x13_2 t301 t304 t305 t306 (x12_40.toList == ([116, 118, 46, 108, 97, 110] : List UInt8)) t270 t271 t272 t275 t278 t279 t280)) = some r := H
             have A47 := am_ A470
             clear A470
             have HC48 := am_ H
             clear H
             have hnb49 := NB283_298.out
             have hnc49 := NB298_283.out
             have hcz50_0 : wc.cell? ⟨gb283, 0, none⟩ = some (.int .i64 t270) := (bc_ BK283.out 0).trans rfl; have hcz50_1 : wc.cell? ⟨gb283, 1, none⟩ = some (.int .i64 t271) := (bc_ BK283.out 1).trans rfl; have hcz50_2 : wc.cell? ⟨gb283, 2, none⟩ = some (.slice Ao12 t272.length co12) := (bc_ BK283.out 2).trans rfl; have hcz50_3 : wc.cell? ⟨gb283, 3, none⟩ = some (.slice Ao13 t275.length co13) := (bc_ BK283.out 3).trans rfl; have hcz50_4 : wc.cell? ⟨gb283, 4, none⟩ = some (.int .i64 t278) := (bc_ BK283.out 4).trans rfl; have hcz50_5 : wc.cell? ⟨gb283, 5, none⟩ = some (.string t279) := (bc_ BK283.out 5).trans rfl; have hcz50_6 : wc.cell? ⟨gb283, 6, none⟩ = some (.slice Ao14 t280.length co14) := (bc_ BK283.out 6).trans rfl; have hfz50_0 := bf_ BK283.out 0; have hfz50_1 := bf_ BK283.out 1; have hfz50_2 := bf_ BK283.out 2; have hfz50_3 := bf_ BK283.out 3; have hfz50_4 := bf_ BK283.out 4; have hfz50_5 := bf_ BK283.out 5; have hfz50_6 := bf_ BK283.out 6; have hcz51_0 : wc.cell? ⟨gb298, 0, none⟩ = some (.bool false) := (bc_ BK298.out 0).trans rfl; have hcz51_1 : wc.cell? ⟨gb298, 1, none⟩ = some (.int .i64 0) := (bc_ BK298.out 1).trans rfl; have hcz51_2 : wc.cell? ⟨gb298, 2, none⟩ = some (.int .i64 0) := (bc_ BK298.out 2).trans rfl; have hcz51_3 : wc.cell? ⟨gb298, 3, none⟩ = some (.int .i64 10) := (bc_ BK298.out 3).trans rfl; have hcz51_4 : wc.cell? ⟨gb298, 4, none⟩ = some (.string x299004_29) := (bc_ BK298.out 4).trans rfl; have hfz51_0 := bf_ BK298.out 0; have hfz51_1 := bf_ BK298.out 1; have hfz51_2 := bf_ BK298.out 2; have hfz51_3 := bf_ BK298.out 3; have hfz51_4 := bf_ BK298.out 4
             obtain ⟨Ao52, co52, eo52⟩ := Kd.R_slice HO_6.out
             subst eo52
             go_upto_region 20 with (first | ((with_reducible refine gate_callee (f := 9) rfl ?_); refine goesL_ (some 85) rfl rfl Tryd.func9 (by kernel_rfl) rfl #[.agg #[.int .i64 t270, .int .i64 t271, .slice Ao12 t272.length co12, .slice Ao13 t275.length co13, .int .i64 t278, .string t279, .slice Ao14 t280.length co14], .slice Ao52 x6_2.length co52, .int .i64 (wrap64 (x11_2 + (Go.bits .and .i64 (rd l0 x13_2) 63))), .string (⟨#[109, 101]⟩ : ByteArray), .agg #[.bool false, .int .i64 0, .int .i64 0, .int .i64 10, .string x299004_29]] rfl (by (try simp only [List.map_toArray, List.map_cons, List.map_nil]); first | done | rfl | (simp only [List.length_drop, List.length_take]; rfl)) ?_; (with_reducible refine (claim_Claim.calls t270 t271 _ _ t272 _ _ t275 t278 t279 _ _ t280 _ _ x6_2 (wrap64 (x11_2 + (Go.bits .and .i64 (rd l0 x13_2) 63))) (⟨#[109, 101]⟩ : ByteArray) false 0 0 10 x299004_29 t301 t304 t305 t306 _ ?side1 ?side2 ?side3 ?side4 ?side5 ?side6 ?side7 ?side8 A47.out).mono ?_); (case side1 => repeat (first | exact (Kd.R_reads' HO_284002.out).2.2 | (with_reducible refine c1_ ?_ _) | (with_reducible refine c2_ ?_ _) | (with_reducible refine c3_ ?_))); (case side2 => exact (Kd.R_reads' HO_284002.out).2.1); (case side3 => repeat (first | exact (Kd.R_reads' HO_284003.out).2.2 | (with_reducible refine c1_ ?_ _) | (with_reducible refine c2_ ?_ _) | (with_reducible refine c3_ ?_))); (case side4 => exact (Kd.R_reads' HO_284003.out).2.1); (case side5 => repeat (first | exact (Kd.R_reads' HO_284006.out).2.2 | (with_reducible refine c1_ ?_ _) | (with_reducible refine c2_ ?_ _) | (with_reducible refine c3_ ?_))); (case side6 => exact (Kd.R_reads' HO_284006.out).2.1); (case side7 => repeat (first | exact (Kd.R_reads' HO_6.out).2.2 | (with_reducible refine c1_ ?_ _) | (with_reducible refine c2_ ?_ _) | (with_reducible refine c3_ ?_))); (case side8 => exact (Kd.R_reads' HO_6.out).2.1); rintro e w53 ⟨v302, rfl, ho0, hb⟩; refine ⟨_, rfl, ?_⟩; have n0_ := am_ (r5_ (by (with_reducible repeat (first | apply r1_ | apply r2_ | apply r3_)); exact HO_6.out) (r4_ ho0) hb); have n1_ := am_ (Kd.R_below (by (with_reducible repeat (first | apply r1_ | apply r2_ | apply r3_)); exact HO_10.out) hb); have n2_ := am_ (Kd.R_below (by (with_reducible repeat (first | apply r1_ | apply r2_ | apply r3_)); exact HO_284002.out) hb); have n3_ := am_ (Kd.R_below (by (with_reducible repeat (first | apply r1_ | apply r2_ | apply r3_)); exact HO_284003.out) hb); have n4_ := am_ (Kd.R_below (by (with_reducible repeat (first | apply r1_ | apply r2_ | apply r3_)); exact HO_284006.out) hb); have n5_ := am_ (Kd.R_lower (Kd.R_new' ho0 (Kd.R_lt (by (with_reducible repeat (first | apply r1_ | apply r2_ | apply r3_)); exact HO_6.out))) (bz_ (by repeat (with_reducible first | exact HB.out | apply p3_ | apply p1_ | apply p2_ | refine bs_ ?_ GE283.out | refine bs_ ?_ GE298.out)))); have n6_ := am_ (kb_ (g := gb283) (o := .cells #[.int .i64 t270, .int .i64 t271, .slice Ao12 t272.length co12, .slice Ao13 t275.length co13, .int .i64 t278, .string t279, .slice Ao14 t280.length co14] 26 (0, 0)) (by (with_reducible repeat (first | refine k2_ ?_ _ | refine k3_ ?_ | refine k1_ ?_ _)); exact BK283.out) hb); have n7_ := am_ (kb_ (g := gb298) (o := .cells #[.bool false, .int .i64 0, .int .i64 0, .int .i64 10, .string x299004_29] 29 (0, 0)) (by (with_reducible repeat (first | refine k2_ ?_ _ | refine k3_ ?_ | refine k1_ ?_ _)); exact BK298.out) hb); have n8_ := am_ (bt_ (by repeat (with_reducible first | exact HB.out | apply p3_ | apply p1_ | apply p2_ | refine bs_ ?_ GE283.out | refine bs_ ?_ GE298.out)) hb); clear HO_6; clear HO_10; clear HO_284002; clear HO_284003; clear HO_284006; clear BK283; clear BK298; clear HB; have HO_6 := n0_; have HO_10 := n1_; have HO_284002 := n2_; have HO_284003 := n3_; have HO_284006 := n4_; have HO303 := n5_; have BK283 := n6_; have BK298 := n7_; have HB := n8_; clear n0_ n1_ n2_ n3_ n4_ n5_ n6_ n7_ n8_; (try clear hb); (try clear ho0)))
             (try simp only [Act.put, sa_, sb_, sc_])
             go_cut [19] (fun v19 wc => ∃ (kq : Nat) (x19_47 : Bool), v19 = .bool x19_47 ∧ Aside0 (pinfoldlaw17_ClaimRenews.j5 kq l0 l1 y294 (wrap64 (x11_2 + (Go.bits .and .i64 (rd l0 x13_2) 63))) x12_40 x13_2 t301 t304 t305 t306 x19_47 t270 t271 t272 t275 t278 t279 t280 = some r) ∧ Aside0 (kq ≤ kj40) ∧ Aside0 (Kd.R Kd.string 9 wc w.heap.size (fun _ => True) v295 y294) ∧ Aside0 (Kd.R k36 36 wc w.heap.size (fun _ => True) v302 t301) ∧ Aside0 (Kd.R (Kd.int .i64) 3 wc w.heap.size (fun _ => True) (.slice Ao12 t272.length co12) t272) ∧ Aside0 (Kd.R k72 72 wc w.heap.size (fun _ => True) (.slice Ao13 t275.length co13) t275) ∧ Aside0 (Kd.R k74 74 wc w.heap.size (fun _ => True) (.slice Ao14 t280.length co14) t280) ∧ Aside0 (wc.heap[gb283]? = some (.cells #[.int .i64 t270, .int .i64 t271, (.slice Ao12 t272.length co12), (.slice Ao13 t275.length co13), .int .i64 t278, .string t279, (.slice Ao14 t280.length co14)] 26 (0, 0))) ∧ Aside0 (wc.heap[gb298]? = some (.cells #[.bool false, .int .i64 0, .int .i64 0, .int .i64 10, .string x299004_29] 29 (0, 0))) ∧ Aside0 (Below w.heap.size w wc))
             case first =>
              have H := HC48.out
              clear HC48
              by_cases c54 : x12_40.toList = ([112, 99] : List UInt8)
              ·rw [if_pos c54] at H
               have c54b0 : (x12_40.toList == ([112, 99] : List UInt8)) = true := beq_iff_eq.mpr c54
               have c54b1 : (x12_40.toList != ([112, 99] : List UInt8)) = false := e1_ c54
               clear c54
               (first | rw [c54b0] | (simp only [i64_w, i32_w]; rw [c54b0]) | skip)
               have H' := am_ H
               clear H
               go_wp2
               (try any_goals (exact absurd ‹x299004_29.toList.isEmpty = false› (by rw [c44b9]; decide))); (try any_goals (exact absurd ‹x299004_29.toList.isEmpty = true› (by rw [c44b9]; decide)))
               (try any_goals (exact absurd ‹(!x299004_29.toList.isEmpty) = true› (by rw [c44b9]; decide))); (try any_goals (exact absurd ‹(!x299004_29.toList.isEmpty) = false› (by rw [c44b9]; decide)))
               go_meet
               case rel => exact ⟨_, (true), (by first | rfl | (simp; done) | (simp [*]; done) | (simp only [str_ne_]; rfl) | (simp only [str_eq_]; rfl)), H', ⟨by have := HJ6.out; have := HK2.out; have := HJ24.out; have := HJ29.out; have := HJ40.out; first | omega | exact Nat.le_refl _⟩, ⟨by (with_reducible repeat (first | apply r1_ | apply r2_ | apply r3_)); exact HO_10.out⟩, ⟨by (with_reducible repeat (first | apply r1_ | apply r2_ | apply r3_)); exact Kd.R_mono HO303.out (fun _ hk => trivial)⟩, ⟨by (with_reducible repeat (first | apply r1_ | apply r2_ | apply r3_)); exact HO_284002.out⟩, ⟨by (with_reducible repeat (first | apply r1_ | apply r2_ | apply r3_)); exact HO_284003.out⟩, ⟨by (with_reducible repeat (first | apply r1_ | apply r2_ | apply r3_)); exact HO_284006.out⟩, ⟨by (with_reducible repeat (first | refine k2_ ?_ _ | refine k3_ ?_ | refine k1_ ?_ _)); exact BK283.out⟩, ⟨by (with_reducible repeat (first | refine k2_ ?_ _ | refine k3_ ?_ | refine k1_ ?_ _)); exact BK298.out⟩, ⟨by repeat (with_reducible first | exact HB.out | apply p3_ | apply p1_ | apply p2_ | refine bs_ ?_ GE283.out | refine bs_ ?_ GE298.out)⟩⟩
              rw [if_neg c54] at H
              have c54b0 : (x12_40.toList == ([112, 99] : List UInt8)) = false := e2_ c54
              have c54b1 : (x12_40.toList != ([112, 99] : List UInt8)) = true := bne_iff_ne.mpr c54
              (first | rw [c54b0] | (simp only [i64_w, i32_w]; rw [c54b0]) | skip)
              have H' := am_ H
              clear H
              go_wp2
              (try any_goals (exact absurd ‹x299004_29.toList.isEmpty = false› (by rw [c44b9]; decide))); (try any_goals (exact absurd ‹x299004_29.toList.isEmpty = true› (by rw [c44b9]; decide)))
              (try any_goals (exact absurd ‹(!x299004_29.toList.isEmpty) = true› (by rw [c44b9]; decide))); (try any_goals (exact absurd ‹(!x299004_29.toList.isEmpty) = false› (by rw [c44b9]; decide)))
              go_meet
              case rel => exact ⟨_, ((x12_40.toList == ([116, 118, 46, 108, 97, 110] : List UInt8))), (by first | rfl | (simp; done) | (simp [*]; done) | (simp only [str_ne_]; rfl) | (simp only [str_eq_]; rfl)), H', ⟨by have := HJ6.out; have := HK2.out; have := HJ24.out; have := HJ29.out; have := HJ40.out; first | omega | exact Nat.le_refl _⟩, ⟨by (with_reducible repeat (first | apply r1_ | apply r2_ | apply r3_)); exact HO_10.out⟩, ⟨by (with_reducible repeat (first | apply r1_ | apply r2_ | apply r3_)); exact Kd.R_mono HO303.out (fun _ hk => trivial)⟩, ⟨by (with_reducible repeat (first | apply r1_ | apply r2_ | apply r3_)); exact HO_284002.out⟩, ⟨by (with_reducible repeat (first | apply r1_ | apply r2_ | apply r3_)); exact HO_284003.out⟩, ⟨by (with_reducible repeat (first | apply r1_ | apply r2_ | apply r3_)); exact HO_284006.out⟩, ⟨by (with_reducible repeat (first | refine k2_ ?_ _ | refine k3_ ?_ | refine k1_ ?_ _)); exact BK283.out⟩, ⟨by (with_reducible repeat (first | refine k2_ ?_ _ | refine k3_ ?_ | refine k1_ ?_ _)); exact BK298.out⟩, ⟨by repeat (with_reducible first | exact HB.out | apply p3_ | apply p1_ | apply p2_ | refine bs_ ?_ GE283.out | refine bs_ ?_ GE298.out)⟩⟩
             case rest =>
              clear HC48
              (try clear c1); (try clear c4); (try clear c6); (try clear c22); (try clear c27); (try clear c28); (try clear c28b0); (try clear c29); (try clear c29b0); (try clear hcz11_0); (try clear hcz11_1); (try clear hcz11_2); (try clear hcz11_3); (try clear hcz11_4); (try clear hcz11_5); (try clear hcz11_6); (try clear hcz17_0); (try clear hcz17_1); (try clear hcz17_2); (try clear hcz17_3); (try clear hcz17_4); (try clear hcz17_5); (try clear hcz17_6); (try clear hcz33_0); (try clear hcz33_1); (try clear hcz33_2); (try clear hcz33_3); (try clear hcz33_4); (try clear hcz43_0); (try clear hcz43_1); (try clear hcz43_2); (try clear hcz43_3); (try clear hcz43_4); (try clear hcz50_0); (try clear hcz50_1); (try clear hcz50_2); (try clear hcz50_3); (try clear hcz50_4); (try clear hcz50_5); (try clear hcz50_6); (try clear hcz51_0); (try clear hcz51_1); (try clear hcz51_2); (try clear hcz51_3); (try clear hcz51_4); (try clear hfz11_0); (try clear hfz11_1); (try clear hfz11_2); (try clear hfz11_3); (try clear hfz11_4); (try clear hfz11_5); (try clear hfz11_6); (try clear hfz17_0); (try clear hfz17_1); (try clear hfz17_2); (try clear hfz17_3); (try clear hfz17_4); (try clear hfz17_5); (try clear hfz17_6); (try clear hfz33_0); (try clear hfz33_1); (try clear hfz33_2); (try clear hfz33_3); (try clear hfz33_4); (try clear hfz43_0); (try clear hfz43_1); (try clear hfz43_2); (try clear hfz43_3); (try clear hfz43_4); (try clear hfz50_0); (try clear hfz50_1); (try clear hfz50_2); (try clear hfz50_3); (try clear hfz50_4); (try clear hfz50_5); (try clear hfz50_6); (try clear hfz51_0); (try clear hfz51_1); (try clear hfz51_2); (try clear hfz51_3); (try clear hfz51_4); (try clear hx297_0); (try clear p297); (try clear q297)
              obtain ⟨kq, x19_47, rfl, HA, HJ47, HO_10, HO_15, HO_284002, HO_284003, HO_284006, BK283, BK298, HB⟩ := hcut
              cases kq with
              | zero => exact absurd HA.out (by simp [pinfoldlaw17_ClaimRenews.j5])
              | succ kj47 =>
               have H := HA.out
               clear HA
               simp only [pinfoldlaw17_ClaimRenews.j5] at H
               by_cases c55 : t304 = 1
               rotate_left
               ·rw [if_neg c55] at H
                exact absurd H (by simp)
               rw [if_pos c55] at H
               have c55b0 : (t304 == 1) = true := beq_iff_eq.mpr c55
               have c55b1 : (t304 != 1) = false := e1_ c55
               clear c55
               by_cases c56 : t305 = 10
               rotate_left
               ·rw [if_neg c56] at H
                exact absurd H (by simp)
               rw [if_pos c56] at H
               have c56b0 : (t305 == 10) = true := beq_iff_eq.mpr c56
               have c56b1 : (t305 != 10) = false := e1_ c56
               clear c56
               replace H := e4_ H
               obtain ⟨t307, A570, H⟩ := H
               replace H : (if t307 = 0 then ((pinfoldlaw0_SameLeases.f kj47 t301 (([(⟨10, 2, (⟨#[109, 101]⟩ : ByteArray), wrap64 ((wrap64 (x11_2 + (Go.bits .and .i64 (rd l0 x13_2) 63))) + 100), x12_40, x19_47⟩ : S36)] : List (S36)))).bind fun t311 => (if t311 = true then (pinfoldlaw17_ClaimRenews.l0 kj47 l0 l1 t301 y294 (wrap64 (x11_2 + (Go.bits .and .i64 (rd l0 x13_2) 63))) x12_40 (wrap64 (x13_2 + 1)) t270 t271 t272 t275 t278 t279 t280) else (none))) else (none)) = some r := H
               have A57 := am_ A570
               clear A570
               by_cases c58 : t307 = 0
               rotate_left
               ·rw [if_neg c58] at H
                exact absurd H (by simp)
               rw [if_pos c58] at H
               have c58b0 : (t307 == 0) = true := beq_iff_eq.mpr c58
               have c58b1 : (t307 != 0) = false := e1_ c58
               clear c58
               obtain ⟨y308, hy308⟩ : ∃ y_ : List (S36), y_ = (([(⟨10, 2, (⟨#[109, 101]⟩ : ByteArray), wrap64 ((wrap64 (x11_2 + (Go.bits .and .i64 (rd l0 x13_2) 63))) + 100), x12_40, x19_47⟩ : S36)] : List (S36))) := ⟨_, rfl⟩
               replace H : ((pinfoldlaw0_SameLeases.f kj47 t301 y308).bind fun t311 => (if t311 = true then (pinfoldlaw17_ClaimRenews.l0 kj47 l0 l1 t301 y294 (wrap64 (x11_2 + (Go.bits .and .i64 (rd l0 x13_2) 63))) x12_40 (wrap64 (x13_2 + 1)) t270 t271 t272 t275 t278 t279 t280) else (none))) = some r := by first | (rw [hy308]; with_reducible exact H) | (have H2_ := (Option.bind_some _ _).symm.trans H; rw [hy308]; with_reducible exact H2_) | (have H2_ := (Option.bind_some _ _).symm.trans H; with_reducible exact H2_) | with_reducible exact H | (rw [hy308]; exact H) | exact H
               have Ny308 := am_ hy308
               clear hy308
               replace H := e4_ H
               obtain ⟨t311, A590, H⟩ := H
               replace H : (if t311 = true then (pinfoldlaw17_ClaimRenews.l0 kj47 l0 l1 t301 y294 (wrap64 (x11_2 + (Go.bits .and .i64 (rd l0 x13_2) 63))) x12_40 (wrap64 (x13_2 + 1)) t270 t271 t272 t275 t278 t279 t280) else (none)) = some r := H
               have A59 := am_ A590
               clear A590
               by_cases c60 : t311 = true
               ·subst c60
                have H1 : (pinfoldlaw17_ClaimRenews.l0 kj47 l0 l1 t301 y294 (wrap64 (x11_2 + (Go.bits .and .i64 (rd l0 x13_2) 63))) x12_40 (wrap64 (x13_2 + 1)) t270 t271 t272 t275 t278 t279 t280) = some r := by rw [if_pos rfl] at H; exact H
                clear H
                have H := H1
                clear H1
                have H' := am_ H
                clear H
                go_wp2_with (first | (go_at_call 10; (with_reducible refine (pinfoldlaw0_Num.calls t306 t307 _ A57.out).mono ?_); rintro e w' ⟨rfl, ⟨nd, rfl⟩⟩) | ((with_reducible refine gate_dst (N := 114) rfl ?_); (try (refine gate_guard (by rfl) ?_; dsimp only)); refine Kd.R_lit k36 _ 36 ?hg (N := 114) ?hd (xs := ([(⟨10, 2, (⟨#[109, 101]⟩ : ByteArray), wrap64 ((wrap64 (x11_2 + (Go.bits .and .i64 (rd l0 x13_2) 63))) + 100), x12_40, x19_47⟩ : S36)] : List (S36))) (inner := [.int .i64 10, .int .i64 2, .string (⟨#[109, 101]⟩ : ByteArray), .int .i64 (wrap64 ((wrap64 (x11_2 + (Go.bits .and .i64 (rd l0 x13_2) 63))) + 100)), .string x12_40, .bool x19_47]) (ok := fun _ => True) (okp := fun _ => True) ?hr ?hp (fun _ hk => hk) trivial (Below.refl _ _) (Nat.le_refl _) (by simp) ?_; (case hd => rfl); (case hg => rfl); (case hr => first | (go_simp; done) | (go_simp; rfl)); (case hp => exact (Reps.c6 (show Kd.M k36 _ _ _ (⟨10, 2, (⟨#[109, 101]⟩ : ByteArray), wrap64 ((wrap64 (x11_2 + (Go.bits .and .i64 (rd l0 x13_2) 63))) + 100), x12_40, x19_47⟩ : S36) [.int .i64 10, .int .i64 2, .string (⟨#[109, 101]⟩ : ByteArray), .int .i64 (wrap64 ((wrap64 (x11_2 + (Go.bits .and .i64 (rd l0 x13_2) 63))) + 100)), .string x12_40, .bool x19_47] from (k36_mkM _ _ _ (⟨10, 2, (⟨#[109, 101]⟩ : ByteArray), wrap64 ((wrap64 (x11_2 + (Go.bits .and .i64 (rd l0 x13_2) 63))) + 100), x12_40, x19_47⟩ : S36) )) (Reps.none _ _))); intro v309 w61 ho62 hb hg_ hnew_; clear hg_ hnew_; (first | rw [← Ny308.out] at ho62 | (simp only [Int.reduceToNat] at ho62; rw [← Ny308.out] at ho62)); have n0_ := am_ (Kd.R_below (by (with_reducible repeat (first | apply r1_ | apply r2_ | apply r3_)); exact HO_10.out) hb); have n1_ := am_ (r5_ (by (with_reducible repeat (first | apply r1_ | apply r2_ | apply r3_)); exact HO_15.out) (r4_ ho62) hb); have n2_ := am_ (Kd.R_below (by (with_reducible repeat (first | apply r1_ | apply r2_ | apply r3_)); exact HO_284002.out) hb); have n3_ := am_ (Kd.R_below (by (with_reducible repeat (first | apply r1_ | apply r2_ | apply r3_)); exact HO_284003.out) hb); have n4_ := am_ (Kd.R_below (by (with_reducible repeat (first | apply r1_ | apply r2_ | apply r3_)); exact HO_284006.out) hb); have n5_ := am_ (Kd.R_lower (Kd.R_new' ho62 (Kd.R_lt (by (with_reducible repeat (first | apply r1_ | apply r2_ | apply r3_)); exact HO_15.out))) (bz_ (by repeat (with_reducible first | exact HB.out | apply p3_ | apply p1_ | apply p2_ | refine bs_ ?_ GE283.out | refine bs_ ?_ GE298.out)))); have n6_ := am_ (kb_ (g := gb283) (o := .cells #[.int .i64 t270, .int .i64 t271, .slice Ao12 t272.length co12, .slice Ao13 t275.length co13, .int .i64 t278, .string t279, .slice Ao14 t280.length co14] 26 (0, 0)) (by (with_reducible repeat (first | refine k2_ ?_ _ | refine k3_ ?_ | refine k1_ ?_ _)); exact BK283.out) hb); have n7_ := am_ (kb_ (g := gb298) (o := .cells #[.bool false, .int .i64 0, .int .i64 0, .int .i64 10, .string x299004_29] 29 (0, 0)) (by (with_reducible repeat (first | refine k2_ ?_ _ | refine k3_ ?_ | refine k1_ ?_ _)); exact BK298.out) hb); have n8_ := am_ (bt_ (by repeat (with_reducible first | exact HB.out | apply p3_ | apply p1_ | apply p2_ | refine bs_ ?_ GE283.out | refine bs_ ?_ GE298.out)) hb); clear HO_10; clear HO_15; clear HO_284002; clear HO_284003; clear HO_284006; clear BK283; clear BK298; clear HB; have HO_10 := n0_; have HO_15 := n1_; have HO_284002 := n2_; have HO_284003 := n3_; have HO_284006 := n4_; have HO310 := n5_; have BK283 := n6_; have BK298 := n7_; have HB := n8_; clear n0_ n1_ n2_ n3_ n4_ n5_ n6_ n7_ n8_; clear hb ho62; obtain ⟨Ao63, co63, eo63⟩ := Kd.R_slice HO_15.out; subst eo63; obtain ⟨Ao64, co64, eo64⟩ := Kd.R_slice HO310.out; subst eo64) | (go_at_call 17; (with_reducible refine (pinfoldlaw0_SameLeases.calls kj47 _ _ t301 _ _ y308 true _ ?side1 ?side2 ?side3 ?side4 A59.out).mono ?_); (case side1 => repeat (first | exact (Kd.R_reads' HO_15.out).2.2 | (with_reducible refine c1_ ?_ _) | (with_reducible refine c2_ ?_ _) | (with_reducible refine c3_ ?_))); (case side2 => exact (Kd.R_reads' HO_15.out).2.1); (case side3 => repeat (first | exact (Kd.R_reads' HO310.out).2.2 | (with_reducible refine c1_ ?_ _) | (with_reducible refine c2_ ?_ _) | (with_reducible refine c3_ ?_))); (case side4 => exact (Kd.R_reads' HO310.out).2.1); rintro e w' ⟨rfl, ⟨nd, rfl⟩⟩))
                go_roundg kj47
                case measure => have := HJ6.out; have := HK2.out; have := HJ24.out; have := HJ29.out; have := HJ40.out; have := HJ47.out; omega
                case rel => exact ⟨(t301), ((wrap64 (x11_2 + (Go.bits .and .i64 (rd l0 x13_2) 63)))), (x12_40), (wrap64 (x13_2 + 1)), (by first | rfl | (simp; done) | (simp [*]; done) | (simp only [str_ne_]; rfl) | (simp only [str_eq_]; rfl)), (by first | rfl | (simp; done) | (simp [*]; done) | (simp only [str_ne_]; rfl) | (simp only [str_eq_]; rfl)), (by first | rfl | (simp; done) | (simp [*]; done) | (simp only [str_ne_]; rfl) | (simp only [str_eq_]; rfl)), H', ⟨by have := HJ6.out; have := HK2.out; have := HJ24.out; have := HJ29.out; have := HJ40.out; have := HJ47.out; omega⟩, ⟨by (with_reducible repeat (first | apply r1_ | apply r2_ | apply r3_)); exact Kd.R_mono HO_15.out (fun _ hk => trivial)⟩, ⟨by (with_reducible repeat (first | apply r1_ | apply r2_ | apply r3_)); exact HO_10.out⟩, ⟨by (with_reducible repeat (first | apply r1_ | apply r2_ | apply r3_)); exact HO_284002.out⟩, ⟨by (with_reducible repeat (first | apply r1_ | apply r2_ | apply r3_)); exact HO_284003.out⟩, ⟨by (with_reducible repeat (first | apply r1_ | apply r2_ | apply r3_)); exact HO_284006.out⟩, ⟨by (with_reducible repeat (first | refine k2_ ?_ _ | refine k3_ ?_ | refine k1_ ?_ _)); exact BK283.out⟩, ⟨by repeat (with_reducible first | exact HB.out | apply p3_ | apply p1_ | apply p2_ | refine bs_ ?_ GE283.out | refine bs_ ?_ GE298.out)⟩⟩
               replace c60 := e3_ c60
               subst c60
               have H1 : (none) = some r := by rw [if_neg (show ¬ (false = true) by decide)] at H; exact H
               clear H
               have H := H1
               clear H1
               exact absurd H (by simp)
        replace c27 := e3_ c27
        subst c27
        have H1 : (some true) = some r := by rw [if_neg (show ¬ (false = true) by decide)] at H; exact H
        clear H
        have H := H1
        clear H1
        obtain rfl := e5_ H
        go_wp2
        go_ret
        exact ⟨by first | rfl | (simp [errW_none, errW_some] <;> rfl) | (simp [*, errW_none, errW_some] <;> rfl) | (simp only [str_ne_]; rfl) | (simp only [str_eq_]; rfl), by repeat (with_reducible first | exact HB.out | apply p3_ | apply p1_ | apply p2_ | refine bs_ ?_ GE283.out)⟩
 replace c4 := e3_ c4
 subst c4
 have H1 : (none) = some r := by rw [if_neg (show ¬ (false = true) by decide)] at H; exact H
 clear H
 have H := H1
 clear H1
 exact absurd H (by simp)

/-- THE ONE PURE STATEMENT of pinfoldlaw17_ClaimRenews. -/
def pinfoldlaw17_ClaimRenews.Pure : Prop := ∀ (l0 : List Int) (l1 : List Int), (l0.length * Tryd.prog.bytesOf 3 ≤ 140737488351232 ∧ ∀ y0_ ∈ l0, (Lit.int .i64 y0_).wf = true) → (l1.length * Tryd.prog.bytesOf 3 ≤ 140737488351232 ∧ ∀ y0_ ∈ l1, (Lit.int .i64 y0_).wf = true) → ∃ k, pinfoldlaw17_ClaimRenews.f k l0 l1 = some true
theorem pinfoldlaw17_ClaimRenews.walk (P : pinfoldlaw17_ClaimRenews.Pure) (A0 : Option Addr) (c0 : Nat) (l0 : List Int) (A1 : Option Addr) (c1 : Nat) (l1 : List Int) (w : World) (hr0 : Kd.C (Kd.int .i64) w A0 l0.length l0) (hc0 : l0.length ≤ c0) (hr1 : Kd.C (Kd.int .i64) w A1 l1.length l1) (hc1 : l1.length ≤ c1) (w0 : (l0.length * Tryd.prog.bytesOf 3 ≤ 140737488351232 ∧ ∀ y0_ ∈ l0, (Lit.int .i64 y0_).wf = true)) (w1 : (l1.length * Tryd.prog.bytesOf 3 ≤ 140737488351232 ∧ ∀ y0_ ∈ l1, (Lit.int .i64 y0_).wf = true)) :
  Calls Tryd.prog 6 #[.slice A0 l0.length c0, .slice A1 l1.length c1] w fun e w' => e = .returned (.bool true) ∧ Below w.heap.size w w' := by
 obtain ⟨k, h⟩ := P l0 l1 w0 w1
 refine (pinfoldlaw17_ClaimRenews.calls k _ _ l0 _ _ l1 true w hr0 hc0 hr1 hc1 h).mono ?_
 rintro e w' ⟨rfl, hd⟩
 exact ⟨rfl, hd⟩

end Go.Proofs.YtibalpbkmgegnaaDoor.PJ
