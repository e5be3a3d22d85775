-- Made by wip/pr.py out of the translation (a turned copy of the kit's print; contracts by hand where said).
import Derived.Test.YtpfanafggmkejaaPIdentFormsx0
import Derived.Test.YtpfanafggmkejaaPIdentFormsx1
import Derived.Test.YtpfanafggmkejaaPIdentFormsx2
import Derived.Test.YtpfanafggmkejaaPIdentFormsx3
namespace Go.Proofs.Ytpfanafggmkejaa.PIdentForms
open Go.RowKit Go.Proofs.YtpfanafggmkejaaW.PrintWords Go.Proofs.YtpfanafggmkejaaW.PrintLast Go.Proofs.YtpfanafggmkejaaW.PrintMore
attribute [local go_sem] max2_int min2_int max_two min_two max_three min_three max_four min_four   -- for this text's walks alone
set_option linter.unusedVariables false
set_option linter.unusedSimpArgs false

/-! ### pinfoldlaw9_IdentForms: function 12 -/
def pinfoldlaw9_IdentForms.f (k : Nat) (a0 : Int) (a1 : Int) : Option (Bool) := (pinfoldlaw9_awake.f k).bind fun t141 => (if t141 = true then (if 16 ≤ 281474976710656 then (if 0 ≤ (wrap64 (16 + (wrap64 (1 + (Go.bits .and .i64 a1 15))))) then (if (wrap64 (16 + (wrap64 (1 + (Go.bits .and .i64 a1 15)))) : Int).toNat ≤ 281474976710656 then ((some (([(⟨0, 0, 0, 0, 0, 0, 0, 0, 0, 0, (⟨#[]⟩ : ByteArray), ([] : List (S65))⟩ : S54), (⟨0, 0, 0, 0, 0, 0, 0, 0, 0, 0, strOfNums (List.replicate 16 0), ([] : List (S65))⟩ : S54), (⟨0, 0, 0, 0, 0, 0, 0, 0, 0, 0, (⟨#[97]⟩ : ByteArray), (([(⟨61, (⟨#[]⟩ : ByteArray)⟩ : S65)] : List (S65)))⟩ : S54), (⟨0, 0, 0, 0, 0, 0, 0, 0, 0, 0, (⟨#[97]⟩ : ByteArray), (([(⟨61, strOfNums (List.replicate (wrap64 (16 + (wrap64 (1 + (Go.bits .and .i64 a1 15)))) : Int).toNat 0)⟩ : S65)] : List (S65)))⟩ : S54), (⟨wrap64 (255 + (wrap64 (1 + (Go.bits .and .i64 a1 15)))), 0, 0, 0, 0, 0, 0, 0, 0, 0, (⟨#[97]⟩ : ByteArray), ([] : List (S65))⟩ : S54)] : List (S54)) : List (S54))).bind fun y154 => (if 0 ≤ (wrap64 (Int.tmod (IntKind.u64.wrap (a0)) 5)) then (if (wrap64 (Int.tmod (IntKind.u64.wrap (a0)) 5)) < (y154.length : Int) then ((ident_Client.f k ((rd_T54 y154 (wrap64 (Int.tmod (IntKind.u64.wrap (a0)) 5))).f0) ((rd_T54 y154 (wrap64 (Int.tmod (IntKind.u64.wrap (a0)) 5))).f1) ((rd_T54 y154 (wrap64 (Int.tmod (IntKind.u64.wrap (a0)) 5))).f2) ((rd_T54 y154 (wrap64 (Int.tmod (IntKind.u64.wrap (a0)) 5))).f3) ((rd_T54 y154 (wrap64 (Int.tmod (IntKind.u64.wrap (a0)) 5))).f4) ((rd_T54 y154 (wrap64 (Int.tmod (IntKind.u64.wrap (a0)) 5))).f5) ((rd_T54 y154 (wrap64 (Int.tmod (IntKind.u64.wrap (a0)) 5))).f6) ((rd_T54 y154 (wrap64 (Int.tmod (IntKind.u64.wrap (a0)) 5))).f7) ((rd_T54 y154 (wrap64 (Int.tmod (IntKind.u64.wrap (a0)) 5))).f8) ((rd_T54 y154 (wrap64 (Int.tmod (IntKind.u64.wrap (a0)) 5))).f9) ((rd_T54 y154 (wrap64 (Int.tmod (IntKind.u64.wrap (a0)) 5))).f10) ((rd_T54 y154 (wrap64 (Int.tmod (IntKind.u64.wrap (a0)) 5))).f11)).bind fun bt158 => ((ident_Dhcid.f k (strOfNums (List.replicate (wrap64 (16 + (wrap64 (1 + (Go.bits .and .i64 a1 15)))) : Int).toNat 0)) (⟨#[97]⟩ : ByteArray)).bind fun bt163 => ((ident_Dhcid.f k (⟨#[97]⟩ : ByteArray) (⟨#[65]⟩ : ByteArray)).bind fun bt165 => (if bt158.1.toList = ([] : List UInt8) then ((pinfoldlaw0_Num.f bt158.2).bind fun t167 => (if t167 = 900 then ((pinfoldlaw0_Num.f bt163.2).bind fun t168 => (if t168 = 900 then ((pinfoldlaw0_Num.f bt165.2).bind fun t169 => (some (t169 == 900))) else (none))) else (none))) else (none))))) else (none)) else (none))) else (none)) else (none)) else (none)) else (none))
theorem pinfoldlaw9_IdentForms.mono : ∀ a0 a1 k, LeO (pinfoldlaw9_IdentForms.f k a0 a1) (pinfoldlaw9_IdentForms.f (k + 1) a0 a1) := by
  intro a0 a1 k
  unfold pinfoldlaw9_IdentForms.f
  repeat' first
      | (with_reducible exact ident_Client.mono _ _ _ _ _ _ _ _ _ _ _ _ _)
      | (with_reducible exact ident_Dhcid.mono _ _ _)
      | (with_reducible exact pinfoldlaw9_awake.mono _)
      | (with_reducible exact LeO.refl _)
      | (with_reducible exact LeO.none _)
      | (with_reducible refine LeO.ite ?_ ?_)
      | (with_reducible refine LeO.bind ?_ (fun _ => ?_))
      | exact ident_Client.mono _ _ _ _ _ _ _ _ _ _ _ _ _
      | exact ident_Dhcid.mono _ _ _
      | exact pinfoldlaw9_awake.mono _
      | exact LeO.none _
      | refine LeO.ite ?_ ?_
      | refine LeO.bind ?_ (fun _ => ?_)
def pinfoldlaw9_IdentForms.T4 : Bool × List (List Nat × List Nat) := (true, [([], []), ([], []), ([1], [1]), ([2], [2]), ([], []), ([4], [4]), ([5], [5]), ([], []), ([7], [7]), ([8, 8], [8]), ([9], [9]), ([10], [10]), ([11], [11]), ([12], [12]), ([], []), ([14], [14]), ([15], [15]), ([0, 3, 6, 13, 16], [0, 3, 6, 13, 16]), ([17, 0, 1, 2, 3, 4, 5, 6, 7, 8, 9, 10, 11, 12, 13, 14, 15, 16, 17], [17])])
def pinfoldlaw9_IdentForms.B4 : List Nat := [0, 0, 2, 6, 0, 16, 48, 0, 128, 384, 896, 1920, 3968, 8064, 0, 16384, 49152, 131071, 262143]
theorem pinfoldlaw9_IdentForms.tab4 : rtab .any (opsOf Try.f12 4) = pinfoldlaw9_IdentForms.T4 := by kernel_rfl
theorem pinfoldlaw9_IdentForms.bits4 : waitsOk pinfoldlaw9_IdentForms.T4.2 pinfoldlaw9_IdentForms.B4 = true := by kernel_rfl
set_option maxHeartbeats 8000000 in
set_option maxRecDepth 100000 in
theorem pinfoldlaw9_IdentForms.calls (k : Nat) (a0 : Int) (a1 : Int) (r : Bool) (w : World) (h : pinfoldlaw9_IdentForms.f k a0 a1 = some r) :
    Calls Try.prog 12 #[.int .i64 a0, .int .i64 a1] w fun e w' => e = .returned (.bool r) ∧ Below w.heap.size w w' := by
  have hu54 := Try.underlying54
  have hu65 := Try.underlying65
  have HB := Aside0.mk (Below.refl w.heap.size w)
  have H : ((pinfoldlaw9_awake.f k).bind fun t141 => (if t141 = true then (if 16 ≤ 281474976710656 then (if 0 ≤ (wrap64 (16 + (wrap64 (1 + (Go.bits .and .i64 a1 15))))) then (if (wrap64 (16 + (wrap64 (1 + (Go.bits .and .i64 a1 15)))) : Int).toNat ≤ 281474976710656 then ((some (([(⟨0, 0, 0, 0, 0, 0, 0, 0, 0, 0, (⟨#[]⟩ : ByteArray), ([] : List (S65))⟩ : S54), (⟨0, 0, 0, 0, 0, 0, 0, 0, 0, 0, strOfNums (List.replicate 16 0), ([] : List (S65))⟩ : S54), (⟨0, 0, 0, 0, 0, 0, 0, 0, 0, 0, (⟨#[97]⟩ : ByteArray), (([(⟨61, (⟨#[]⟩ : ByteArray)⟩ : S65)] : List (S65)))⟩ : S54), (⟨0, 0, 0, 0, 0, 0, 0, 0, 0, 0, (⟨#[97]⟩ : ByteArray), (([(⟨61, strOfNums (List.replicate (wrap64 (16 + (wrap64 (1 + (Go.bits .and .i64 a1 15)))) : Int).toNat 0)⟩ : S65)] : List (S65)))⟩ : S54), (⟨wrap64 (255 + (wrap64 (1 + (Go.bits .and .i64 a1 15)))), 0, 0, 0, 0, 0, 0, 0, 0, 0, (⟨#[97]⟩ : ByteArray), ([] : List (S65))⟩ : S54)] : List (S54)) : List (S54))).bind fun y154 => (if 0 ≤ (wrap64 (Int.tmod (IntKind.u64.wrap (a0)) 5)) then (if (wrap64 (Int.tmod (IntKind.u64.wrap (a0)) 5)) < (y154.length : Int) then ((ident_Client.f k ((rd_T54 y154 (wrap64 (Int.tmod (IntKind.u64.wrap (a0)) 5))).f0) ((rd_T54 y154 (wrap64 (Int.tmod (IntKind.u64.wrap (a0)) 5))).f1) ((rd_T54 y154 (wrap64 (Int.tmod (IntKind.u64.wrap (a0)) 5))).f2) ((rd_T54 y154 (wrap64 (Int.tmod (IntKind.u64.wrap (a0)) 5))).f3) ((rd_T54 y154 (wrap64 (Int.tmod (IntKind.u64.wrap (a0)) 5))).f4) ((rd_T54 y154 (wrap64 (Int.tmod (IntKind.u64.wrap (a0)) 5))).f5) ((rd_T54 y154 (wrap64 (Int.tmod (IntKind.u64.wrap (a0)) 5))).f6) ((rd_T54 y154 (wrap64 (Int.tmod (IntKind.u64.wrap (a0)) 5))).f7) ((rd_T54 y154 (wrap64 (Int.tmod (IntKind.u64.wrap (a0)) 5))).f8) ((rd_T54 y154 (wrap64 (Int.tmod (IntKind.u64.wrap (a0)) 5))).f9) ((rd_T54 y154 (wrap64 (Int.tmod (IntKind.u64.wrap (a0)) 5))).f10) ((rd_T54 y154 (wrap64 (Int.tmod (IntKind.u64.wrap (a0)) 5))).f11)).bind fun bt158 => ((ident_Dhcid.f k (strOfNums (List.replicate (wrap64 (16 + (wrap64 (1 + (Go.bits .and .i64 a1 15)))) : Int).toNat 0)) (⟨#[97]⟩ : ByteArray)).bind fun bt163 => ((ident_Dhcid.f k (⟨#[97]⟩ : ByteArray) (⟨#[65]⟩ : ByteArray)).bind fun bt165 => (if bt158.1.toList = ([] : List UInt8) then ((pinfoldlaw0_Num.f bt158.2).bind fun t167 => (if t167 = 900 then ((pinfoldlaw0_Num.f bt163.2).bind fun t168 => (if t168 = 900 then ((pinfoldlaw0_Num.f bt165.2).bind fun t169 => (some (t169 == 900))) else (none))) else (none))) else (none))))) else (none)) else (none))) else (none)) else (none)) else (none)) else (none))) = some r := h
  clear h
  replace H := Option.bind_eq_some_iff.mp H
  obtain ⟨t141, A30, H⟩ := H
  replace H : (if t141 = true then (if 16 ≤ 281474976710656 then (if 0 ≤ (wrap64 (16 + (wrap64 (1 + (Go.bits .and .i64 a1 15))))) then (if (wrap64 (16 + (wrap64 (1 + (Go.bits .and .i64 a1 15)))) : Int).toNat ≤ 281474976710656 then ((some (([(⟨0, 0, 0, 0, 0, 0, 0, 0, 0, 0, (⟨#[]⟩ : ByteArray), ([] : List (S65))⟩ : S54), (⟨0, 0, 0, 0, 0, 0, 0, 0, 0, 0, strOfNums (List.replicate 16 0), ([] : List (S65))⟩ : S54), (⟨0, 0, 0, 0, 0, 0, 0, 0, 0, 0, (⟨#[97]⟩ : ByteArray), (([(⟨61, (⟨#[]⟩ : ByteArray)⟩ : S65)] : List (S65)))⟩ : S54), (⟨0, 0, 0, 0, 0, 0, 0, 0, 0, 0, (⟨#[97]⟩ : ByteArray), (([(⟨61, strOfNums (List.replicate (wrap64 (16 + (wrap64 (1 + (Go.bits .and .i64 a1 15)))) : Int).toNat 0)⟩ : S65)] : List (S65)))⟩ : S54), (⟨wrap64 (255 + (wrap64 (1 + (Go.bits .and .i64 a1 15)))), 0, 0, 0, 0, 0, 0, 0, 0, 0, (⟨#[97]⟩ : ByteArray), ([] : List (S65))⟩ : S54)] : List (S54)) : List (S54))).bind fun y154 => (if 0 ≤ (wrap64 (Int.tmod (IntKind.u64.wrap (a0)) 5)) then (if (wrap64 (Int.tmod (IntKind.u64.wrap (a0)) 5)) < (y154.length : Int) then ((ident_Client.f k ((rd_T54 y154 (wrap64 (Int.tmod (IntKind.u64.wrap (a0)) 5))).f0) ((rd_T54 y154 (wrap64 (Int.tmod (IntKind.u64.wrap (a0)) 5))).f1) ((rd_T54 y154 (wrap64 (Int.tmod (IntKind.u64.wrap (a0)) 5))).f2) ((rd_T54 y154 (wrap64 (Int.tmod (IntKind.u64.wrap (a0)) 5))).f3) ((rd_T54 y154 (wrap64 (Int.tmod (IntKind.u64.wrap (a0)) 5))).f4) ((rd_T54 y154 (wrap64 (Int.tmod (IntKind.u64.wrap (a0)) 5))).f5) ((rd_T54 y154 (wrap64 (Int.tmod (IntKind.u64.wrap (a0)) 5))).f6) ((rd_T54 y154 (wrap64 (Int.tmod (IntKind.u64.wrap (a0)) 5))).f7) ((rd_T54 y154 (wrap64 (Int.tmod (IntKind.u64.wrap (a0)) 5))).f8) ((rd_T54 y154 (wrap64 (Int.tmod (IntKind.u64.wrap (a0)) 5))).f9) ((rd_T54 y154 (wrap64 (Int.tmod (IntKind.u64.wrap (a0)) 5))).f10) ((rd_T54 y154 (wrap64 (Int.tmod (IntKind.u64.wrap (a0)) 5))).f11)).bind fun bt158 => ((ident_Dhcid.f k (strOfNums (List.replicate (wrap64 (16 + (wrap64 (1 + (Go.bits .and .i64 a1 15)))) : Int).toNat 0)) (⟨#[97]⟩ : ByteArray)).bind fun bt163 => ((ident_Dhcid.f k (⟨#[97]⟩ : ByteArray) (⟨#[65]⟩ : ByteArray)).bind fun bt165 => (if bt158.1.toList = ([] : List UInt8) then ((pinfoldlaw0_Num.f bt158.2).bind fun t167 => (if t167 = 900 then ((pinfoldlaw0_Num.f bt163.2).bind fun t168 => (if t168 = 900 then ((pinfoldlaw0_Num.f bt165.2).bind fun t169 => (some (t169 == 900))) else (none))) else (none))) else (none))))) else (none)) else (none))) else (none)) else (none)) else (none)) else (none)) = some r := H
  have A3 := Aside0.mk A30
  clear A30
  by_cases c4 : t141 = true
  · subst c4
    have H1 : (if 16 ≤ 281474976710656 then (if 0 ≤ (wrap64 (16 + (wrap64 (1 + (Go.bits .and .i64 a1 15))))) then (if (wrap64 (16 + (wrap64 (1 + (Go.bits .and .i64 a1 15)))) : Int).toNat ≤ 281474976710656 then ((some (([(⟨0, 0, 0, 0, 0, 0, 0, 0, 0, 0, (⟨#[]⟩ : ByteArray), ([] : List (S65))⟩ : S54), (⟨0, 0, 0, 0, 0, 0, 0, 0, 0, 0, strOfNums (List.replicate 16 0), ([] : List (S65))⟩ : S54), (⟨0, 0, 0, 0, 0, 0, 0, 0, 0, 0, (⟨#[97]⟩ : ByteArray), (([(⟨61, (⟨#[]⟩ : ByteArray)⟩ : S65)] : List (S65)))⟩ : S54), (⟨0, 0, 0, 0, 0, 0, 0, 0, 0, 0, (⟨#[97]⟩ : ByteArray), (([(⟨61, strOfNums (List.replicate (wrap64 (16 + (wrap64 (1 + (Go.bits .and .i64 a1 15)))) : Int).toNat 0)⟩ : S65)] : List (S65)))⟩ : S54), (⟨wrap64 (255 + (wrap64 (1 + (Go.bits .and .i64 a1 15)))), 0, 0, 0, 0, 0, 0, 0, 0, 0, (⟨#[97]⟩ : ByteArray), ([] : List (S65))⟩ : S54)] : List (S54)) : List (S54))).bind fun y154 => (if 0 ≤ (wrap64 (Int.tmod (IntKind.u64.wrap (a0)) 5)) then (if (wrap64 (Int.tmod (IntKind.u64.wrap (a0)) 5)) < (y154.length : Int) then ((ident_Client.f k ((rd_T54 y154 (wrap64 (Int.tmod (IntKind.u64.wrap (a0)) 5))).f0) ((rd_T54 y154 (wrap64 (Int.tmod (IntKind.u64.wrap (a0)) 5))).f1) ((rd_T54 y154 (wrap64 (Int.tmod (IntKind.u64.wrap (a0)) 5))).f2) ((rd_T54 y154 (wrap64 (Int.tmod (IntKind.u64.wrap (a0)) 5))).f3) ((rd_T54 y154 (wrap64 (Int.tmod (IntKind.u64.wrap (a0)) 5))).f4) ((rd_T54 y154 (wrap64 (Int.tmod (IntKind.u64.wrap (a0)) 5))).f5) ((rd_T54 y154 (wrap64 (Int.tmod (IntKind.u64.wrap (a0)) 5))).f6) ((rd_T54 y154 (wrap64 (Int.tmod (IntKind.u64.wrap (a0)) 5))).f7) ((rd_T54 y154 (wrap64 (Int.tmod (IntKind.u64.wrap (a0)) 5))).f8) ((rd_T54 y154 (wrap64 (Int.tmod (IntKind.u64.wrap (a0)) 5))).f9) ((rd_T54 y154 (wrap64 (Int.tmod (IntKind.u64.wrap (a0)) 5))).f10) ((rd_T54 y154 (wrap64 (Int.tmod (IntKind.u64.wrap (a0)) 5))).f11)).bind fun bt158 => ((ident_Dhcid.f k (strOfNums (List.replicate (wrap64 (16 + (wrap64 (1 + (Go.bits .and .i64 a1 15)))) : Int).toNat 0)) (⟨#[97]⟩ : ByteArray)).bind fun bt163 => ((ident_Dhcid.f k (⟨#[97]⟩ : ByteArray) (⟨#[65]⟩ : ByteArray)).bind fun bt165 => (if bt158.1.toList = ([] : List UInt8) then ((pinfoldlaw0_Num.f bt158.2).bind fun t167 => (if t167 = 900 then ((pinfoldlaw0_Num.f bt163.2).bind fun t168 => (if t168 = 900 then ((pinfoldlaw0_Num.f bt165.2).bind fun t169 => (some (t169 == 900))) else (none))) else (none))) else (none))))) else (none)) else (none))) else (none)) else (none)) else (none)) = some r := by rw [if_pos rfl] at H; exact H
    clear H
    have H := H1
    clear H1
    by_cases c5 : 16 ≤ 281474976710656
    rotate_left
    · rw [if_neg c5] at H
      exact absurd H (by simp)
    rw [if_pos c5] at H
    have c5b0 := eq_true c5
    have c5b1 : decide (16 ≤ 281474976710656) = true := decide_eq_true c5
    clear c5
    obtain ⟨y142, hy142⟩ : ∃ y_ : List Int, y_ = (List.replicate 16 0) := ⟨_, rfl⟩
    replace H : (if 0 ≤ (wrap64 (16 + (wrap64 (1 + (Go.bits .and .i64 a1 15))))) then (if (wrap64 (16 + (wrap64 (1 + (Go.bits .and .i64 a1 15)))) : Int).toNat ≤ 281474976710656 then ((some (([(⟨0, 0, 0, 0, 0, 0, 0, 0, 0, 0, (⟨#[]⟩ : ByteArray), ([] : List (S65))⟩ : S54), (⟨0, 0, 0, 0, 0, 0, 0, 0, 0, 0, strOfNums y142, ([] : List (S65))⟩ : S54), (⟨0, 0, 0, 0, 0, 0, 0, 0, 0, 0, (⟨#[97]⟩ : ByteArray), (([(⟨61, (⟨#[]⟩ : ByteArray)⟩ : S65)] : List (S65)))⟩ : S54), (⟨0, 0, 0, 0, 0, 0, 0, 0, 0, 0, (⟨#[97]⟩ : ByteArray), (([(⟨61, strOfNums (List.replicate (wrap64 (16 + (wrap64 (1 + (Go.bits .and .i64 a1 15)))) : Int).toNat 0)⟩ : S65)] : List (S65)))⟩ : S54), (⟨wrap64 (255 + (wrap64 (1 + (Go.bits .and .i64 a1 15)))), 0, 0, 0, 0, 0, 0, 0, 0, 0, (⟨#[97]⟩ : ByteArray), ([] : List (S65))⟩ : S54)] : List (S54)) : List (S54))).bind fun y154 => (if 0 ≤ (wrap64 (Int.tmod (IntKind.u64.wrap (a0)) 5)) then (if (wrap64 (Int.tmod (IntKind.u64.wrap (a0)) 5)) < (y154.length : Int) then ((ident_Client.f k ((rd_T54 y154 (wrap64 (Int.tmod (IntKind.u64.wrap (a0)) 5))).f0) ((rd_T54 y154 (wrap64 (Int.tmod (IntKind.u64.wrap (a0)) 5))).f1) ((rd_T54 y154 (wrap64 (Int.tmod (IntKind.u64.wrap (a0)) 5))).f2) ((rd_T54 y154 (wrap64 (Int.tmod (IntKind.u64.wrap (a0)) 5))).f3) ((rd_T54 y154 (wrap64 (Int.tmod (IntKind.u64.wrap (a0)) 5))).f4) ((rd_T54 y154 (wrap64 (Int.tmod (IntKind.u64.wrap (a0)) 5))).f5) ((rd_T54 y154 (wrap64 (Int.tmod (IntKind.u64.wrap (a0)) 5))).f6) ((rd_T54 y154 (wrap64 (Int.tmod (IntKind.u64.wrap (a0)) 5))).f7) ((rd_T54 y154 (wrap64 (Int.tmod (IntKind.u64.wrap (a0)) 5))).f8) ((rd_T54 y154 (wrap64 (Int.tmod (IntKind.u64.wrap (a0)) 5))).f9) ((rd_T54 y154 (wrap64 (Int.tmod (IntKind.u64.wrap (a0)) 5))).f10) ((rd_T54 y154 (wrap64 (Int.tmod (IntKind.u64.wrap (a0)) 5))).f11)).bind fun bt158 => ((ident_Dhcid.f k (strOfNums (List.replicate (wrap64 (16 + (wrap64 (1 + (Go.bits .and .i64 a1 15)))) : Int).toNat 0)) (⟨#[97]⟩ : ByteArray)).bind fun bt163 => ((ident_Dhcid.f k (⟨#[97]⟩ : ByteArray) (⟨#[65]⟩ : ByteArray)).bind fun bt165 => (if bt158.1.toList = ([] : List UInt8) then ((pinfoldlaw0_Num.f bt158.2).bind fun t167 => (if t167 = 900 then ((pinfoldlaw0_Num.f bt163.2).bind fun t168 => (if t168 = 900 then ((pinfoldlaw0_Num.f bt165.2).bind fun t169 => (some (t169 == 900))) else (none))) else (none))) else (none))))) else (none)) else (none))) else (none)) else (none)) = some r := by first | (rw [hy142]; with_reducible exact H) | (have H2_ := (Option.bind_some _ _).symm.trans H; rw [hy142]; with_reducible exact H2_) | (have H2_ := (Option.bind_some _ _).symm.trans H; with_reducible exact H2_) | with_reducible exact H | (rw [hy142]; exact H) | exact H
    have Ny142 := Aside0.mk hy142
    clear hy142
    obtain ⟨y145, hy145⟩ : ∃ y_ : List (S65), y_ = (([(⟨61, (⟨#[]⟩ : ByteArray)⟩ : S65)] : List (S65))) := ⟨_, rfl⟩
    replace H : (if 0 ≤ (wrap64 (16 + (wrap64 (1 + (Go.bits .and .i64 a1 15))))) then (if (wrap64 (16 + (wrap64 (1 + (Go.bits .and .i64 a1 15)))) : Int).toNat ≤ 281474976710656 then ((some (([(⟨0, 0, 0, 0, 0, 0, 0, 0, 0, 0, (⟨#[]⟩ : ByteArray), ([] : List (S65))⟩ : S54), (⟨0, 0, 0, 0, 0, 0, 0, 0, 0, 0, strOfNums y142, ([] : List (S65))⟩ : S54), (⟨0, 0, 0, 0, 0, 0, 0, 0, 0, 0, (⟨#[97]⟩ : ByteArray), y145⟩ : S54), (⟨0, 0, 0, 0, 0, 0, 0, 0, 0, 0, (⟨#[97]⟩ : ByteArray), (([(⟨61, strOfNums (List.replicate (wrap64 (16 + (wrap64 (1 + (Go.bits .and .i64 a1 15)))) : Int).toNat 0)⟩ : S65)] : List (S65)))⟩ : S54), (⟨wrap64 (255 + (wrap64 (1 + (Go.bits .and .i64 a1 15)))), 0, 0, 0, 0, 0, 0, 0, 0, 0, (⟨#[97]⟩ : ByteArray), ([] : List (S65))⟩ : S54)] : List (S54)) : List (S54))).bind fun y154 => (if 0 ≤ (wrap64 (Int.tmod (IntKind.u64.wrap (a0)) 5)) then (if (wrap64 (Int.tmod (IntKind.u64.wrap (a0)) 5)) < (y154.length : Int) then ((ident_Client.f k ((rd_T54 y154 (wrap64 (Int.tmod (IntKind.u64.wrap (a0)) 5))).f0) ((rd_T54 y154 (wrap64 (Int.tmod (IntKind.u64.wrap (a0)) 5))).f1) ((rd_T54 y154 (wrap64 (Int.tmod (IntKind.u64.wrap (a0)) 5))).f2) ((rd_T54 y154 (wrap64 (Int.tmod (IntKind.u64.wrap (a0)) 5))).f3) ((rd_T54 y154 (wrap64 (Int.tmod (IntKind.u64.wrap (a0)) 5))).f4) ((rd_T54 y154 (wrap64 (Int.tmod (IntKind.u64.wrap (a0)) 5))).f5) ((rd_T54 y154 (wrap64 (Int.tmod (IntKind.u64.wrap (a0)) 5))).f6) ((rd_T54 y154 (wrap64 (Int.tmod (IntKind.u64.wrap (a0)) 5))).f7) ((rd_T54 y154 (wrap64 (Int.tmod (IntKind.u64.wrap (a0)) 5))).f8) ((rd_T54 y154 (wrap64 (Int.tmod (IntKind.u64.wrap (a0)) 5))).f9) ((rd_T54 y154 (wrap64 (Int.tmod (IntKind.u64.wrap (a0)) 5))).f10) ((rd_T54 y154 (wrap64 (Int.tmod (IntKind.u64.wrap (a0)) 5))).f11)).bind fun bt158 => ((ident_Dhcid.f k (strOfNums (List.replicate (wrap64 (16 + (wrap64 (1 + (Go.bits .and .i64 a1 15)))) : Int).toNat 0)) (⟨#[97]⟩ : ByteArray)).bind fun bt163 => ((ident_Dhcid.f k (⟨#[97]⟩ : ByteArray) (⟨#[65]⟩ : ByteArray)).bind fun bt165 => (if bt158.1.toList = ([] : List UInt8) then ((pinfoldlaw0_Num.f bt158.2).bind fun t167 => (if t167 = 900 then ((pinfoldlaw0_Num.f bt163.2).bind fun t168 => (if t168 = 900 then ((pinfoldlaw0_Num.f bt165.2).bind fun t169 => (some (t169 == 900))) else (none))) else (none))) else (none))))) else (none)) else (none))) else (none)) else (none)) = some r := by first | (rw [hy145]; with_reducible exact H) | (have H2_ := (Option.bind_some _ _).symm.trans H; rw [hy145]; with_reducible exact H2_) | (have H2_ := (Option.bind_some _ _).symm.trans H; with_reducible exact H2_) | with_reducible exact H | (rw [hy145]; exact H) | exact H
    have Ny145 := Aside0.mk hy145
    clear hy145
    obtain ⟨ji6, hji6⟩ : ∃ j_ : Int, (wrap64 (16 + (wrap64 (1 + (Go.bits .and .i64 a1 15))))) = j_ := ⟨_, rfl⟩
    replace H : (if 0 ≤ (ji6) then (if (ji6 : Int).toNat ≤ 281474976710656 then ((some (([(⟨0, 0, 0, 0, 0, 0, 0, 0, 0, 0, (⟨#[]⟩ : ByteArray), ([] : List (S65))⟩ : S54), (⟨0, 0, 0, 0, 0, 0, 0, 0, 0, 0, strOfNums y142, ([] : List (S65))⟩ : S54), (⟨0, 0, 0, 0, 0, 0, 0, 0, 0, 0, (⟨#[97]⟩ : ByteArray), y145⟩ : S54), (⟨0, 0, 0, 0, 0, 0, 0, 0, 0, 0, (⟨#[97]⟩ : ByteArray), (([(⟨61, strOfNums (List.replicate (ji6 : Int).toNat 0)⟩ : S65)] : List (S65)))⟩ : S54), (⟨wrap64 (255 + (wrap64 (1 + (Go.bits .and .i64 a1 15)))), 0, 0, 0, 0, 0, 0, 0, 0, 0, (⟨#[97]⟩ : ByteArray), ([] : List (S65))⟩ : S54)] : List (S54)) : List (S54))).bind fun y154 => (if 0 ≤ (wrap64 (Int.tmod (IntKind.u64.wrap (a0)) 5)) then (if (wrap64 (Int.tmod (IntKind.u64.wrap (a0)) 5)) < (y154.length : Int) then ((ident_Client.f k ((rd_T54 y154 (wrap64 (Int.tmod (IntKind.u64.wrap (a0)) 5))).f0) ((rd_T54 y154 (wrap64 (Int.tmod (IntKind.u64.wrap (a0)) 5))).f1) ((rd_T54 y154 (wrap64 (Int.tmod (IntKind.u64.wrap (a0)) 5))).f2) ((rd_T54 y154 (wrap64 (Int.tmod (IntKind.u64.wrap (a0)) 5))).f3) ((rd_T54 y154 (wrap64 (Int.tmod (IntKind.u64.wrap (a0)) 5))).f4) ((rd_T54 y154 (wrap64 (Int.tmod (IntKind.u64.wrap (a0)) 5))).f5) ((rd_T54 y154 (wrap64 (Int.tmod (IntKind.u64.wrap (a0)) 5))).f6) ((rd_T54 y154 (wrap64 (Int.tmod (IntKind.u64.wrap (a0)) 5))).f7) ((rd_T54 y154 (wrap64 (Int.tmod (IntKind.u64.wrap (a0)) 5))).f8) ((rd_T54 y154 (wrap64 (Int.tmod (IntKind.u64.wrap (a0)) 5))).f9) ((rd_T54 y154 (wrap64 (Int.tmod (IntKind.u64.wrap (a0)) 5))).f10) ((rd_T54 y154 (wrap64 (Int.tmod (IntKind.u64.wrap (a0)) 5))).f11)).bind fun bt158 => ((ident_Dhcid.f k (strOfNums (List.replicate (ji6 : Int).toNat 0)) (⟨#[97]⟩ : ByteArray)).bind fun bt163 => ((ident_Dhcid.f k (⟨#[97]⟩ : ByteArray) (⟨#[65]⟩ : ByteArray)).bind fun bt165 => (if bt158.1.toList = ([] : List UInt8) then ((pinfoldlaw0_Num.f bt158.2).bind fun t167 => (if t167 = 900 then ((pinfoldlaw0_Num.f bt163.2).bind fun t168 => (if t168 = 900 then ((pinfoldlaw0_Num.f bt165.2).bind fun t169 => (some (t169 == 900))) else (none))) else (none))) else (none))))) else (none)) else (none))) else (none)) else (none)) = some r := by first | (rw [hji6] at H; exact H) | (simp only [hji6] at H ⊢; exact H)
    (try rw [hji6] at A3)
    have hji6w : (IntKind.i64.wrap (16 + (wrap64 (1 + (Go.bits .and .i64 a1 15))))) = ji6 := (i64_w _).trans hji6
    by_cases c7 : 0 ≤ (ji6)
    rotate_left
    · rw [if_neg c7] at H
      exact absurd H (by simp)
    rw [if_pos c7] at H
    have c7b0 := eq_true c7
    have c7b1 : decide (0 ≤ (ji6)) = true := decide_eq_true c7
    clear c7
    by_cases c8 : (ji6 : Int).toNat ≤ 281474976710656
    rotate_left
    · rw [if_neg c8] at H
      exact absurd H (by simp)
    rw [if_pos c8] at H
    have c8b0 := eq_true c8
    have c8b1 : decide ((ji6 : Int).toNat ≤ 281474976710656) = true := decide_eq_true c8
    clear c8
    obtain ⟨y148, hy148⟩ : ∃ y_ : List Int, y_ = (List.replicate (ji6 : Int).toNat 0) := ⟨_, rfl⟩
    replace H : ((some (([(⟨0, 0, 0, 0, 0, 0, 0, 0, 0, 0, (⟨#[]⟩ : ByteArray), ([] : List (S65))⟩ : S54), (⟨0, 0, 0, 0, 0, 0, 0, 0, 0, 0, strOfNums y142, ([] : List (S65))⟩ : S54), (⟨0, 0, 0, 0, 0, 0, 0, 0, 0, 0, (⟨#[97]⟩ : ByteArray), y145⟩ : S54), (⟨0, 0, 0, 0, 0, 0, 0, 0, 0, 0, (⟨#[97]⟩ : ByteArray), (([(⟨61, strOfNums y148⟩ : S65)] : List (S65)))⟩ : S54), (⟨wrap64 (255 + (wrap64 (1 + (Go.bits .and .i64 a1 15)))), 0, 0, 0, 0, 0, 0, 0, 0, 0, (⟨#[97]⟩ : ByteArray), ([] : List (S65))⟩ : S54)] : List (S54)) : List (S54))).bind fun y154 => (if 0 ≤ (wrap64 (Int.tmod (IntKind.u64.wrap (a0)) 5)) then (if (wrap64 (Int.tmod (IntKind.u64.wrap (a0)) 5)) < (y154.length : Int) then ((ident_Client.f k ((rd_T54 y154 (wrap64 (Int.tmod (IntKind.u64.wrap (a0)) 5))).f0) ((rd_T54 y154 (wrap64 (Int.tmod (IntKind.u64.wrap (a0)) 5))).f1) ((rd_T54 y154 (wrap64 (Int.tmod (IntKind.u64.wrap (a0)) 5))).f2) ((rd_T54 y154 (wrap64 (Int.tmod (IntKind.u64.wrap (a0)) 5))).f3) ((rd_T54 y154 (wrap64 (Int.tmod (IntKind.u64.wrap (a0)) 5))).f4) ((rd_T54 y154 (wrap64 (Int.tmod (IntKind.u64.wrap (a0)) 5))).f5) ((rd_T54 y154 (wrap64 (Int.tmod (IntKind.u64.wrap (a0)) 5))).f6) ((rd_T54 y154 (wrap64 (Int.tmod (IntKind.u64.wrap (a0)) 5))).f7) ((rd_T54 y154 (wrap64 (Int.tmod (IntKind.u64.wrap (a0)) 5))).f8) ((rd_T54 y154 (wrap64 (Int.tmod (IntKind.u64.wrap (a0)) 5))).f9) ((rd_T54 y154 (wrap64 (Int.tmod (IntKind.u64.wrap (a0)) 5))).f10) ((rd_T54 y154 (wrap64 (Int.tmod (IntKind.u64.wrap (a0)) 5))).f11)).bind fun bt158 => ((ident_Dhcid.f k (strOfNums (List.replicate (ji6 : Int).toNat 0)) (⟨#[97]⟩ : ByteArray)).bind fun bt163 => ((ident_Dhcid.f k (⟨#[97]⟩ : ByteArray) (⟨#[65]⟩ : ByteArray)).bind fun bt165 => (if bt158.1.toList = ([] : List UInt8) then ((pinfoldlaw0_Num.f bt158.2).bind fun t167 => (if t167 = 900 then ((pinfoldlaw0_Num.f bt163.2).bind fun t168 => (if t168 = 900 then ((pinfoldlaw0_Num.f bt165.2).bind fun t169 => (some (t169 == 900))) else (none))) else (none))) else (none))))) else (none)) else (none))) = some r := by first | (rw [hy148]; with_reducible exact H) | (have H2_ := (Option.bind_some _ _).symm.trans H; rw [hy148]; with_reducible exact H2_) | (have H2_ := (Option.bind_some _ _).symm.trans H; with_reducible exact H2_) | with_reducible exact H | (rw [hy148]; exact H) | exact H
    have Ny148 := Aside0.mk hy148
    clear hy148
    obtain ⟨y151, hy151⟩ : ∃ y_ : List (S65), y_ = (([(⟨61, strOfNums y148⟩ : S65)] : List (S65))) := ⟨_, rfl⟩
    replace H : ((some (([(⟨0, 0, 0, 0, 0, 0, 0, 0, 0, 0, (⟨#[]⟩ : ByteArray), ([] : List (S65))⟩ : S54), (⟨0, 0, 0, 0, 0, 0, 0, 0, 0, 0, strOfNums y142, ([] : List (S65))⟩ : S54), (⟨0, 0, 0, 0, 0, 0, 0, 0, 0, 0, (⟨#[97]⟩ : ByteArray), y145⟩ : S54), (⟨0, 0, 0, 0, 0, 0, 0, 0, 0, 0, (⟨#[97]⟩ : ByteArray), y151⟩ : S54), (⟨wrap64 (255 + (wrap64 (1 + (Go.bits .and .i64 a1 15)))), 0, 0, 0, 0, 0, 0, 0, 0, 0, (⟨#[97]⟩ : ByteArray), ([] : List (S65))⟩ : S54)] : List (S54)) : List (S54))).bind fun y154 => (if 0 ≤ (wrap64 (Int.tmod (IntKind.u64.wrap (a0)) 5)) then (if (wrap64 (Int.tmod (IntKind.u64.wrap (a0)) 5)) < (y154.length : Int) then ((ident_Client.f k ((rd_T54 y154 (wrap64 (Int.tmod (IntKind.u64.wrap (a0)) 5))).f0) ((rd_T54 y154 (wrap64 (Int.tmod (IntKind.u64.wrap (a0)) 5))).f1) ((rd_T54 y154 (wrap64 (Int.tmod (IntKind.u64.wrap (a0)) 5))).f2) ((rd_T54 y154 (wrap64 (Int.tmod (IntKind.u64.wrap (a0)) 5))).f3) ((rd_T54 y154 (wrap64 (Int.tmod (IntKind.u64.wrap (a0)) 5))).f4) ((rd_T54 y154 (wrap64 (Int.tmod (IntKind.u64.wrap (a0)) 5))).f5) ((rd_T54 y154 (wrap64 (Int.tmod (IntKind.u64.wrap (a0)) 5))).f6) ((rd_T54 y154 (wrap64 (Int.tmod (IntKind.u64.wrap (a0)) 5))).f7) ((rd_T54 y154 (wrap64 (Int.tmod (IntKind.u64.wrap (a0)) 5))).f8) ((rd_T54 y154 (wrap64 (Int.tmod (IntKind.u64.wrap (a0)) 5))).f9) ((rd_T54 y154 (wrap64 (Int.tmod (IntKind.u64.wrap (a0)) 5))).f10) ((rd_T54 y154 (wrap64 (Int.tmod (IntKind.u64.wrap (a0)) 5))).f11)).bind fun bt158 => ((ident_Dhcid.f k (strOfNums (List.replicate (ji6 : Int).toNat 0)) (⟨#[97]⟩ : ByteArray)).bind fun bt163 => ((ident_Dhcid.f k (⟨#[97]⟩ : ByteArray) (⟨#[65]⟩ : ByteArray)).bind fun bt165 => (if bt158.1.toList = ([] : List UInt8) then ((pinfoldlaw0_Num.f bt158.2).bind fun t167 => (if t167 = 900 then ((pinfoldlaw0_Num.f bt163.2).bind fun t168 => (if t168 = 900 then ((pinfoldlaw0_Num.f bt165.2).bind fun t169 => (some (t169 == 900))) else (none))) else (none))) else (none))))) else (none)) else (none))) = some r := by first | (rw [hy151]; with_reducible exact H) | (have H2_ := (Option.bind_some _ _).symm.trans H; rw [hy151]; with_reducible exact H2_) | (have H2_ := (Option.bind_some _ _).symm.trans H; with_reducible exact H2_) | with_reducible exact H | (rw [hy151]; exact H) | exact H
    have Ny151 := Aside0.mk hy151
    clear hy151
    obtain ⟨y154, hy154⟩ : ∃ y_ : List (S54), y_ = (([(⟨0, 0, 0, 0, 0, 0, 0, 0, 0, 0, (⟨#[]⟩ : ByteArray), ([] : List (S65))⟩ : S54), (⟨0, 0, 0, 0, 0, 0, 0, 0, 0, 0, strOfNums y142, ([] : List (S65))⟩ : S54), (⟨0, 0, 0, 0, 0, 0, 0, 0, 0, 0, (⟨#[97]⟩ : ByteArray), y145⟩ : S54), (⟨0, 0, 0, 0, 0, 0, 0, 0, 0, 0, (⟨#[97]⟩ : ByteArray), y151⟩ : S54), (⟨wrap64 (255 + (wrap64 (1 + (Go.bits .and .i64 a1 15)))), 0, 0, 0, 0, 0, 0, 0, 0, 0, (⟨#[97]⟩ : ByteArray), ([] : List (S65))⟩ : S54)] : List (S54))) := ⟨_, rfl⟩
    replace H : (if 0 ≤ (wrap64 (Int.tmod (IntKind.u64.wrap (a0)) 5)) then (if (wrap64 (Int.tmod (IntKind.u64.wrap (a0)) 5)) < (y154.length : Int) then ((ident_Client.f k ((rd_T54 y154 (wrap64 (Int.tmod (IntKind.u64.wrap (a0)) 5))).f0) ((rd_T54 y154 (wrap64 (Int.tmod (IntKind.u64.wrap (a0)) 5))).f1) ((rd_T54 y154 (wrap64 (Int.tmod (IntKind.u64.wrap (a0)) 5))).f2) ((rd_T54 y154 (wrap64 (Int.tmod (IntKind.u64.wrap (a0)) 5))).f3) ((rd_T54 y154 (wrap64 (Int.tmod (IntKind.u64.wrap (a0)) 5))).f4) ((rd_T54 y154 (wrap64 (Int.tmod (IntKind.u64.wrap (a0)) 5))).f5) ((rd_T54 y154 (wrap64 (Int.tmod (IntKind.u64.wrap (a0)) 5))).f6) ((rd_T54 y154 (wrap64 (Int.tmod (IntKind.u64.wrap (a0)) 5))).f7) ((rd_T54 y154 (wrap64 (Int.tmod (IntKind.u64.wrap (a0)) 5))).f8) ((rd_T54 y154 (wrap64 (Int.tmod (IntKind.u64.wrap (a0)) 5))).f9) ((rd_T54 y154 (wrap64 (Int.tmod (IntKind.u64.wrap (a0)) 5))).f10) ((rd_T54 y154 (wrap64 (Int.tmod (IntKind.u64.wrap (a0)) 5))).f11)).bind fun bt158 => ((ident_Dhcid.f k (strOfNums (List.replicate (ji6 : Int).toNat 0)) (⟨#[97]⟩ : ByteArray)).bind fun bt163 => ((ident_Dhcid.f k (⟨#[97]⟩ : ByteArray) (⟨#[65]⟩ : ByteArray)).bind fun bt165 => (if bt158.1.toList = ([] : List UInt8) then ((pinfoldlaw0_Num.f bt158.2).bind fun t167 => (if t167 = 900 then ((pinfoldlaw0_Num.f bt163.2).bind fun t168 => (if t168 = 900 then ((pinfoldlaw0_Num.f bt165.2).bind fun t169 => (some (t169 == 900))) else (none))) else (none))) else (none))))) else (none)) else (none)) = some r := by first | (rw [hy154]; with_reducible exact H) | (have H2_ := (Option.bind_some _ _).symm.trans H; rw [hy154]; with_reducible exact H2_) | (have H2_ := (Option.bind_some _ _).symm.trans H; with_reducible exact H2_) | with_reducible exact H | (rw [hy154]; exact H) | exact H
    have Ny154 := Aside0.mk hy154
    clear hy154
    obtain ⟨ji9, hji9⟩ : ∃ j_ : Int, (wrap64 (Int.tmod (IntKind.u64.wrap (a0)) 5)) = j_ := ⟨_, rfl⟩
    replace H : (if 0 ≤ (ji9) then (if (ji9) < (y154.length : Int) then ((ident_Client.f k ((rd_T54 y154 (ji9)).f0) ((rd_T54 y154 (ji9)).f1) ((rd_T54 y154 (ji9)).f2) ((rd_T54 y154 (ji9)).f3) ((rd_T54 y154 (ji9)).f4) ((rd_T54 y154 (ji9)).f5) ((rd_T54 y154 (ji9)).f6) ((rd_T54 y154 (ji9)).f7) ((rd_T54 y154 (ji9)).f8) ((rd_T54 y154 (ji9)).f9) ((rd_T54 y154 (ji9)).f10) ((rd_T54 y154 (ji9)).f11)).bind fun bt158 => ((ident_Dhcid.f k (strOfNums (List.replicate (ji6 : Int).toNat 0)) (⟨#[97]⟩ : ByteArray)).bind fun bt163 => ((ident_Dhcid.f k (⟨#[97]⟩ : ByteArray) (⟨#[65]⟩ : ByteArray)).bind fun bt165 => (if bt158.1.toList = ([] : List UInt8) then ((pinfoldlaw0_Num.f bt158.2).bind fun t167 => (if t167 = 900 then ((pinfoldlaw0_Num.f bt163.2).bind fun t168 => (if t168 = 900 then ((pinfoldlaw0_Num.f bt165.2).bind fun t169 => (some (t169 == 900))) else (none))) else (none))) else (none))))) else (none)) else (none)) = some r := by first | (rw [hji9] at H; exact H) | (simp only [hji9] at H ⊢; exact H)
    (try rw [hji9] at A3)
    have hji9w : (IntKind.i64.wrap (Int.tmod (IntKind.u64.wrap (a0)) 5)) = ji9 := (i64_w _).trans hji9
    by_cases c10 : 0 ≤ (ji9)
    rotate_left
    · rw [if_neg c10] at H
      exact absurd H (by simp)
    rw [if_pos c10] at H
    have c10b0 : decide (0 ≤ (ji9)) = true := decide_eq_true c10
    clear c10
    by_cases c11 : (ji9) < (y154.length : Int)
    rotate_left
    · rw [if_neg c11] at H
      exact absurd H (by simp)
    rw [if_pos c11] at H
    have c11b0 : decide ((ji9) < (y154.length : Int)) = true := decide_eq_true c11
    clear c11
    replace H := Option.bind_eq_some_iff.mp H
    obtain ⟨⟨t158, t159⟩, A120, H⟩ := H
    replace H : ((ident_Dhcid.f k (strOfNums (List.replicate (ji6 : Int).toNat 0)) (⟨#[97]⟩ : ByteArray)).bind fun bt163 => ((ident_Dhcid.f k (⟨#[97]⟩ : ByteArray) (⟨#[65]⟩ : ByteArray)).bind fun bt165 => (if t158.toList = ([] : List UInt8) then ((pinfoldlaw0_Num.f t159).bind fun t167 => (if t167 = 900 then ((pinfoldlaw0_Num.f bt163.2).bind fun t168 => (if t168 = 900 then ((pinfoldlaw0_Num.f bt165.2).bind fun t169 => (some (t169 == 900))) else (none))) else (none))) else (none)))) = some r := H
    have A12 := Aside0.mk A120
    clear A120
    obtain ⟨y160, hy160⟩ : ∃ y_ : List Int, y_ = (List.replicate (ji6 : Int).toNat 0) := ⟨_, rfl⟩
    replace H : ((ident_Dhcid.f k (strOfNums y160) (⟨#[97]⟩ : ByteArray)).bind fun bt163 => ((ident_Dhcid.f k (⟨#[97]⟩ : ByteArray) (⟨#[65]⟩ : ByteArray)).bind fun bt165 => (if t158.toList = ([] : List UInt8) then ((pinfoldlaw0_Num.f t159).bind fun t167 => (if t167 = 900 then ((pinfoldlaw0_Num.f bt163.2).bind fun t168 => (if t168 = 900 then ((pinfoldlaw0_Num.f bt165.2).bind fun t169 => (some (t169 == 900))) else (none))) else (none))) else (none)))) = some r := by first | (rw [hy160]; with_reducible exact H) | (have H2_ := (Option.bind_some _ _).symm.trans H; rw [hy160]; with_reducible exact H2_) | (have H2_ := (Option.bind_some _ _).symm.trans H; with_reducible exact H2_) | with_reducible exact H | (rw [hy160]; exact H) | exact H
    have Ny160 := Aside0.mk hy160
    clear hy160
    replace H := Option.bind_eq_some_iff.mp H
    obtain ⟨⟨t163, t164⟩, A130, H⟩ := H
    replace H : ((ident_Dhcid.f k (⟨#[97]⟩ : ByteArray) (⟨#[65]⟩ : ByteArray)).bind fun bt165 => (if t158.toList = ([] : List UInt8) then ((pinfoldlaw0_Num.f t159).bind fun t167 => (if t167 = 900 then ((pinfoldlaw0_Num.f t164).bind fun t168 => (if t168 = 900 then ((pinfoldlaw0_Num.f bt165.2).bind fun t169 => (some (t169 == 900))) else (none))) else (none))) else (none))) = some r := H
    have A13 := Aside0.mk A130
    clear A130
    replace H := Option.bind_eq_some_iff.mp H
    obtain ⟨⟨t165, t166⟩, A140, H⟩ := H
    replace H : (if t158.toList = ([] : List UInt8) then ((pinfoldlaw0_Num.f t159).bind fun t167 => (if t167 = 900 then ((pinfoldlaw0_Num.f t164).bind fun t168 => (if t168 = 900 then ((pinfoldlaw0_Num.f t166).bind fun t169 => (some (t169 == 900))) else (none))) else (none))) else (none)) = some r := H
    have A14 := Aside0.mk A140
    clear A140
    by_cases c15 : t158.toList = ([] : List UInt8)
    rotate_left
    · rw [if_neg c15] at H
      exact absurd H (by simp)
    rw [if_pos c15] at H
    have c15b0 : (t158.toList == ([] : List UInt8)) = true := beq_iff_eq.mpr c15
    have c15b1 : (t158.toList != ([] : List UInt8)) = false := bne_eq_false_iff_eq.mpr c15
    clear c15
    replace H := Option.bind_eq_some_iff.mp H
    obtain ⟨t167, A160, H⟩ := H
    replace H : (if t167 = 900 then ((pinfoldlaw0_Num.f t164).bind fun t168 => (if t168 = 900 then ((pinfoldlaw0_Num.f t166).bind fun t169 => (some (t169 == 900))) else (none))) else (none)) = some r := H
    have A16 := Aside0.mk A160
    clear A160
    by_cases c17 : t167 = 900
    rotate_left
    · rw [if_neg c17] at H
      exact absurd H (by simp)
    rw [if_pos c17] at H
    have c17b0 : (t167 == 900) = true := beq_iff_eq.mpr c17
    have c17b1 : (t167 != 900) = false := bne_eq_false_iff_eq.mpr c17
    clear c17
    replace H := Option.bind_eq_some_iff.mp H
    obtain ⟨t168, A180, H⟩ := H
    replace H : (if t168 = 900 then ((pinfoldlaw0_Num.f t166).bind fun t169 => (some (t169 == 900))) else (none)) = some r := H
    have A18 := Aside0.mk A180
    clear A180
    by_cases c19 : t168 = 900
    rotate_left
    · rw [if_neg c19] at H
      exact absurd H (by simp)
    rw [if_pos c19] at H
    have c19b0 : (t168 == 900) = true := beq_iff_eq.mpr c19
    have c19b1 : (t168 != 900) = false := bne_eq_false_iff_eq.mpr c19
    clear c19
    replace H := Option.bind_eq_some_iff.mp H
    obtain ⟨t169, A200, H⟩ := H
    replace H : (some (t169 == 900)) = some r := H
    have A20 := Aside0.mk A200
    clear A200
    obtain rfl := Option.some.inj H
    go_enter Try.func12, Try.ntmps12
    try go_wp2_with (first | ((with_reducible refine gate_callee (f := 35) rfl ?_); refine goesL_ (some 13) rfl rfl Try.func35 (by kernel_rfl) rfl #[] rfl (by (try simp only [List.map_toArray, List.map_cons, List.map_nil]); first | done | rfl | (simp only [List.length_drop, List.length_take]; rfl)) ?_; (with_reducible refine (pinfoldlaw9_awake.calls k  true _ A3.out).mono ?_); rintro e w21 ⟨rfl, hb⟩; refine ⟨_, rfl, ?_⟩; have n0_ := Aside0.mk (below_step (by repeat (with_reducible first | exact HB.out | apply below_alloc | apply pw_below_drewN | apply below_drew1)) hb); clear HB; have HB := n0_; clear n0_; (try clear hb)))
    have n0_ := Aside0.mk (below_drew1 HB.out)
    clear HB
    have HB := n0_
    clear n0_
    refine start_ (n := 19) (S := fun w' => True) (ds := []) #[false, false, false, false, false, false, false, false, false, false, false, false, false, false, false, false, false, false, false] (by kernel_rfl) rfl rfl trivial (fun hHeld => ?_); refine with_tabW pinfoldlaw9_IdentForms.tab4 pinfoldlaw9_IdentForms.bits4 (fun HT_ HW_ => ?_)
    generalize w21.drew = w22 at HB hHeld ⊢
    refine pure_ (i := 0) (N := some 18) (v := ?_) (a' := ?_) #[true, false, false, false, false, false, false, false, false, false, false, false, false, false, false, false, false, false, false] rfl rfl (any_of HT_.out (by kernel_rfl)) (fun _ _ _ h => h) (Or.inl ⟨by rfl, ?_⟩) ?_ ?_
    rotate_left
    · intro w'
      go_simp
      with_reducible rfl
    rotate_left
    · simp only [Act.put, List.setIfInBounds_toArray, List.set_cons_zero, List.set_cons_succ, i64_w, i32_w]
      rfl
    refine pure_ (i := 4) (N := some 22) (v := ?_) (a' := ?_) #[true, false, false, false, true, false, false, false, false, false, false, false, false, false, false, false, false, false, false] rfl rfl (any_of HT_.out (by kernel_rfl)) (fun _ _ _ h => h) (Or.inl ⟨by rfl, ?_⟩) ?_ ?_
    rotate_left
    · intro w'
      go_simp
      with_reducible rfl
    rotate_left
    · simp only [Act.put, List.setIfInBounds_toArray, List.set_cons_zero, List.set_cons_succ, i64_w, i32_w]
      rfl
    refine pure_ (i := 7) (N := some 25) (v := ?_) (a' := ?_) #[true, false, false, false, true, false, false, true, false, false, false, false, false, false, false, false, false, false, false] rfl rfl (any_of HT_.out (by kernel_rfl)) (fun _ _ _ h => h) (Or.inl ⟨by rfl, ?_⟩) ?_ ?_
    rotate_left
    · intro w'
      go_simp
      with_reducible rfl
    rotate_left
    · simp only [Act.put, List.setIfInBounds_toArray, List.set_cons_zero, List.set_cons_succ, i64_w, i32_w]
      rfl
    refine pure_ (i := 8) (N := some 26) (v := ?_) (a' := ?_) #[true, false, false, false, true, false, false, true, true, false, false, false, false, false, false, false, false, false, false] rfl rfl (any_of HT_.out (by kernel_rfl)) (fun _ _ _ h => h) (Or.inl ⟨by rfl, ?_⟩) ?_ ?_
    rotate_left
    · intro w'
      go_simp
      with_reducible rfl
    rotate_left
    · simp only [Act.put, List.setIfInBounds_toArray, List.set_cons_zero, List.set_cons_succ, i64_w, i32_w]
      rfl
    refine pure_ (i := 14) (N := some 32) (v := ?_) (a' := ?_) #[true, false, false, false, true, false, false, true, true, false, false, false, false, false, true, false, false, false, false] rfl rfl (any_of HT_.out (by kernel_rfl)) (fun _ _ _ h => h) (Or.inl ⟨by rfl, ?_⟩) ?_ ?_
    rotate_left
    · intro w'
      go_simp
      with_reducible rfl
    rotate_left
    · simp only [Act.put, List.setIfInBounds_toArray, List.set_cons_zero, List.set_cons_succ, i64_w, i32_w]
      rfl
    refine pure_ (i := 15) (N := some 33) (v := ?_) (a' := ?_) #[true, false, false, false, true, false, false, true, true, false, false, false, false, false, true, true, false, false, false] rfl rfl (any_of HT_.out (by kernel_rfl)) (fun _ _ _ h => h) (Or.inl ⟨by rfl, ?_⟩) ?_ ?_
    rotate_left
    · intro w'
      go_simp
      with_reducible rfl
    rotate_left
    · simp only [Act.put, List.setIfInBounds_toArray, List.set_cons_zero, List.set_cons_succ, i64_w, i32_w]
      rfl
    refine pure_ (i := 16) (N := some 34) (v := ?_) (a' := ?_) #[true, false, false, false, true, false, false, true, true, false, false, false, false, false, true, true, true, false, false] rfl rfl (any_of HT_.out (by kernel_rfl)) (fun _ _ _ h => h) (Or.inl ⟨by rfl, ?_⟩) ?_ ?_
    rotate_left
    · intro w'
      go_simp
      with_reducible rfl
    rotate_left
    · simp only [Act.put, List.setIfInBounds_toArray, List.set_cons_zero, List.set_cons_succ, i64_w, i32_w]
      rfl
    refine join_ (σ := Value × Value × Value × Value) 2 #[true, true, true, true, true, true, true, true, true, true, true, true, true, true, true, true, true, false, false] (fun s_ => [(19, s_.1), (20, .string (strOfNums y142)), (23, s_.2.1), (27, s_.2.2.1), (28, .string (strOfNums y148)), (30, s_.2.2.2), (21, .agg #[.int .i64 0, .int .i64 0, .int .i64 0, .int .i64 0, .int .i64 0, .int .i64 0, .int .i64 0, .int .i64 0, .int .i64 0, .int .i64 0, .string (strOfNums y142), .slice none 0 0]), (24, .agg #[.int .i64 0, .int .i64 0, .int .i64 0, .int .i64 0, .int .i64 0, .int .i64 0, .int .i64 0, .int .i64 0, .int .i64 0, .int .i64 0, .string (⟨#[97]⟩ : ByteArray), s_.2.1]), (29, .agg #[.int .i64 61, .string (strOfNums y148)]), (31, .agg #[.int .i64 0, .int .i64 0, .int .i64 0, .int .i64 0, .int .i64 0, .int .i64 0, .int .i64 0, .int .i64 0, .int .i64 0, .int .i64 0, .string (⟨#[97]⟩ : ByteArray), s_.2.2.2])]) (fun s_ w' => (Kd.R (Kd.int .u8) 5 w' w.heap.size (fun k_ => some k_ ≠ (s_.2.2.1 : Value).ownBlock) s_.1 y142) ∧ (Kd.R k65 65 w' w.heap.size (fun k_ => some k_ ≠ (s_.2.2.2 : Value).ownBlock) s_.2.1 y145) ∧ (Kd.R (Kd.int .u8) 5 w' w.heap.size (fun k_ => some k_ ≠ (s_.1 : Value).ownBlock) s_.2.2.1 y148) ∧ (Kd.R k65 65 w' w.heap.size (fun k_ => some k_ ≠ (s_.2.1 : Value).ownBlock) s_.2.2.2 y151) ∧ (Below w.heap.size w w')) ?_ ?_
    rotate_left
    · intro hJ1_2_5_9_10_12
      refine join_ (σ := Value × Value × Value) 4 #[true, true, true, true, true, true, true, true, true, true, true, true, false, false, true, true, true, false, false] (fun s_ => [(19, s_.1), (20, .string (strOfNums y142)), (23, s_.2.1), (27, s_.2.2), (28, .string (strOfNums y148)), (21, .agg #[.int .i64 0, .int .i64 0, .int .i64 0, .int .i64 0, .int .i64 0, .int .i64 0, .int .i64 0, .int .i64 0, .int .i64 0, .int .i64 0, .string (strOfNums y142), .slice none 0 0]), (24, .agg #[.int .i64 0, .int .i64 0, .int .i64 0, .int .i64 0, .int .i64 0, .int .i64 0, .int .i64 0, .int .i64 0, .int .i64 0, .int .i64 0, .string (⟨#[97]⟩ : ByteArray), s_.2.1]), (29, .agg #[.int .i64 61, .string (strOfNums y148)])]) (fun s_ w' => (Kd.R (Kd.int .u8) 5 w' w.heap.size (fun k_ => some k_ ≠ (s_.2.2 : Value).ownBlock) s_.1 y142) ∧ (Kd.R k65 65 w' w.heap.size (fun _ => True) s_.2.1 y145) ∧ (Kd.R (Kd.int .u8) 5 w' w.heap.size (fun k_ => some k_ ≠ (s_.1 : Value).ownBlock) s_.2.2 y148) ∧ (Below w.heap.size w w')) ?_ ?_
      rotate_left
      · intro hJ1_2_5_9_10
        refine join_ (σ := Value × Value × Value) 4 #[true, true, true, true, true, false, false, true, true, true, true, true, true, true, true, true, true, false, false] (fun s_ => [(19, s_.1), (20, .string (strOfNums y142)), (27, s_.2.1), (28, .string (strOfNums y148)), (30, s_.2.2), (21, .agg #[.int .i64 0, .int .i64 0, .int .i64 0, .int .i64 0, .int .i64 0, .int .i64 0, .int .i64 0, .int .i64 0, .int .i64 0, .int .i64 0, .string (strOfNums y142), .slice none 0 0]), (29, .agg #[.int .i64 61, .string (strOfNums y148)]), (31, .agg #[.int .i64 0, .int .i64 0, .int .i64 0, .int .i64 0, .int .i64 0, .int .i64 0, .int .i64 0, .int .i64 0, .int .i64 0, .int .i64 0, .string (⟨#[97]⟩ : ByteArray), s_.2.2])]) (fun s_ w' => (Kd.R (Kd.int .u8) 5 w' w.heap.size (fun k_ => some k_ ≠ (s_.2.1 : Value).ownBlock) s_.1 y142) ∧ (Kd.R (Kd.int .u8) 5 w' w.heap.size (fun k_ => some k_ ≠ (s_.1 : Value).ownBlock) s_.2.1 y148) ∧ (Kd.R k65 65 w' w.heap.size (fun _ => True) s_.2.2 y151) ∧ (Below w.heap.size w w')) ?_ ?_
        rotate_left
        · intro hJ1_2_9_10_12
          refine join_ (σ := Value × Value × Value × Value) 4 #[true, true, false, false, true, true, true, true, true, true, true, true, true, true, true, true, true, false, false] (fun s_ => [(19, s_.1), (23, s_.2.1), (27, s_.2.2.1), (28, .string (strOfNums y148)), (30, s_.2.2.2), (24, .agg #[.int .i64 0, .int .i64 0, .int .i64 0, .int .i64 0, .int .i64 0, .int .i64 0, .int .i64 0, .int .i64 0, .int .i64 0, .int .i64 0, .string (⟨#[97]⟩ : ByteArray), s_.2.1]), (29, .agg #[.int .i64 61, .string (strOfNums y148)]), (31, .agg #[.int .i64 0, .int .i64 0, .int .i64 0, .int .i64 0, .int .i64 0, .int .i64 0, .int .i64 0, .int .i64 0, .int .i64 0, .int .i64 0, .string (⟨#[97]⟩ : ByteArray), s_.2.2.2])]) (fun s_ w' => (Kd.R (Kd.int .u8) 5 w' w.heap.size (fun k_ => some k_ ≠ (s_.2.2.1 : Value).ownBlock) s_.1 y142) ∧ (Kd.R k65 65 w' w.heap.size (fun k_ => some k_ ≠ (s_.2.2.2 : Value).ownBlock) s_.2.1 y145) ∧ (Kd.R (Kd.int .u8) 5 w' w.heap.size (fun k_ => some k_ ≠ (s_.1 : Value).ownBlock) s_.2.2.1 y148) ∧ (Kd.R k65 65 w' w.heap.size (fun k_ => some k_ ≠ (s_.2.1 : Value).ownBlock) s_.2.2.2 y151) ∧ (Below w.heap.size w w')) ?_ ?_
          rotate_left
          · intro hJ1_5_9_10_12
            refine join_ (σ := Value × Value × Value) 6 #[true, true, true, true, true, true, true, true, true, true, false, false, false, false, true, true, true, false, false] (fun s_ => [(19, s_.1), (20, .string (strOfNums y142)), (23, s_.2.1), (27, s_.2.2), (21, .agg #[.int .i64 0, .int .i64 0, .int .i64 0, .int .i64 0, .int .i64 0, .int .i64 0, .int .i64 0, .int .i64 0, .int .i64 0, .int .i64 0, .string (strOfNums y142), .slice none 0 0]), (24, .agg #[.int .i64 0, .int .i64 0, .int .i64 0, .int .i64 0, .int .i64 0, .int .i64 0, .int .i64 0, .int .i64 0, .int .i64 0, .int .i64 0, .string (⟨#[97]⟩ : ByteArray), s_.2.1])]) (fun s_ w' => (Kd.R (Kd.int .u8) 5 w' w.heap.size (fun k_ => some k_ ≠ (s_.2.2 : Value).ownBlock) s_.1 y142) ∧ (Kd.R k65 65 w' w.heap.size (fun _ => True) s_.2.1 y145) ∧ (Kd.R (Kd.int .u8) 5 w' w.heap.size (fun k_ => some k_ ≠ (s_.1 : Value).ownBlock) s_.2.2 y148) ∧ (Below w.heap.size w w')) ?_ ?_
            rotate_left
            · intro hJ1_2_5_9
              refine join_ (σ := Value × Value) 6 #[true, true, true, true, true, false, false, true, true, true, true, true, false, false, true, true, true, false, false] (fun s_ => [(19, s_.1), (20, .string (strOfNums y142)), (27, s_.2), (28, .string (strOfNums y148)), (21, .agg #[.int .i64 0, .int .i64 0, .int .i64 0, .int .i64 0, .int .i64 0, .int .i64 0, .int .i64 0, .int .i64 0, .int .i64 0, .int .i64 0, .string (strOfNums y142), .slice none 0 0]), (29, .agg #[.int .i64 61, .string (strOfNums y148)])]) (fun s_ w' => (Kd.R (Kd.int .u8) 5 w' w.heap.size (fun k_ => some k_ ≠ (s_.2 : Value).ownBlock) s_.1 y142) ∧ (Kd.R (Kd.int .u8) 5 w' w.heap.size (fun k_ => some k_ ≠ (s_.1 : Value).ownBlock) s_.2 y148) ∧ (Below w.heap.size w w')) ?_ ?_
              rotate_left
              · intro hJ1_2_9_10
                refine join_ (σ := Value × Value × Value) 6 #[true, true, false, false, true, true, true, true, true, true, true, true, false, false, true, true, true, false, false] (fun s_ => [(19, s_.1), (23, s_.2.1), (27, s_.2.2), (28, .string (strOfNums y148)), (24, .agg #[.int .i64 0, .int .i64 0, .int .i64 0, .int .i64 0, .int .i64 0, .int .i64 0, .int .i64 0, .int .i64 0, .int .i64 0, .int .i64 0, .string (⟨#[97]⟩ : ByteArray), s_.2.1]), (29, .agg #[.int .i64 61, .string (strOfNums y148)])]) (fun s_ w' => (Kd.R (Kd.int .u8) 5 w' w.heap.size (fun k_ => some k_ ≠ (s_.2.2 : Value).ownBlock) s_.1 y142) ∧ (Kd.R k65 65 w' w.heap.size (fun _ => True) s_.2.1 y145) ∧ (Kd.R (Kd.int .u8) 5 w' w.heap.size (fun k_ => some k_ ≠ (s_.1 : Value).ownBlock) s_.2.2 y148) ∧ (Below w.heap.size w w')) ?_ ?_
                rotate_left
                · intro hJ1_5_9_10
                  refine join_ (σ := Value × Value × Value) 6 #[true, true, false, false, true, false, false, true, true, true, true, true, true, true, true, true, true, false, false] (fun s_ => [(19, s_.1), (27, s_.2.1), (28, .string (strOfNums y148)), (30, s_.2.2), (29, .agg #[.int .i64 61, .string (strOfNums y148)]), (31, .agg #[.int .i64 0, .int .i64 0, .int .i64 0, .int .i64 0, .int .i64 0, .int .i64 0, .int .i64 0, .int .i64 0, .int .i64 0, .int .i64 0, .string (⟨#[97]⟩ : ByteArray), s_.2.2])]) (fun s_ w' => (Kd.R (Kd.int .u8) 5 w' w.heap.size (fun k_ => some k_ ≠ (s_.2.1 : Value).ownBlock) s_.1 y142) ∧ (Kd.R (Kd.int .u8) 5 w' w.heap.size (fun k_ => some k_ ≠ (s_.1 : Value).ownBlock) s_.2.1 y148) ∧ (Kd.R k65 65 w' w.heap.size (fun _ => True) s_.2.2 y151) ∧ (Below w.heap.size w w')) ?_ ?_
                  rotate_left
                  · intro hJ1_9_10_12
                    refine join_ (σ := Value × Value × Value) 5 #[true, false, false, false, true, true, true, true, true, true, true, true, true, true, true, true, true, false, false] (fun s_ => [(23, s_.1), (27, s_.2.1), (28, .string (strOfNums y148)), (30, s_.2.2), (24, .agg #[.int .i64 0, .int .i64 0, .int .i64 0, .int .i64 0, .int .i64 0, .int .i64 0, .int .i64 0, .int .i64 0, .int .i64 0, .int .i64 0, .string (⟨#[97]⟩ : ByteArray), s_.1]), (29, .agg #[.int .i64 61, .string (strOfNums y148)]), (31, .agg #[.int .i64 0, .int .i64 0, .int .i64 0, .int .i64 0, .int .i64 0, .int .i64 0, .int .i64 0, .int .i64 0, .int .i64 0, .int .i64 0, .string (⟨#[97]⟩ : ByteArray), s_.2.2])]) (fun s_ w' => (Kd.R k65 65 w' w.heap.size (fun k_ => some k_ ≠ (s_.2.2 : Value).ownBlock) s_.1 y145) ∧ (Kd.R (Kd.int .u8) 5 w' w.heap.size (fun _ => True) s_.2.1 y148) ∧ (Kd.R k65 65 w' w.heap.size (fun k_ => some k_ ≠ (s_.1 : Value).ownBlock) s_.2.2 y151) ∧ (Below w.heap.size w w')) ?_ ?_
                    rotate_left
                    · intro hJ5_9_10_12
                      refine join_ (σ := Value × Value) 7 #[true, true, true, true, true, true, true, true, true, false, false, false, false, false, true, true, true, false, false] (fun s_ => [(19, s_.1), (20, .string (strOfNums y142)), (23, s_.2), (21, .agg #[.int .i64 0, .int .i64 0, .int .i64 0, .int .i64 0, .int .i64 0, .int .i64 0, .int .i64 0, .int .i64 0, .int .i64 0, .int .i64 0, .string (strOfNums y142), .slice none 0 0]), (24, .agg #[.int .i64 0, .int .i64 0, .int .i64 0, .int .i64 0, .int .i64 0, .int .i64 0, .int .i64 0, .int .i64 0, .int .i64 0, .int .i64 0, .string (⟨#[97]⟩ : ByteArray), s_.2])]) (fun s_ w' => (Kd.R (Kd.int .u8) 5 w' w.heap.size (fun _ => True) s_.1 y142) ∧ (Kd.R k65 65 w' w.heap.size (fun _ => True) s_.2 y145) ∧ (Below w.heap.size w w')) ?_ ?_
                      rotate_left
                      · intro hJ1_2_5
                        refine join_ (σ := Value × Value) 8 #[true, true, true, true, true, false, false, true, true, true, false, false, false, false, true, true, true, false, false] (fun s_ => [(19, s_.1), (20, .string (strOfNums y142)), (27, s_.2), (21, .agg #[.int .i64 0, .int .i64 0, .int .i64 0, .int .i64 0, .int .i64 0, .int .i64 0, .int .i64 0, .int .i64 0, .int .i64 0, .int .i64 0, .string (strOfNums y142), .slice none 0 0])]) (fun s_ w' => (Kd.R (Kd.int .u8) 5 w' w.heap.size (fun k_ => some k_ ≠ (s_.2 : Value).ownBlock) s_.1 y142) ∧ (Kd.R (Kd.int .u8) 5 w' w.heap.size (fun k_ => some k_ ≠ (s_.1 : Value).ownBlock) s_.2 y148) ∧ (Below w.heap.size w w')) ?_ ?_
                        rotate_left
                        · intro hJ1_2_9
                          refine join_ (σ := Value × Value × Value) 8 #[true, true, false, false, true, true, true, true, true, true, false, false, false, false, true, true, true, false, false] (fun s_ => [(19, s_.1), (23, s_.2.1), (27, s_.2.2), (24, .agg #[.int .i64 0, .int .i64 0, .int .i64 0, .int .i64 0, .int .i64 0, .int .i64 0, .int .i64 0, .int .i64 0, .int .i64 0, .int .i64 0, .string (⟨#[97]⟩ : ByteArray), s_.2.1])]) (fun s_ w' => (Kd.R (Kd.int .u8) 5 w' w.heap.size (fun k_ => some k_ ≠ (s_.2.2 : Value).ownBlock) s_.1 y142) ∧ (Kd.R k65 65 w' w.heap.size (fun _ => True) s_.2.1 y145) ∧ (Kd.R (Kd.int .u8) 5 w' w.heap.size (fun k_ => some k_ ≠ (s_.1 : Value).ownBlock) s_.2.2 y148) ∧ (Below w.heap.size w w')) ?_ ?_
                          rotate_left
                          · intro hJ1_5_9
                            refine join_ (σ := Value × Value) 8 #[true, true, false, false, true, false, false, true, true, true, true, true, false, false, true, true, true, false, false] (fun s_ => [(19, s_.1), (27, s_.2), (28, .string (strOfNums y148)), (29, .agg #[.int .i64 61, .string (strOfNums y148)])]) (fun s_ w' => (Kd.R (Kd.int .u8) 5 w' w.heap.size (fun k_ => some k_ ≠ (s_.2 : Value).ownBlock) s_.1 y142) ∧ (Kd.R (Kd.int .u8) 5 w' w.heap.size (fun k_ => some k_ ≠ (s_.1 : Value).ownBlock) s_.2 y148) ∧ (Below w.heap.size w w')) ?_ ?_
                            rotate_left
                            · intro hJ1_9_10
                              refine join_ (σ := Value × Value) 7 #[true, false, false, false, true, true, true, true, true, true, true, true, false, false, true, true, true, false, false] (fun s_ => [(23, s_.1), (27, s_.2), (28, .string (strOfNums y148)), (24, .agg #[.int .i64 0, .int .i64 0, .int .i64 0, .int .i64 0, .int .i64 0, .int .i64 0, .int .i64 0, .int .i64 0, .int .i64 0, .int .i64 0, .string (⟨#[97]⟩ : ByteArray), s_.1]), (29, .agg #[.int .i64 61, .string (strOfNums y148)])]) (fun s_ w' => (Kd.R k65 65 w' w.heap.size (fun _ => True) s_.1 y145) ∧ (Kd.R (Kd.int .u8) 5 w' w.heap.size (fun _ => True) s_.2 y148) ∧ (Below w.heap.size w w')) ?_ ?_
                              rotate_left
                              · intro hJ5_9_10
                                refine join_ (σ := Value × Value) 7 #[true, false, false, false, true, false, false, true, true, true, true, true, true, true, true, true, true, false, false] (fun s_ => [(27, s_.1), (28, .string (strOfNums y148)), (30, s_.2), (29, .agg #[.int .i64 61, .string (strOfNums y148)]), (31, .agg #[.int .i64 0, .int .i64 0, .int .i64 0, .int .i64 0, .int .i64 0, .int .i64 0, .int .i64 0, .int .i64 0, .int .i64 0, .int .i64 0, .string (⟨#[97]⟩ : ByteArray), s_.2])]) (fun s_ w' => (Kd.R (Kd.int .u8) 5 w' w.heap.size (fun _ => True) s_.1 y148) ∧ (Kd.R k65 65 w' w.heap.size (fun _ => True) s_.2 y151) ∧ (Below w.heap.size w w')) ?_ ?_
                                rotate_left
                                · intro hJ9_10_12
                                  refine join_ (σ := Value) 9 #[true, true, true, true, true, false, false, true, true, false, false, false, false, false, true, true, true, false, false] (fun s_ => [(19, s_), (20, .string (strOfNums y142)), (21, .agg #[.int .i64 0, .int .i64 0, .int .i64 0, .int .i64 0, .int .i64 0, .int .i64 0, .int .i64 0, .int .i64 0, .int .i64 0, .int .i64 0, .string (strOfNums y142), .slice none 0 0])]) (fun s_ w' => (Kd.R (Kd.int .u8) 5 w' w.heap.size (fun _ => True) s_ y142) ∧ (Below w.heap.size w w')) ?_ ?_
                                  rotate_left
                                  · intro hJ1_2
                                    refine join_ (σ := Value × Value) 9 #[true, true, false, false, true, true, true, true, true, false, false, false, false, false, true, true, true, false, false] (fun s_ => [(19, s_.1), (23, s_.2), (24, .agg #[.int .i64 0, .int .i64 0, .int .i64 0, .int .i64 0, .int .i64 0, .int .i64 0, .int .i64 0, .int .i64 0, .int .i64 0, .int .i64 0, .string (⟨#[97]⟩ : ByteArray), s_.2])]) (fun s_ w' => (Kd.R (Kd.int .u8) 5 w' w.heap.size (fun _ => True) s_.1 y142) ∧ (Kd.R k65 65 w' w.heap.size (fun _ => True) s_.2 y145) ∧ (Below w.heap.size w w')) ?_ ?_
                                    rotate_left
                                    · intro hJ1_5
                                      refine join_ (σ := Value × Value) 10 #[true, true, false, false, true, false, false, true, true, true, false, false, false, false, true, true, true, false, false] (fun s_ => [(19, s_.1), (27, s_.2)]) (fun s_ w' => (Kd.R (Kd.int .u8) 5 w' w.heap.size (fun k_ => some k_ ≠ (s_.2 : Value).ownBlock) s_.1 y142) ∧ (Kd.R (Kd.int .u8) 5 w' w.heap.size (fun k_ => some k_ ≠ (s_.1 : Value).ownBlock) s_.2 y148) ∧ (Below w.heap.size w w')) ?_ ?_
                                      rotate_left
                                      · intro hJ1_9
                                        refine join_ (σ := Value × Value) 9 #[true, false, false, false, true, true, true, true, true, true, false, false, false, false, true, true, true, false, false] (fun s_ => [(23, s_.1), (27, s_.2), (24, .agg #[.int .i64 0, .int .i64 0, .int .i64 0, .int .i64 0, .int .i64 0, .int .i64 0, .int .i64 0, .int .i64 0, .int .i64 0, .int .i64 0, .string (⟨#[97]⟩ : ByteArray), s_.1])]) (fun s_ w' => (Kd.R k65 65 w' w.heap.size (fun _ => True) s_.1 y145) ∧ (Kd.R (Kd.int .u8) 5 w' w.heap.size (fun _ => True) s_.2 y148) ∧ (Below w.heap.size w w')) ?_ ?_
                                        rotate_left
                                        · intro hJ5_9
                                          refine join_ (σ := Value) 9 #[true, false, false, false, true, false, false, true, true, true, true, true, false, false, true, true, true, false, false] (fun s_ => [(27, s_), (28, .string (strOfNums y148)), (29, .agg #[.int .i64 61, .string (strOfNums y148)])]) (fun s_ w' => (Kd.R (Kd.int .u8) 5 w' w.heap.size (fun _ => True) s_ y148) ∧ (Below w.heap.size w w')) ?_ ?_
                                          rotate_left
                                          · intro hJ9_10
                                            refine join_ (σ := Value) 11 #[true, true, false, false, true, false, false, true, true, false, false, false, false, false, true, true, true, false, false] (fun s_ => [(19, s_)]) (fun s_ w' => (Kd.R (Kd.int .u8) 5 w' w.heap.size (fun _ => True) s_ y142) ∧ (Below w.heap.size w w')) ?_ ?_
                                            rotate_left
                                            · intro hJ1
                                              refine join_ (σ := Value) 10 #[true, false, false, false, true, true, true, true, true, false, false, false, false, false, true, true, true, false, false] (fun s_ => [(23, s_), (24, .agg #[.int .i64 0, .int .i64 0, .int .i64 0, .int .i64 0, .int .i64 0, .int .i64 0, .int .i64 0, .int .i64 0, .int .i64 0, .int .i64 0, .string (⟨#[97]⟩ : ByteArray), s_])]) (fun s_ w' => (Kd.R k65 65 w' w.heap.size (fun _ => True) s_ y145) ∧ (Below w.heap.size w w')) ?_ ?_
                                              rotate_left
                                              · intro hJ5
                                                refine join_ (σ := Value) 11 #[true, false, false, false, true, false, false, true, true, true, false, false, false, false, true, true, true, false, false] (fun s_ => [(27, s_)]) (fun s_ w' => (Kd.R (Kd.int .u8) 5 w' w.heap.size (fun _ => True) s_ y148) ∧ (Below w.heap.size w w')) ?_ ?_
                                                rotate_left
                                                · intro hJ9
                                                  refine three_ (i := 1) (j := 5) (k := 9) (Ni := some 19) (Nj := some 23) (Nk := some 27) #[true, true, false, false, true, false, false, true, true, false, false, false, false, false, true, true, true, false, false] #[true, false, false, false, true, true, false, true, true, false, false, false, false, false, true, true, true, false, false] #[true, false, false, false, true, false, false, true, true, true, false, false, false, false, true, true, true, false, false] rfl rfl rfl rfl rfl rfl (three_of HT_.out (by kernel_rfl)) (by decide) (by decide) (by decide) (fun K hK => ?_) (fun K hK => ?_) (fun K hK => ?_)
                                                  · skip
                                                    refine Kd.R_make_step (Kd.int .u8) _ 5 (by rfl) (N := 19) rfl 28 _ _ rfl 16 rfl rfl Try.underlying28 (.int .u8 0) 1 info5 rfl (by decide) (by omega) 0 (ok := fun _ => True) (okp := fun _ => True) rfl (fun _ hk => hk) trivial (by omega) (by omega) (Below.refl _ _) (Nat.le_refl _) ?_
                                                    intro v143 w23 ho24 hb hg_ hnew_
                                                    clear hg_ hnew_
                                                    (first | rw [← Ny142.out] at ho24 | (simp only [Int.reduceToNat] at ho24; rw [← Ny142.out] at ho24))
                                                    have n0_ := Aside0.mk (Kd.R_lower ho24 (below_size (by repeat (with_reducible first | exact HB.out | apply below_alloc | apply pw_below_drewN | apply below_drew1))))
                                                    have n1_ := Aside0.mk (below_step (by repeat (with_reducible first | exact HB.out | apply below_alloc | apply pw_below_drewN | apply below_drew1)) hb)
                                                    clear HB
                                                    have HO144 := n0_
                                                    have HB := n1_
                                                    clear n0_ n1_
                                                    clear hb ho24
                                                    refine hK.out _ _ trivial (fun hHeld => ?_)
                                                    clear hK K
                                                    refine norm_ (a' := ?_) ?_ ?_
                                                    rotate_left
                                                    · show Act.put _ (some 19) _ = _
                                                      simp only [Act.put, List.setIfInBounds_toArray, List.set_cons_zero, List.set_cons_succ, i64_w, i32_w]
                                                      rfl
                                                    exact norm_ (by first | (simp only [putAll, Act.put, List.setIfInBounds_toArray, List.set_cons_zero, List.set_cons_succ]; done) | (simp only [putAll, Act.put, List.setIfInBounds_toArray, List.set_cons_zero, List.set_cons_succ]; rfl)) (hJ1 (v143) _ ⟨(by (with_reducible repeat (first | apply Kd.R_alloc | apply Kd.R_drewN | apply Kd.R_drew)); exact HO144.out), (by repeat (with_reducible first | exact HB.out | apply below_alloc | apply pw_below_drewN | apply below_drew1))⟩)
                                                  · skip
                                                    refine Kd.R_lit_step k65 _ 65 ?hg (N := 23) ?hd (xs := ([(⟨61, (⟨#[]⟩ : ByteArray)⟩ : S65)] : List (S65))) (inner := [.int .i64 61, .string (⟨#[]⟩ : ByteArray)]) (ok := fun _ => True) (okp := fun _ => True) ?hr ?hp (fun _ hk => hk) trivial (Below.refl _ _) (Nat.le_refl _) (by simp) ?_; (case hd => rfl); (case hg => rfl); (case hr => first | (go_simp; done) | (go_simp; rfl)); (case hp => exact (Reps.c2 (show Kd.M k65 _ _ _ (⟨61, (⟨#[]⟩ : ByteArray)⟩ : S65) [.int .i64 61, .string (⟨#[]⟩ : ByteArray)] from (k65_mkM _ _ _ (⟨61, (⟨#[]⟩ : ByteArray)⟩ : S65) )) (Reps.none _ _)))
                                                    intro v146 w23 ho24 hb hg_ hnew_
                                                    clear hg_ hnew_
                                                    (first | rw [← Ny145.out] at ho24 | (simp only [Int.reduceToNat] at ho24; rw [← Ny145.out] at ho24))
                                                    have n0_ := Aside0.mk (Kd.R_lower ho24 (below_size (by repeat (with_reducible first | exact HB.out | apply below_alloc | apply pw_below_drewN | apply below_drew1))))
                                                    have n1_ := Aside0.mk (below_step (by repeat (with_reducible first | exact HB.out | apply below_alloc | apply pw_below_drewN | apply below_drew1)) hb)
                                                    clear HB
                                                    have HO147 := n0_
                                                    have HB := n1_
                                                    clear n0_ n1_
                                                    clear hb ho24
                                                    obtain ⟨Ao25, co25, eo25⟩ := Kd.R_slice HO147.out
                                                    (first | subst eo25 | (injection eo25 with f1_ f2_ f3_; have f4_ := f1_.symm; have f5_ := f3_.symm; clear f1_ f2_ f3_; subst f4_; subst f5_))
                                                    refine hK.out _ _ trivial (fun hHeld => ?_)
                                                    clear hK K
                                                    refine norm_ (a' := ?_) ?_ ?_
                                                    rotate_left
                                                    · show Act.put _ (some 23) _ = _
                                                      simp only [Act.put, List.setIfInBounds_toArray, List.set_cons_zero, List.set_cons_succ, i64_w, i32_w]
                                                      rfl
                                                    refine pure_ (i := 6) (N := some 24) (v := ?_) (a' := ?_) #[true, false, false, false, true, true, true, true, true, false, false, false, false, false, true, true, true, false, false] rfl rfl (any_of HT_.out (by kernel_rfl)) (fun _ _ _ h => h) (Or.inl ⟨by rfl, ?_⟩) ?_ ?_
                                                    rotate_left
                                                    · intro w'
                                                      go_simp
                                                      with_reducible rfl
                                                    rotate_left
                                                    · simp only [Act.put, List.setIfInBounds_toArray, List.set_cons_zero, List.set_cons_succ, i64_w, i32_w]
                                                      rfl
                                                    exact norm_ (by first | (simp only [putAll, Act.put, List.setIfInBounds_toArray, List.set_cons_zero, List.set_cons_succ]; done) | (simp only [putAll, Act.put, List.setIfInBounds_toArray, List.set_cons_zero, List.set_cons_succ]; rfl)) (hJ5 (.slice Ao25 y145.length co25) _ ⟨(by (with_reducible repeat (first | apply Kd.R_alloc | apply Kd.R_drewN | apply Kd.R_drew)); exact HO147.out), (by repeat (with_reducible first | exact HB.out | apply below_alloc | apply pw_below_drewN | apply below_drew1))⟩)
                                                  · skip
                                                    refine Kd.R_make_step (Kd.int .u8) _ 5 (by rfl) (N := 27) rfl 28 _ _ rfl ji6 rfl rfl Try.underlying28 (.int .u8 0) 1 info5 rfl (by decide) (by omega) 0 (ok := fun _ => True) (okp := fun _ => True) rfl (fun _ hk => hk) trivial (of_decide_eq_true (by first | (with_reducible assumption) | assumption)) (Nat.le_trans (Nat.mul_le_mul_right _ (of_decide_eq_true (by first | (with_reducible assumption) | assumption) : ji6.toNat ≤ 281474976710656)) (by omega)) (Below.refl _ _) (Nat.le_refl _) ?_
                                                    intro v149 w23 ho24 hb hg_ hnew_
                                                    clear hg_ hnew_
                                                    (first | rw [← Ny148.out] at ho24 | (simp only [Int.reduceToNat] at ho24; rw [← Ny148.out] at ho24))
                                                    have n0_ := Aside0.mk (Kd.R_lower ho24 (below_size (by repeat (with_reducible first | exact HB.out | apply below_alloc | apply pw_below_drewN | apply below_drew1))))
                                                    have n1_ := Aside0.mk (below_step (by repeat (with_reducible first | exact HB.out | apply below_alloc | apply pw_below_drewN | apply below_drew1)) hb)
                                                    clear HB
                                                    have HO150 := n0_
                                                    have HB := n1_
                                                    clear n0_ n1_
                                                    clear hb ho24
                                                    refine hK.out _ _ trivial (fun hHeld => ?_)
                                                    clear hK K
                                                    refine norm_ (a' := ?_) ?_ ?_
                                                    rotate_left
                                                    · show Act.put _ (some 27) _ = _
                                                      simp only [Act.put, List.setIfInBounds_toArray, List.set_cons_zero, List.set_cons_succ, i64_w, i32_w]
                                                      rfl
                                                    exact norm_ (by first | (simp only [putAll, Act.put, List.setIfInBounds_toArray, List.set_cons_zero, List.set_cons_succ]; done) | (simp only [putAll, Act.put, List.setIfInBounds_toArray, List.set_cons_zero, List.set_cons_succ]; rfl)) (hJ9 (v149) _ ⟨(by (with_reducible repeat (first | apply Kd.R_alloc | apply Kd.R_drewN | apply Kd.R_drew)); exact HO150.out), (by repeat (with_reducible first | exact HB.out | apply below_alloc | apply pw_below_drewN | apply below_drew1))⟩)
                                                · skip
                                                  rintro v149 w25 ⟨h0_, h1_⟩
                                                  have n0_ : Aside0 (Kd.R (Kd.int .u8) 5 w25 w.heap.size (fun _ => True) v149 y148) := ⟨h0_⟩
                                                  have n1_ : Aside0 (Below w.heap.size w w25) := ⟨h1_⟩
                                                  clear HB
                                                  clear h0_ h1_
                                                  have HO150 := n0_
                                                  have HB := n1_
                                                  clear n0_ n1_
                                                  have hHeld := trivial
                                                  refine norm_ (a' := ?_) ?_ ?_
                                                  rotate_left
                                                  · simp only [putAll, Act.put, List.setIfInBounds_toArray, List.set_cons_zero, List.set_cons_succ]
                                                    rfl
                                                  refine three_ (i := 1) (j := 5) (k := 10) (Ni := some 19) (Nj := some 23) (Nk := some 28) #[true, true, false, false, true, false, false, true, true, true, false, false, false, false, true, true, true, false, false] #[true, false, false, false, true, true, false, true, true, true, false, false, false, false, true, true, true, false, false] #[true, false, false, false, true, false, false, true, true, true, true, false, false, false, true, true, true, false, false] rfl rfl rfl rfl rfl rfl (three_of HT_.out (by kernel_rfl)) (by decide) (by decide) (by decide) (fun K hK => ?_) (fun K hK => ?_) (fun K hK => ?_)
                                                  · skip
                                                    refine Kd.R_make_step (Kd.int .u8) _ 5 (by rfl) (N := 19) rfl 28 _ _ rfl 16 rfl rfl Try.underlying28 (.int .u8 0) 1 info5 rfl (by decide) (by omega) 0 (ok := fun _ => True) (okp := fun _ => True) rfl (fun _ hk => hk) trivial (by omega) (by omega) (Below.refl _ _) (Nat.le_refl _) ?_
                                                    intro v143 w26 ho27 hb hg_ hnew_
                                                    clear hg_ hnew_
                                                    (first | rw [← Ny142.out] at ho27 | (simp only [Int.reduceToNat] at ho27; rw [← Ny142.out] at ho27))
                                                    have n0_ := Aside0.mk (Kd.R_elder' (by (with_reducible repeat (first | apply Kd.R_alloc | apply Kd.R_drewN | apply Kd.R_drew)); exact HO150.out) (Kd.R_base ho27) hb)
                                                    have n1_ := Aside0.mk (Kd.R_lower (Kd.R_new' ho27 (Kd.R_lt (by (with_reducible repeat (first | apply Kd.R_alloc | apply Kd.R_drewN | apply Kd.R_drew)); exact HO150.out))) (below_size (by repeat (with_reducible first | exact HB.out | apply below_alloc | apply pw_below_drewN | apply below_drew1))))
                                                    have n2_ := Aside0.mk (below_step (by repeat (with_reducible first | exact HB.out | apply below_alloc | apply pw_below_drewN | apply below_drew1)) hb)
                                                    clear HO150
                                                    clear HB
                                                    have HO150 := n0_
                                                    have HO144 := n1_
                                                    have HB := n2_
                                                    clear n0_ n1_ n2_
                                                    clear hb ho27
                                                    refine hK.out _ _ trivial (fun hHeld => ?_)
                                                    clear hK K
                                                    refine norm_ (a' := ?_) ?_ ?_
                                                    rotate_left
                                                    · show Act.put _ (some 19) _ = _
                                                      simp only [Act.put, List.setIfInBounds_toArray, List.set_cons_zero, List.set_cons_succ, i64_w, i32_w]
                                                      rfl
                                                    exact norm_ (by first | (simp only [putAll, Act.put, List.setIfInBounds_toArray, List.set_cons_zero, List.set_cons_succ]; done) | (simp only [putAll, Act.put, List.setIfInBounds_toArray, List.set_cons_zero, List.set_cons_succ]; rfl)) (hJ1_9 (v143, v149) _ ⟨(by (with_reducible repeat (first | apply Kd.R_alloc | apply Kd.R_drewN | apply Kd.R_drew)); exact Kd.R_mono HO144.out (fun _ hk => hk.2)), (by (with_reducible repeat (first | apply Kd.R_alloc | apply Kd.R_drewN | apply Kd.R_drew)); exact Kd.R_mono HO150.out (fun _ hk => hk.2)), (by repeat (with_reducible first | exact HB.out | apply below_alloc | apply pw_below_drewN | apply below_drew1))⟩)
                                                  · skip
                                                    refine Kd.R_lit_step k65 _ 65 ?hg (N := 23) ?hd (xs := ([(⟨61, (⟨#[]⟩ : ByteArray)⟩ : S65)] : List (S65))) (inner := [.int .i64 61, .string (⟨#[]⟩ : ByteArray)]) (ok := fun _ => True) (okp := fun _ => True) ?hr ?hp (fun _ hk => hk) trivial (Below.refl _ _) (Nat.le_refl _) (by simp) ?_; (case hd => rfl); (case hg => rfl); (case hr => first | (go_simp; done) | (go_simp; rfl)); (case hp => exact (Reps.c2 (show Kd.M k65 _ _ _ (⟨61, (⟨#[]⟩ : ByteArray)⟩ : S65) [.int .i64 61, .string (⟨#[]⟩ : ByteArray)] from (k65_mkM _ _ _ (⟨61, (⟨#[]⟩ : ByteArray)⟩ : S65) )) (Reps.none _ _)))
                                                    intro v146 w26 ho27 hb hg_ hnew_
                                                    clear hg_ hnew_
                                                    (first | rw [← Ny145.out] at ho27 | (simp only [Int.reduceToNat] at ho27; rw [← Ny145.out] at ho27))
                                                    have n0_ := Aside0.mk (Kd.R_below (by (with_reducible repeat (first | apply Kd.R_alloc | apply Kd.R_drewN | apply Kd.R_drew)); exact HO150.out) hb)
                                                    have n1_ := Aside0.mk (Kd.R_lower ho27 (below_size (by repeat (with_reducible first | exact HB.out | apply below_alloc | apply pw_below_drewN | apply below_drew1))))
                                                    have n2_ := Aside0.mk (below_step (by repeat (with_reducible first | exact HB.out | apply below_alloc | apply pw_below_drewN | apply below_drew1)) hb)
                                                    clear HO150
                                                    clear HB
                                                    have HO150 := n0_
                                                    have HO147 := n1_
                                                    have HB := n2_
                                                    clear n0_ n1_ n2_
                                                    clear hb ho27
                                                    obtain ⟨Ao28, co28, eo28⟩ := Kd.R_slice HO147.out
                                                    (first | subst eo28 | (injection eo28 with f1_ f2_ f3_; have f4_ := f1_.symm; have f5_ := f3_.symm; clear f1_ f2_ f3_; subst f4_; subst f5_))
                                                    refine hK.out _ _ trivial (fun hHeld => ?_)
                                                    clear hK K
                                                    refine norm_ (a' := ?_) ?_ ?_
                                                    rotate_left
                                                    · show Act.put _ (some 23) _ = _
                                                      simp only [Act.put, List.setIfInBounds_toArray, List.set_cons_zero, List.set_cons_succ, i64_w, i32_w]
                                                      rfl
                                                    refine pure_ (i := 6) (N := some 24) (v := ?_) (a' := ?_) #[true, false, false, false, true, true, true, true, true, true, false, false, false, false, true, true, true, false, false] rfl rfl (any_of HT_.out (by kernel_rfl)) (fun _ _ _ h => h) (Or.inl ⟨by rfl, ?_⟩) ?_ ?_
                                                    rotate_left
                                                    · intro w'
                                                      go_simp
                                                      with_reducible rfl
                                                    rotate_left
                                                    · simp only [Act.put, List.setIfInBounds_toArray, List.set_cons_zero, List.set_cons_succ, i64_w, i32_w]
                                                      rfl
                                                    exact norm_ (by first | (simp only [putAll, Act.put, List.setIfInBounds_toArray, List.set_cons_zero, List.set_cons_succ]; done) | (simp only [putAll, Act.put, List.setIfInBounds_toArray, List.set_cons_zero, List.set_cons_succ]; rfl)) (hJ5_9 (.slice Ao28 y145.length co28, v149) _ ⟨(by (with_reducible repeat (first | apply Kd.R_alloc | apply Kd.R_drewN | apply Kd.R_drew)); exact HO147.out), (by (with_reducible repeat (first | apply Kd.R_alloc | apply Kd.R_drewN | apply Kd.R_drew)); exact HO150.out), (by repeat (with_reducible first | exact HB.out | apply below_alloc | apply pw_below_drewN | apply below_drew1))⟩)
                                                  · skip
                                                    have hcv26 := own_string (P := Try.prog) Try.underlying28 Try.underlying5 Try.underlying9 (Kd.own_of_R HO150.out)
                                                    refine value_ (w1 := ?_) (v := ?_) (by rfl) rfl ?_ ?_
                                                    rotate_left 2
                                                    · go_simp
                                                      constructor
                                                      · rfl
                                                      · rfl
                                                    clear hcv26
                                                    refine hK.out _ _ trivial (fun hHeld => ?_)
                                                    clear hK K
                                                    refine norm_ (a' := ?_) ?_ ?_
                                                    rotate_left
                                                    · show Act.put _ (some 28) _ = _
                                                      simp only [Act.put, List.setIfInBounds_toArray, List.set_cons_zero, List.set_cons_succ, i64_w, i32_w]
                                                      rfl
                                                    refine pure_ (i := 11) (N := some 29) (v := ?_) (a' := ?_) #[true, false, false, false, true, false, false, true, true, true, true, true, false, false, true, true, true, false, false] rfl rfl (any_of HT_.out (by kernel_rfl)) (fun _ _ _ h => h) (Or.inl ⟨by rfl, ?_⟩) ?_ ?_
                                                    rotate_left
                                                    · intro w'
                                                      go_simp
                                                      with_reducible rfl
                                                    rotate_left
                                                    · simp only [Act.put, List.setIfInBounds_toArray, List.set_cons_zero, List.set_cons_succ, i64_w, i32_w]
                                                      rfl
                                                    exact norm_ (by first | (simp only [putAll, Act.put, List.setIfInBounds_toArray, List.set_cons_zero, List.set_cons_succ]; done) | (simp only [putAll, Act.put, List.setIfInBounds_toArray, List.set_cons_zero, List.set_cons_succ]; rfl)) (hJ9_10 (v149) _ ⟨(by (with_reducible repeat (first | apply Kd.R_alloc | apply Kd.R_drewN | apply Kd.R_drew)); exact HO150.out), (by repeat (with_reducible first | exact HB.out | apply below_alloc | apply pw_below_drewN | apply below_drew1))⟩)
                                              · skip
                                                rintro v146 w26 ⟨h0_, h1_⟩
                                                have n0_ : Aside0 (Kd.R k65 65 w26 w.heap.size (fun _ => True) v146 y145) := ⟨h0_⟩
                                                have n1_ : Aside0 (Below w.heap.size w w26) := ⟨h1_⟩
                                                clear HB
                                                clear h0_ h1_
                                                have HO147 := n0_
                                                have HB := n1_
                                                clear n0_ n1_
                                                have hHeld := trivial
                                                obtain ⟨Ao27, co27, eo27⟩ := Kd.R_slice HO147.out
                                                (first | subst eo27 | (injection eo27 with f1_ f2_ f3_; have f4_ := f1_.symm; have f5_ := f3_.symm; clear f1_ f2_ f3_; subst f4_; subst f5_))
                                                refine norm_ (a' := ?_) ?_ ?_
                                                rotate_left
                                                · simp only [putAll, Act.put, List.setIfInBounds_toArray, List.set_cons_zero, List.set_cons_succ]
                                                  rfl
                                                refine two_ (i := 1) (j := 9) (Ni := some 19) (Nj := some 27) #[true, true, false, false, true, true, true, true, true, false, false, false, false, false, true, true, true, false, false] #[true, false, false, false, true, true, true, true, true, true, false, false, false, false, true, true, true, false, false] rfl rfl rfl rfl (two_of HT_.out (by kernel_rfl)) (by decide) (by decide) (fun K hK => ?_) (fun K hK => ?_)
                                                · skip
                                                  refine Kd.R_make_step (Kd.int .u8) _ 5 (by rfl) (N := 19) rfl 28 _ _ rfl 16 rfl rfl Try.underlying28 (.int .u8 0) 1 info5 rfl (by decide) (by omega) 0 (ok := fun _ => True) (okp := fun _ => True) rfl (fun _ hk => hk) trivial (by omega) (by omega) (Below.refl _ _) (Nat.le_refl _) ?_
                                                  intro v143 w28 ho29 hb hg_ hnew_
                                                  clear hg_ hnew_
                                                  (first | rw [← Ny142.out] at ho29 | (simp only [Int.reduceToNat] at ho29; rw [← Ny142.out] at ho29))
                                                  have n0_ := Aside0.mk (Kd.R_below (by (with_reducible repeat (first | apply Kd.R_alloc | apply Kd.R_drewN | apply Kd.R_drew)); exact HO147.out) hb)
                                                  have n1_ := Aside0.mk (Kd.R_lower ho29 (below_size (by repeat (with_reducible first | exact HB.out | apply below_alloc | apply pw_below_drewN | apply below_drew1))))
                                                  have n2_ := Aside0.mk (below_step (by repeat (with_reducible first | exact HB.out | apply below_alloc | apply pw_below_drewN | apply below_drew1)) hb)
                                                  clear HO147
                                                  clear HB
                                                  have HO147 := n0_
                                                  have HO144 := n1_
                                                  have HB := n2_
                                                  clear n0_ n1_ n2_
                                                  clear hb ho29
                                                  refine hK.out _ _ trivial (fun hHeld => ?_)
                                                  clear hK K
                                                  refine norm_ (a' := ?_) ?_ ?_
                                                  rotate_left
                                                  · show Act.put _ (some 19) _ = _
                                                    simp only [Act.put, List.setIfInBounds_toArray, List.set_cons_zero, List.set_cons_succ, i64_w, i32_w]
                                                    rfl
                                                  exact norm_ (by first | (simp only [putAll, Act.put, List.setIfInBounds_toArray, List.set_cons_zero, List.set_cons_succ]; done) | (simp only [putAll, Act.put, List.setIfInBounds_toArray, List.set_cons_zero, List.set_cons_succ]; rfl)) (hJ1_5 (v143, .slice Ao27 y145.length co27) _ ⟨(by (with_reducible repeat (first | apply Kd.R_alloc | apply Kd.R_drewN | apply Kd.R_drew)); exact HO144.out), (by (with_reducible repeat (first | apply Kd.R_alloc | apply Kd.R_drewN | apply Kd.R_drew)); exact HO147.out), (by repeat (with_reducible first | exact HB.out | apply below_alloc | apply pw_below_drewN | apply below_drew1))⟩)
                                                · skip
                                                  refine Kd.R_make_step (Kd.int .u8) _ 5 (by rfl) (N := 27) rfl 28 _ _ rfl ji6 rfl rfl Try.underlying28 (.int .u8 0) 1 info5 rfl (by decide) (by omega) 0 (ok := fun _ => True) (okp := fun _ => True) rfl (fun _ hk => hk) trivial (of_decide_eq_true (by first | (with_reducible assumption) | assumption)) (Nat.le_trans (Nat.mul_le_mul_right _ (of_decide_eq_true (by first | (with_reducible assumption) | assumption) : ji6.toNat ≤ 281474976710656)) (by omega)) (Below.refl _ _) (Nat.le_refl _) ?_
                                                  intro v149 w28 ho29 hb hg_ hnew_
                                                  clear hg_ hnew_
                                                  (first | rw [← Ny148.out] at ho29 | (simp only [Int.reduceToNat] at ho29; rw [← Ny148.out] at ho29))
                                                  have n0_ := Aside0.mk (Kd.R_below (by (with_reducible repeat (first | apply Kd.R_alloc | apply Kd.R_drewN | apply Kd.R_drew)); exact HO147.out) hb)
                                                  have n1_ := Aside0.mk (Kd.R_lower ho29 (below_size (by repeat (with_reducible first | exact HB.out | apply below_alloc | apply pw_below_drewN | apply below_drew1))))
                                                  have n2_ := Aside0.mk (below_step (by repeat (with_reducible first | exact HB.out | apply below_alloc | apply pw_below_drewN | apply below_drew1)) hb)
                                                  clear HO147
                                                  clear HB
                                                  have HO147 := n0_
                                                  have HO150 := n1_
                                                  have HB := n2_
                                                  clear n0_ n1_ n2_
                                                  clear hb ho29
                                                  refine hK.out _ _ trivial (fun hHeld => ?_)
                                                  clear hK K
                                                  refine norm_ (a' := ?_) ?_ ?_
                                                  rotate_left
                                                  · show Act.put _ (some 27) _ = _
                                                    simp only [Act.put, List.setIfInBounds_toArray, List.set_cons_zero, List.set_cons_succ, i64_w, i32_w]
                                                    rfl
                                                  exact norm_ (by first | (simp only [putAll, Act.put, List.setIfInBounds_toArray, List.set_cons_zero, List.set_cons_succ]; done) | (simp only [putAll, Act.put, List.setIfInBounds_toArray, List.set_cons_zero, List.set_cons_succ]; rfl)) (hJ5_9 (.slice Ao27 y145.length co27, v149) _ ⟨(by (with_reducible repeat (first | apply Kd.R_alloc | apply Kd.R_drewN | apply Kd.R_drew)); exact HO147.out), (by (with_reducible repeat (first | apply Kd.R_alloc | apply Kd.R_drewN | apply Kd.R_drew)); exact HO150.out), (by repeat (with_reducible first | exact HB.out | apply below_alloc | apply pw_below_drewN | apply below_drew1))⟩)
                                            · skip
                                              rintro v143 w25 ⟨h0_, h1_⟩
                                              have n0_ : Aside0 (Kd.R (Kd.int .u8) 5 w25 w.heap.size (fun _ => True) v143 y142) := ⟨h0_⟩
                                              have n1_ : Aside0 (Below w.heap.size w w25) := ⟨h1_⟩
                                              clear HB
                                              clear h0_ h1_
                                              have HO144 := n0_
                                              have HB := n1_
                                              clear n0_ n1_
                                              have hHeld := trivial
                                              refine norm_ (a' := ?_) ?_ ?_
                                              rotate_left
                                              · simp only [putAll, Act.put, List.setIfInBounds_toArray, List.set_cons_zero, List.set_cons_succ]
                                                rfl
                                              refine three_ (i := 2) (j := 5) (k := 9) (Ni := some 20) (Nj := some 23) (Nk := some 27) #[true, true, true, false, true, false, false, true, true, false, false, false, false, false, true, true, true, false, false] #[true, true, false, false, true, true, false, true, true, false, false, false, false, false, true, true, true, false, false] #[true, true, false, false, true, false, false, true, true, true, false, false, false, false, true, true, true, false, false] rfl rfl rfl rfl rfl rfl (three_of HT_.out (by kernel_rfl)) (by decide) (by decide) (by decide) (fun K hK => ?_) (fun K hK => ?_) (fun K hK => ?_)
                                              · skip
                                                have hcv26 := own_string (P := Try.prog) Try.underlying28 Try.underlying5 Try.underlying9 (Kd.own_of_R HO144.out)
                                                refine value_ (w1 := ?_) (v := ?_) (by rfl) rfl ?_ ?_
                                                rotate_left 2
                                                · go_simp
                                                  constructor
                                                  · rfl
                                                  · rfl
                                                clear hcv26
                                                refine hK.out _ _ trivial (fun hHeld => ?_)
                                                clear hK K
                                                refine norm_ (a' := ?_) ?_ ?_
                                                rotate_left
                                                · show Act.put _ (some 20) _ = _
                                                  simp only [Act.put, List.setIfInBounds_toArray, List.set_cons_zero, List.set_cons_succ, i64_w, i32_w]
                                                  rfl
                                                refine pure_ (i := 3) (N := some 21) (v := ?_) (a' := ?_) #[true, true, true, true, true, false, false, true, true, false, false, false, false, false, true, true, true, false, false] rfl rfl (any_of HT_.out (by kernel_rfl)) (fun _ _ _ h => h) (Or.inl ⟨by rfl, ?_⟩) ?_ ?_
                                                rotate_left
                                                · intro w'
                                                  go_simp
                                                  with_reducible rfl
                                                rotate_left
                                                · simp only [Act.put, List.setIfInBounds_toArray, List.set_cons_zero, List.set_cons_succ, i64_w, i32_w]
                                                  rfl
                                                exact norm_ (by first | (simp only [putAll, Act.put, List.setIfInBounds_toArray, List.set_cons_zero, List.set_cons_succ]; done) | (simp only [putAll, Act.put, List.setIfInBounds_toArray, List.set_cons_zero, List.set_cons_succ]; rfl)) (hJ1_2 (v143) _ ⟨(by (with_reducible repeat (first | apply Kd.R_alloc | apply Kd.R_drewN | apply Kd.R_drew)); exact HO144.out), (by repeat (with_reducible first | exact HB.out | apply below_alloc | apply pw_below_drewN | apply below_drew1))⟩)
                                              · skip
                                                refine Kd.R_lit_step k65 _ 65 ?hg (N := 23) ?hd (xs := ([(⟨61, (⟨#[]⟩ : ByteArray)⟩ : S65)] : List (S65))) (inner := [.int .i64 61, .string (⟨#[]⟩ : ByteArray)]) (ok := fun _ => True) (okp := fun _ => True) ?hr ?hp (fun _ hk => hk) trivial (Below.refl _ _) (Nat.le_refl _) (by simp) ?_; (case hd => rfl); (case hg => rfl); (case hr => first | (go_simp; done) | (go_simp; rfl)); (case hp => exact (Reps.c2 (show Kd.M k65 _ _ _ (⟨61, (⟨#[]⟩ : ByteArray)⟩ : S65) [.int .i64 61, .string (⟨#[]⟩ : ByteArray)] from (k65_mkM _ _ _ (⟨61, (⟨#[]⟩ : ByteArray)⟩ : S65) )) (Reps.none _ _)))
                                                intro v146 w26 ho27 hb hg_ hnew_
                                                clear hg_ hnew_
                                                (first | rw [← Ny145.out] at ho27 | (simp only [Int.reduceToNat] at ho27; rw [← Ny145.out] at ho27))
                                                have n0_ := Aside0.mk (Kd.R_below (by (with_reducible repeat (first | apply Kd.R_alloc | apply Kd.R_drewN | apply Kd.R_drew)); exact HO144.out) hb)
                                                have n1_ := Aside0.mk (Kd.R_lower ho27 (below_size (by repeat (with_reducible first | exact HB.out | apply below_alloc | apply pw_below_drewN | apply below_drew1))))
                                                have n2_ := Aside0.mk (below_step (by repeat (with_reducible first | exact HB.out | apply below_alloc | apply pw_below_drewN | apply below_drew1)) hb)
                                                clear HO144
                                                clear HB
                                                have HO144 := n0_
                                                have HO147 := n1_
                                                have HB := n2_
                                                clear n0_ n1_ n2_
                                                clear hb ho27
                                                obtain ⟨Ao28, co28, eo28⟩ := Kd.R_slice HO147.out
                                                (first | subst eo28 | (injection eo28 with f1_ f2_ f3_; have f4_ := f1_.symm; have f5_ := f3_.symm; clear f1_ f2_ f3_; subst f4_; subst f5_))
                                                refine hK.out _ _ trivial (fun hHeld => ?_)
                                                clear hK K
                                                refine norm_ (a' := ?_) ?_ ?_
                                                rotate_left
                                                · show Act.put _ (some 23) _ = _
                                                  simp only [Act.put, List.setIfInBounds_toArray, List.set_cons_zero, List.set_cons_succ, i64_w, i32_w]
                                                  rfl
                                                refine pure_ (i := 6) (N := some 24) (v := ?_) (a' := ?_) #[true, true, false, false, true, true, true, true, true, false, false, false, false, false, true, true, true, false, false] rfl rfl (any_of HT_.out (by kernel_rfl)) (fun _ _ _ h => h) (Or.inl ⟨by rfl, ?_⟩) ?_ ?_
                                                rotate_left
                                                · intro w'
                                                  go_simp
                                                  with_reducible rfl
                                                rotate_left
                                                · simp only [Act.put, List.setIfInBounds_toArray, List.set_cons_zero, List.set_cons_succ, i64_w, i32_w]
                                                  rfl
                                                exact norm_ (by first | (simp only [putAll, Act.put, List.setIfInBounds_toArray, List.set_cons_zero, List.set_cons_succ]; done) | (simp only [putAll, Act.put, List.setIfInBounds_toArray, List.set_cons_zero, List.set_cons_succ]; rfl)) (hJ1_5 (v143, .slice Ao28 y145.length co28) _ ⟨(by (with_reducible repeat (first | apply Kd.R_alloc | apply Kd.R_drewN | apply Kd.R_drew)); exact HO144.out), (by (with_reducible repeat (first | apply Kd.R_alloc | apply Kd.R_drewN | apply Kd.R_drew)); exact HO147.out), (by repeat (with_reducible first | exact HB.out | apply below_alloc | apply pw_below_drewN | apply below_drew1))⟩)
                                              · skip
                                                refine Kd.R_make_step (Kd.int .u8) _ 5 (by rfl) (N := 27) rfl 28 _ _ rfl ji6 rfl rfl Try.underlying28 (.int .u8 0) 1 info5 rfl (by decide) (by omega) 0 (ok := fun _ => True) (okp := fun _ => True) rfl (fun _ hk => hk) trivial (of_decide_eq_true (by first | (with_reducible assumption) | assumption)) (Nat.le_trans (Nat.mul_le_mul_right _ (of_decide_eq_true (by first | (with_reducible assumption) | assumption) : ji6.toNat ≤ 281474976710656)) (by omega)) (Below.refl _ _) (Nat.le_refl _) ?_
                                                intro v149 w26 ho27 hb hg_ hnew_
                                                clear hg_ hnew_
                                                (first | rw [← Ny148.out] at ho27 | (simp only [Int.reduceToNat] at ho27; rw [← Ny148.out] at ho27))
                                                have n0_ := Aside0.mk (Kd.R_elder' (by (with_reducible repeat (first | apply Kd.R_alloc | apply Kd.R_drewN | apply Kd.R_drew)); exact HO144.out) (Kd.R_base ho27) hb)
                                                have n1_ := Aside0.mk (Kd.R_lower (Kd.R_new' ho27 (Kd.R_lt (by (with_reducible repeat (first | apply Kd.R_alloc | apply Kd.R_drewN | apply Kd.R_drew)); exact HO144.out))) (below_size (by repeat (with_reducible first | exact HB.out | apply below_alloc | apply pw_below_drewN | apply below_drew1))))
                                                have n2_ := Aside0.mk (below_step (by repeat (with_reducible first | exact HB.out | apply below_alloc | apply pw_below_drewN | apply below_drew1)) hb)
                                                clear HO144
                                                clear HB
                                                have HO144 := n0_
                                                have HO150 := n1_
                                                have HB := n2_
                                                clear n0_ n1_ n2_
                                                clear hb ho27
                                                refine hK.out _ _ trivial (fun hHeld => ?_)
                                                clear hK K
                                                refine norm_ (a' := ?_) ?_ ?_
                                                rotate_left
                                                · show Act.put _ (some 27) _ = _
                                                  simp only [Act.put, List.setIfInBounds_toArray, List.set_cons_zero, List.set_cons_succ, i64_w, i32_w]
                                                  rfl
                                                exact norm_ (by first | (simp only [putAll, Act.put, List.setIfInBounds_toArray, List.set_cons_zero, List.set_cons_succ]; done) | (simp only [putAll, Act.put, List.setIfInBounds_toArray, List.set_cons_zero, List.set_cons_succ]; rfl)) (hJ1_9 (v143, v149) _ ⟨(by (with_reducible repeat (first | apply Kd.R_alloc | apply Kd.R_drewN | apply Kd.R_drew)); exact Kd.R_mono HO144.out (fun _ hk => hk.2)), (by (with_reducible repeat (first | apply Kd.R_alloc | apply Kd.R_drewN | apply Kd.R_drew)); exact Kd.R_mono HO150.out (fun _ hk => hk.2)), (by repeat (with_reducible first | exact HB.out | apply below_alloc | apply pw_below_drewN | apply below_drew1))⟩)
                                          · skip
                                            rintro v149 w26 ⟨h0_, h1_⟩
                                            have n0_ : Aside0 (Kd.R (Kd.int .u8) 5 w26 w.heap.size (fun _ => True) v149 y148) := ⟨h0_⟩
                                            have n1_ : Aside0 (Below w.heap.size w w26) := ⟨h1_⟩
                                            clear HB
                                            clear h0_ h1_
                                            have HO150 := n0_
                                            have HB := n1_
                                            clear n0_ n1_
                                            have hHeld := trivial
                                            refine norm_ (a' := ?_) ?_ ?_
                                            rotate_left
                                            · simp only [putAll, Act.put, List.setIfInBounds_toArray, List.set_cons_zero, List.set_cons_succ]
                                              rfl
                                            refine three_ (i := 1) (j := 5) (k := 12) (Ni := some 19) (Nj := some 23) (Nk := some 30) #[true, true, false, false, true, false, false, true, true, true, true, true, false, false, true, true, true, false, false] #[true, false, false, false, true, true, false, true, true, true, true, true, false, false, true, true, true, false, false] #[true, false, false, false, true, false, false, true, true, true, true, true, true, false, true, true, true, false, false] rfl rfl rfl rfl rfl rfl (three_of HT_.out (by kernel_rfl)) (by decide) (by decide) (by decide) (fun K hK => ?_) (fun K hK => ?_) (fun K hK => ?_)
                                            · skip
                                              refine Kd.R_make_step (Kd.int .u8) _ 5 (by rfl) (N := 19) rfl 28 _ _ rfl 16 rfl rfl Try.underlying28 (.int .u8 0) 1 info5 rfl (by decide) (by omega) 0 (ok := fun _ => True) (okp := fun _ => True) rfl (fun _ hk => hk) trivial (by omega) (by omega) (Below.refl _ _) (Nat.le_refl _) ?_
                                              intro v143 w27 ho28 hb hg_ hnew_
                                              clear hg_ hnew_
                                              (first | rw [← Ny142.out] at ho28 | (simp only [Int.reduceToNat] at ho28; rw [← Ny142.out] at ho28))
                                              have n0_ := Aside0.mk (Kd.R_elder' (by (with_reducible repeat (first | apply Kd.R_alloc | apply Kd.R_drewN | apply Kd.R_drew)); exact HO150.out) (Kd.R_base ho28) hb)
                                              have n1_ := Aside0.mk (Kd.R_lower (Kd.R_new' ho28 (Kd.R_lt (by (with_reducible repeat (first | apply Kd.R_alloc | apply Kd.R_drewN | apply Kd.R_drew)); exact HO150.out))) (below_size (by repeat (with_reducible first | exact HB.out | apply below_alloc | apply pw_below_drewN | apply below_drew1))))
                                              have n2_ := Aside0.mk (below_step (by repeat (with_reducible first | exact HB.out | apply below_alloc | apply pw_below_drewN | apply below_drew1)) hb)
                                              clear HO150
                                              clear HB
                                              have HO150 := n0_
                                              have HO144 := n1_
                                              have HB := n2_
                                              clear n0_ n1_ n2_
                                              clear hb ho28
                                              refine hK.out _ _ trivial (fun hHeld => ?_)
                                              clear hK K
                                              refine norm_ (a' := ?_) ?_ ?_
                                              rotate_left
                                              · show Act.put _ (some 19) _ = _
                                                simp only [Act.put, List.setIfInBounds_toArray, List.set_cons_zero, List.set_cons_succ, i64_w, i32_w]
                                                rfl
                                              exact norm_ (by first | (simp only [putAll, Act.put, List.setIfInBounds_toArray, List.set_cons_zero, List.set_cons_succ]; done) | (simp only [putAll, Act.put, List.setIfInBounds_toArray, List.set_cons_zero, List.set_cons_succ]; rfl)) (hJ1_9_10 (v143, v149) _ ⟨(by (with_reducible repeat (first | apply Kd.R_alloc | apply Kd.R_drewN | apply Kd.R_drew)); exact Kd.R_mono HO144.out (fun _ hk => hk.2)), (by (with_reducible repeat (first | apply Kd.R_alloc | apply Kd.R_drewN | apply Kd.R_drew)); exact Kd.R_mono HO150.out (fun _ hk => hk.2)), (by repeat (with_reducible first | exact HB.out | apply below_alloc | apply pw_below_drewN | apply below_drew1))⟩)
                                            · skip
                                              refine Kd.R_lit_step k65 _ 65 ?hg (N := 23) ?hd (xs := ([(⟨61, (⟨#[]⟩ : ByteArray)⟩ : S65)] : List (S65))) (inner := [.int .i64 61, .string (⟨#[]⟩ : ByteArray)]) (ok := fun _ => True) (okp := fun _ => True) ?hr ?hp (fun _ hk => hk) trivial (Below.refl _ _) (Nat.le_refl _) (by simp) ?_; (case hd => rfl); (case hg => rfl); (case hr => first | (go_simp; done) | (go_simp; rfl)); (case hp => exact (Reps.c2 (show Kd.M k65 _ _ _ (⟨61, (⟨#[]⟩ : ByteArray)⟩ : S65) [.int .i64 61, .string (⟨#[]⟩ : ByteArray)] from (k65_mkM _ _ _ (⟨61, (⟨#[]⟩ : ByteArray)⟩ : S65) )) (Reps.none _ _)))
                                              intro v146 w27 ho28 hb hg_ hnew_
                                              clear hg_ hnew_
                                              (first | rw [← Ny145.out] at ho28 | (simp only [Int.reduceToNat] at ho28; rw [← Ny145.out] at ho28))
                                              have n0_ := Aside0.mk (Kd.R_below (by (with_reducible repeat (first | apply Kd.R_alloc | apply Kd.R_drewN | apply Kd.R_drew)); exact HO150.out) hb)
                                              have n1_ := Aside0.mk (Kd.R_lower ho28 (below_size (by repeat (with_reducible first | exact HB.out | apply below_alloc | apply pw_below_drewN | apply below_drew1))))
                                              have n2_ := Aside0.mk (below_step (by repeat (with_reducible first | exact HB.out | apply below_alloc | apply pw_below_drewN | apply below_drew1)) hb)
                                              clear HO150
                                              clear HB
                                              have HO150 := n0_
                                              have HO147 := n1_
                                              have HB := n2_
                                              clear n0_ n1_ n2_
                                              clear hb ho28
                                              obtain ⟨Ao29, co29, eo29⟩ := Kd.R_slice HO147.out
                                              (first | subst eo29 | (injection eo29 with f1_ f2_ f3_; have f4_ := f1_.symm; have f5_ := f3_.symm; clear f1_ f2_ f3_; subst f4_; subst f5_))
                                              refine hK.out _ _ trivial (fun hHeld => ?_)
                                              clear hK K
                                              refine norm_ (a' := ?_) ?_ ?_
                                              rotate_left
                                              · show Act.put _ (some 23) _ = _
                                                simp only [Act.put, List.setIfInBounds_toArray, List.set_cons_zero, List.set_cons_succ, i64_w, i32_w]
                                                rfl
                                              refine pure_ (i := 6) (N := some 24) (v := ?_) (a' := ?_) #[true, false, false, false, true, true, true, true, true, true, true, true, false, false, true, true, true, false, false] rfl rfl (any_of HT_.out (by kernel_rfl)) (fun _ _ _ h => h) (Or.inl ⟨by rfl, ?_⟩) ?_ ?_
                                              rotate_left
                                              · intro w'
                                                go_simp
                                                with_reducible rfl
                                              rotate_left
                                              · simp only [Act.put, List.setIfInBounds_toArray, List.set_cons_zero, List.set_cons_succ, i64_w, i32_w]
                                                rfl
                                              exact norm_ (by first | (simp only [putAll, Act.put, List.setIfInBounds_toArray, List.set_cons_zero, List.set_cons_succ]; done) | (simp only [putAll, Act.put, List.setIfInBounds_toArray, List.set_cons_zero, List.set_cons_succ]; rfl)) (hJ5_9_10 (.slice Ao29 y145.length co29, v149) _ ⟨(by (with_reducible repeat (first | apply Kd.R_alloc | apply Kd.R_drewN | apply Kd.R_drew)); exact HO147.out), (by (with_reducible repeat (first | apply Kd.R_alloc | apply Kd.R_drewN | apply Kd.R_drew)); exact HO150.out), (by repeat (with_reducible first | exact HB.out | apply below_alloc | apply pw_below_drewN | apply below_drew1))⟩)
                                            · skip
                                              refine Kd.R_lit_step k65 _ 65 ?hg (N := 30) ?hd (xs := ([(⟨61, strOfNums y148⟩ : S65)] : List (S65))) (inner := [.int .i64 61, .string (strOfNums y148)]) (ok := fun _ => True) (okp := fun _ => True) ?hr ?hp (fun _ hk => hk) trivial (Below.refl _ _) (Nat.le_refl _) (by simp) ?_; (case hd => rfl); (case hg => rfl); (case hr => first | (go_simp; done) | (go_simp; rfl)); (case hp => exact (Reps.c2 (show Kd.M k65 _ _ _ (⟨61, strOfNums y148⟩ : S65) [.int .i64 61, .string (strOfNums y148)] from (k65_mkM _ _ _ (⟨61, strOfNums y148⟩ : S65) )) (Reps.none _ _)))
                                              intro v152 w27 ho28 hb hg_ hnew_
                                              clear hg_ hnew_
                                              (first | rw [← Ny151.out] at ho28 | (simp only [Int.reduceToNat] at ho28; rw [← Ny151.out] at ho28))
                                              have n0_ := Aside0.mk (Kd.R_below (by (with_reducible repeat (first | apply Kd.R_alloc | apply Kd.R_drewN | apply Kd.R_drew)); exact HO150.out) hb)
                                              have n1_ := Aside0.mk (Kd.R_lower ho28 (below_size (by repeat (with_reducible first | exact HB.out | apply below_alloc | apply pw_below_drewN | apply below_drew1))))
                                              have n2_ := Aside0.mk (below_step (by repeat (with_reducible first | exact HB.out | apply below_alloc | apply pw_below_drewN | apply below_drew1)) hb)
                                              clear HO150
                                              clear HB
                                              have HO150 := n0_
                                              have HO153 := n1_
                                              have HB := n2_
                                              clear n0_ n1_ n2_
                                              clear hb ho28
                                              obtain ⟨Ao29, co29, eo29⟩ := Kd.R_slice HO153.out
                                              (first | subst eo29 | (injection eo29 with f1_ f2_ f3_; have f4_ := f1_.symm; have f5_ := f3_.symm; clear f1_ f2_ f3_; subst f4_; subst f5_))
                                              refine hK.out _ _ trivial (fun hHeld => ?_)
                                              clear hK K
                                              refine norm_ (a' := ?_) ?_ ?_
                                              rotate_left
                                              · show Act.put _ (some 30) _ = _
                                                simp only [Act.put, List.setIfInBounds_toArray, List.set_cons_zero, List.set_cons_succ, i64_w, i32_w]
                                                rfl
                                              refine pure_ (i := 13) (N := some 31) (v := ?_) (a' := ?_) #[true, false, false, false, true, false, false, true, true, true, true, true, true, true, true, true, true, false, false] rfl rfl (any_of HT_.out (by kernel_rfl)) (fun _ _ _ h => h) (Or.inl ⟨by rfl, ?_⟩) ?_ ?_
                                              rotate_left
                                              · intro w'
                                                go_simp
                                                with_reducible rfl
                                              rotate_left
                                              · simp only [Act.put, List.setIfInBounds_toArray, List.set_cons_zero, List.set_cons_succ, i64_w, i32_w]
                                                rfl
                                              exact norm_ (by first | (simp only [putAll, Act.put, List.setIfInBounds_toArray, List.set_cons_zero, List.set_cons_succ]; done) | (simp only [putAll, Act.put, List.setIfInBounds_toArray, List.set_cons_zero, List.set_cons_succ]; rfl)) (hJ9_10_12 (v149, .slice Ao29 y151.length co29) _ ⟨(by (with_reducible repeat (first | apply Kd.R_alloc | apply Kd.R_drewN | apply Kd.R_drew)); exact HO150.out), (by (with_reducible repeat (first | apply Kd.R_alloc | apply Kd.R_drewN | apply Kd.R_drew)); exact HO153.out), (by repeat (with_reducible first | exact HB.out | apply below_alloc | apply pw_below_drewN | apply below_drew1))⟩)
                                        · skip
                                          rintro ⟨v146, v149⟩ w28 ⟨h0_, h1_, h2_⟩
                                          have n0_ : Aside0 (Kd.R k65 65 w28 w.heap.size (fun _ => True) v146 y145) := ⟨h0_⟩
                                          have n1_ : Aside0 (Kd.R (Kd.int .u8) 5 w28 w.heap.size (fun _ => True) v149 y148) := ⟨h1_⟩
                                          have n2_ : Aside0 (Below w.heap.size w w28) := ⟨h2_⟩
                                          clear HB
                                          clear h0_ h1_ h2_
                                          have HO147 := n0_
                                          have HO150 := n1_
                                          have HB := n2_
                                          clear n0_ n1_ n2_
                                          have hHeld := trivial
                                          obtain ⟨Ao29, co29, eo29⟩ := Kd.R_slice HO147.out
                                          (first | subst eo29 | (injection eo29 with f1_ f2_ f3_; have f4_ := f1_.symm; have f5_ := f3_.symm; clear f1_ f2_ f3_; subst f4_; subst f5_))
                                          refine norm_ (a' := ?_) ?_ ?_
                                          rotate_left
                                          · simp only [putAll, Act.put, List.setIfInBounds_toArray, List.set_cons_zero, List.set_cons_succ]
                                            rfl
                                          refine two_ (i := 1) (j := 10) (Ni := some 19) (Nj := some 28) #[true, true, false, false, true, true, true, true, true, true, false, false, false, false, true, true, true, false, false] #[true, false, false, false, true, true, true, true, true, true, true, false, false, false, true, true, true, false, false] rfl rfl rfl rfl (two_of HT_.out (by kernel_rfl)) (by decide) (by decide) (fun K hK => ?_) (fun K hK => ?_)
                                          · skip
                                            refine Kd.R_make_step (Kd.int .u8) _ 5 (by rfl) (N := 19) rfl 28 _ _ rfl 16 rfl rfl Try.underlying28 (.int .u8 0) 1 info5 rfl (by decide) (by omega) 0 (ok := fun _ => True) (okp := fun _ => True) rfl (fun _ hk => hk) trivial (by omega) (by omega) (Below.refl _ _) (Nat.le_refl _) ?_
                                            intro v143 w30 ho31 hb hg_ hnew_
                                            clear hg_ hnew_
                                            (first | rw [← Ny142.out] at ho31 | (simp only [Int.reduceToNat] at ho31; rw [← Ny142.out] at ho31))
                                            have n0_ := Aside0.mk (Kd.R_below (by (with_reducible repeat (first | apply Kd.R_alloc | apply Kd.R_drewN | apply Kd.R_drew)); exact HO147.out) hb)
                                            have n1_ := Aside0.mk (Kd.R_elder' (by (with_reducible repeat (first | apply Kd.R_alloc | apply Kd.R_drewN | apply Kd.R_drew)); exact HO150.out) (Kd.R_base ho31) hb)
                                            have n2_ := Aside0.mk (Kd.R_lower (Kd.R_new' ho31 (Kd.R_lt (by (with_reducible repeat (first | apply Kd.R_alloc | apply Kd.R_drewN | apply Kd.R_drew)); exact HO150.out))) (below_size (by repeat (with_reducible first | exact HB.out | apply below_alloc | apply pw_below_drewN | apply below_drew1))))
                                            have n3_ := Aside0.mk (below_step (by repeat (with_reducible first | exact HB.out | apply below_alloc | apply pw_below_drewN | apply below_drew1)) hb)
                                            clear HO147
                                            clear HO150
                                            clear HB
                                            have HO147 := n0_
                                            have HO150 := n1_
                                            have HO144 := n2_
                                            have HB := n3_
                                            clear n0_ n1_ n2_ n3_
                                            clear hb ho31
                                            refine hK.out _ _ trivial (fun hHeld => ?_)
                                            clear hK K
                                            refine norm_ (a' := ?_) ?_ ?_
                                            rotate_left
                                            · show Act.put _ (some 19) _ = _
                                              simp only [Act.put, List.setIfInBounds_toArray, List.set_cons_zero, List.set_cons_succ, i64_w, i32_w]
                                              rfl
                                            exact norm_ (by first | (simp only [putAll, Act.put, List.setIfInBounds_toArray, List.set_cons_zero, List.set_cons_succ]; done) | (simp only [putAll, Act.put, List.setIfInBounds_toArray, List.set_cons_zero, List.set_cons_succ]; rfl)) (hJ1_5_9 (v143, .slice Ao29 y145.length co29, v149) _ ⟨(by (with_reducible repeat (first | apply Kd.R_alloc | apply Kd.R_drewN | apply Kd.R_drew)); exact Kd.R_mono HO144.out (fun _ hk => hk.2)), (by (with_reducible repeat (first | apply Kd.R_alloc | apply Kd.R_drewN | apply Kd.R_drew)); exact HO147.out), (by (with_reducible repeat (first | apply Kd.R_alloc | apply Kd.R_drewN | apply Kd.R_drew)); exact Kd.R_mono HO150.out (fun _ hk => hk.2)), (by repeat (with_reducible first | exact HB.out | apply below_alloc | apply pw_below_drewN | apply below_drew1))⟩)
                                          · skip
                                            have hcv30 := own_string (P := Try.prog) Try.underlying28 Try.underlying5 Try.underlying9 (Kd.own_of_R HO150.out)
                                            refine value_ (w1 := ?_) (v := ?_) (by rfl) rfl ?_ ?_
                                            rotate_left 2
                                            · go_simp
                                              constructor
                                              · rfl
                                              · rfl
                                            clear hcv30
                                            refine hK.out _ _ trivial (fun hHeld => ?_)
                                            clear hK K
                                            refine norm_ (a' := ?_) ?_ ?_
                                            rotate_left
                                            · show Act.put _ (some 28) _ = _
                                              simp only [Act.put, List.setIfInBounds_toArray, List.set_cons_zero, List.set_cons_succ, i64_w, i32_w]
                                              rfl
                                            refine pure_ (i := 11) (N := some 29) (v := ?_) (a' := ?_) #[true, false, false, false, true, true, true, true, true, true, true, true, false, false, true, true, true, false, false] rfl rfl (any_of HT_.out (by kernel_rfl)) (fun _ _ _ h => h) (Or.inl ⟨by rfl, ?_⟩) ?_ ?_
                                            rotate_left
                                            · intro w'
                                              go_simp
                                              with_reducible rfl
                                            rotate_left
                                            · simp only [Act.put, List.setIfInBounds_toArray, List.set_cons_zero, List.set_cons_succ, i64_w, i32_w]
                                              rfl
                                            exact norm_ (by first | (simp only [putAll, Act.put, List.setIfInBounds_toArray, List.set_cons_zero, List.set_cons_succ]; done) | (simp only [putAll, Act.put, List.setIfInBounds_toArray, List.set_cons_zero, List.set_cons_succ]; rfl)) (hJ5_9_10 (.slice Ao29 y145.length co29, v149) _ ⟨(by (with_reducible repeat (first | apply Kd.R_alloc | apply Kd.R_drewN | apply Kd.R_drew)); exact HO147.out), (by (with_reducible repeat (first | apply Kd.R_alloc | apply Kd.R_drewN | apply Kd.R_drew)); exact HO150.out), (by repeat (with_reducible first | exact HB.out | apply below_alloc | apply pw_below_drewN | apply below_drew1))⟩)
                                      · skip
                                        rintro ⟨v143, v149⟩ w27 ⟨h0_, h1_, h2_⟩
                                        have n0_ : Aside0 (Kd.R (Kd.int .u8) 5 w27 w.heap.size (fun k_ => some k_ ≠ (v149 : Value).ownBlock) v143 y142) := ⟨h0_⟩
                                        have n1_ : Aside0 (Kd.R (Kd.int .u8) 5 w27 w.heap.size (fun k_ => some k_ ≠ (v143 : Value).ownBlock) v149 y148) := ⟨h1_⟩
                                        have n2_ : Aside0 (Below w.heap.size w w27) := ⟨h2_⟩
                                        clear HB
                                        clear h0_ h1_ h2_
                                        have HO144 := n0_
                                        have HO150 := n1_
                                        have HB := n2_
                                        clear n0_ n1_ n2_
                                        have hHeld := trivial
                                        refine norm_ (a' := ?_) ?_ ?_
                                        rotate_left
                                        · simp only [putAll, Act.put, List.setIfInBounds_toArray, List.set_cons_zero, List.set_cons_succ]
                                          rfl
                                        refine three_ (i := 2) (j := 5) (k := 10) (Ni := some 20) (Nj := some 23) (Nk := some 28) #[true, true, true, false, true, false, false, true, true, true, false, false, false, false, true, true, true, false, false] #[true, true, false, false, true, true, false, true, true, true, false, false, false, false, true, true, true, false, false] #[true, true, false, false, true, false, false, true, true, true, true, false, false, false, true, true, true, false, false] rfl rfl rfl rfl rfl rfl (three_of HT_.out (by kernel_rfl)) (by decide) (by decide) (by decide) (fun K hK => ?_) (fun K hK => ?_) (fun K hK => ?_)
                                        · skip
                                          have hcv28 := own_string (P := Try.prog) Try.underlying28 Try.underlying5 Try.underlying9 (Kd.own_of_R HO144.out)
                                          refine value_ (w1 := ?_) (v := ?_) (by rfl) rfl ?_ ?_
                                          rotate_left 2
                                          · go_simp
                                            constructor
                                            · rfl
                                            · rfl
                                          clear hcv28
                                          refine hK.out _ _ trivial (fun hHeld => ?_)
                                          clear hK K
                                          refine norm_ (a' := ?_) ?_ ?_
                                          rotate_left
                                          · show Act.put _ (some 20) _ = _
                                            simp only [Act.put, List.setIfInBounds_toArray, List.set_cons_zero, List.set_cons_succ, i64_w, i32_w]
                                            rfl
                                          refine pure_ (i := 3) (N := some 21) (v := ?_) (a' := ?_) #[true, true, true, true, true, false, false, true, true, true, false, false, false, false, true, true, true, false, false] rfl rfl (any_of HT_.out (by kernel_rfl)) (fun _ _ _ h => h) (Or.inl ⟨by rfl, ?_⟩) ?_ ?_
                                          rotate_left
                                          · intro w'
                                            go_simp
                                            with_reducible rfl
                                          rotate_left
                                          · simp only [Act.put, List.setIfInBounds_toArray, List.set_cons_zero, List.set_cons_succ, i64_w, i32_w]
                                            rfl
                                          exact norm_ (by first | (simp only [putAll, Act.put, List.setIfInBounds_toArray, List.set_cons_zero, List.set_cons_succ]; done) | (simp only [putAll, Act.put, List.setIfInBounds_toArray, List.set_cons_zero, List.set_cons_succ]; rfl)) (hJ1_2_9 (v143, v149) _ ⟨(by (with_reducible repeat (first | apply Kd.R_alloc | apply Kd.R_drewN | apply Kd.R_drew)); exact HO144.out), (by (with_reducible repeat (first | apply Kd.R_alloc | apply Kd.R_drewN | apply Kd.R_drew)); exact HO150.out), (by repeat (with_reducible first | exact HB.out | apply below_alloc | apply pw_below_drewN | apply below_drew1))⟩)
                                        · skip
                                          refine Kd.R_lit_step k65 _ 65 ?hg (N := 23) ?hd (xs := ([(⟨61, (⟨#[]⟩ : ByteArray)⟩ : S65)] : List (S65))) (inner := [.int .i64 61, .string (⟨#[]⟩ : ByteArray)]) (ok := fun _ => True) (okp := fun _ => True) ?hr ?hp (fun _ hk => hk) trivial (Below.refl _ _) (Nat.le_refl _) (by simp) ?_; (case hd => rfl); (case hg => rfl); (case hr => first | (go_simp; done) | (go_simp; rfl)); (case hp => exact (Reps.c2 (show Kd.M k65 _ _ _ (⟨61, (⟨#[]⟩ : ByteArray)⟩ : S65) [.int .i64 61, .string (⟨#[]⟩ : ByteArray)] from (k65_mkM _ _ _ (⟨61, (⟨#[]⟩ : ByteArray)⟩ : S65) )) (Reps.none _ _)))
                                          intro v146 w28 ho29 hb hg_ hnew_
                                          clear hg_ hnew_
                                          (first | rw [← Ny145.out] at ho29 | (simp only [Int.reduceToNat] at ho29; rw [← Ny145.out] at ho29))
                                          have n0_ := Aside0.mk (Kd.R_below (by (with_reducible repeat (first | apply Kd.R_alloc | apply Kd.R_drewN | apply Kd.R_drew)); exact HO144.out) hb)
                                          have n1_ := Aside0.mk (Kd.R_below (by (with_reducible repeat (first | apply Kd.R_alloc | apply Kd.R_drewN | apply Kd.R_drew)); exact HO150.out) hb)
                                          have n2_ := Aside0.mk (Kd.R_lower ho29 (below_size (by repeat (with_reducible first | exact HB.out | apply below_alloc | apply pw_below_drewN | apply below_drew1))))
                                          have n3_ := Aside0.mk (below_step (by repeat (with_reducible first | exact HB.out | apply below_alloc | apply pw_below_drewN | apply below_drew1)) hb)
                                          clear HO144
                                          clear HO150
                                          clear HB
                                          have HO144 := n0_
                                          have HO150 := n1_
                                          have HO147 := n2_
                                          have HB := n3_
                                          clear n0_ n1_ n2_ n3_
                                          clear hb ho29
                                          obtain ⟨Ao30, co30, eo30⟩ := Kd.R_slice HO147.out
                                          (first | subst eo30 | (injection eo30 with f1_ f2_ f3_; have f4_ := f1_.symm; have f5_ := f3_.symm; clear f1_ f2_ f3_; subst f4_; subst f5_))
                                          refine hK.out _ _ trivial (fun hHeld => ?_)
                                          clear hK K
                                          refine norm_ (a' := ?_) ?_ ?_
                                          rotate_left
                                          · show Act.put _ (some 23) _ = _
                                            simp only [Act.put, List.setIfInBounds_toArray, List.set_cons_zero, List.set_cons_succ, i64_w, i32_w]
                                            rfl
                                          refine pure_ (i := 6) (N := some 24) (v := ?_) (a' := ?_) #[true, true, false, false, true, true, true, true, true, true, false, false, false, false, true, true, true, false, false] rfl rfl (any_of HT_.out (by kernel_rfl)) (fun _ _ _ h => h) (Or.inl ⟨by rfl, ?_⟩) ?_ ?_
                                          rotate_left
                                          · intro w'
                                            go_simp
                                            with_reducible rfl
                                          rotate_left
                                          · simp only [Act.put, List.setIfInBounds_toArray, List.set_cons_zero, List.set_cons_succ, i64_w, i32_w]
                                            rfl
                                          exact norm_ (by first | (simp only [putAll, Act.put, List.setIfInBounds_toArray, List.set_cons_zero, List.set_cons_succ]; done) | (simp only [putAll, Act.put, List.setIfInBounds_toArray, List.set_cons_zero, List.set_cons_succ]; rfl)) (hJ1_5_9 (v143, .slice Ao30 y145.length co30, v149) _ ⟨(by (with_reducible repeat (first | apply Kd.R_alloc | apply Kd.R_drewN | apply Kd.R_drew)); exact HO144.out), (by (with_reducible repeat (first | apply Kd.R_alloc | apply Kd.R_drewN | apply Kd.R_drew)); exact HO147.out), (by (with_reducible repeat (first | apply Kd.R_alloc | apply Kd.R_drewN | apply Kd.R_drew)); exact HO150.out), (by repeat (with_reducible first | exact HB.out | apply below_alloc | apply pw_below_drewN | apply below_drew1))⟩)
                                        · skip
                                          have hcv28 := own_string (P := Try.prog) Try.underlying28 Try.underlying5 Try.underlying9 (Kd.own_of_R HO150.out)
                                          refine value_ (w1 := ?_) (v := ?_) (by rfl) rfl ?_ ?_
                                          rotate_left 2
                                          · go_simp
                                            constructor
                                            · rfl
                                            · rfl
                                          clear hcv28
                                          refine hK.out _ _ trivial (fun hHeld => ?_)
                                          clear hK K
                                          refine norm_ (a' := ?_) ?_ ?_
                                          rotate_left
                                          · show Act.put _ (some 28) _ = _
                                            simp only [Act.put, List.setIfInBounds_toArray, List.set_cons_zero, List.set_cons_succ, i64_w, i32_w]
                                            rfl
                                          refine pure_ (i := 11) (N := some 29) (v := ?_) (a' := ?_) #[true, true, false, false, true, false, false, true, true, true, true, true, false, false, true, true, true, false, false] rfl rfl (any_of HT_.out (by kernel_rfl)) (fun _ _ _ h => h) (Or.inl ⟨by rfl, ?_⟩) ?_ ?_
                                          rotate_left
                                          · intro w'
                                            go_simp
                                            with_reducible rfl
                                          rotate_left
                                          · simp only [Act.put, List.setIfInBounds_toArray, List.set_cons_zero, List.set_cons_succ, i64_w, i32_w]
                                            rfl
                                          exact norm_ (by first | (simp only [putAll, Act.put, List.setIfInBounds_toArray, List.set_cons_zero, List.set_cons_succ]; done) | (simp only [putAll, Act.put, List.setIfInBounds_toArray, List.set_cons_zero, List.set_cons_succ]; rfl)) (hJ1_9_10 (v143, v149) _ ⟨(by (with_reducible repeat (first | apply Kd.R_alloc | apply Kd.R_drewN | apply Kd.R_drew)); exact HO144.out), (by (with_reducible repeat (first | apply Kd.R_alloc | apply Kd.R_drewN | apply Kd.R_drew)); exact HO150.out), (by repeat (with_reducible first | exact HB.out | apply below_alloc | apply pw_below_drewN | apply below_drew1))⟩)
                                    · skip
                                      rintro ⟨v143, v146⟩ w28 ⟨h0_, h1_, h2_⟩
                                      have n0_ : Aside0 (Kd.R (Kd.int .u8) 5 w28 w.heap.size (fun _ => True) v143 y142) := ⟨h0_⟩
                                      have n1_ : Aside0 (Kd.R k65 65 w28 w.heap.size (fun _ => True) v146 y145) := ⟨h1_⟩
                                      have n2_ : Aside0 (Below w.heap.size w w28) := ⟨h2_⟩
                                      clear HB
                                      clear h0_ h1_ h2_
                                      have HO144 := n0_
                                      have HO147 := n1_
                                      have HB := n2_
                                      clear n0_ n1_ n2_
                                      have hHeld := trivial
                                      obtain ⟨Ao29, co29, eo29⟩ := Kd.R_slice HO147.out
                                      (first | subst eo29 | (injection eo29 with f1_ f2_ f3_; have f4_ := f1_.symm; have f5_ := f3_.symm; clear f1_ f2_ f3_; subst f4_; subst f5_))
                                      refine norm_ (a' := ?_) ?_ ?_
                                      rotate_left
                                      · simp only [putAll, Act.put, List.setIfInBounds_toArray, List.set_cons_zero, List.set_cons_succ]
                                        rfl
                                      refine two_ (i := 2) (j := 9) (Ni := some 20) (Nj := some 27) #[true, true, true, false, true, true, true, true, true, false, false, false, false, false, true, true, true, false, false] #[true, true, false, false, true, true, true, true, true, true, false, false, false, false, true, true, true, false, false] rfl rfl rfl rfl (two_of HT_.out (by kernel_rfl)) (by decide) (by decide) (fun K hK => ?_) (fun K hK => ?_)
                                      · skip
                                        have hcv30 := own_string (P := Try.prog) Try.underlying28 Try.underlying5 Try.underlying9 (Kd.own_of_R HO144.out)
                                        refine value_ (w1 := ?_) (v := ?_) (by rfl) rfl ?_ ?_
                                        rotate_left 2
                                        · go_simp
                                          constructor
                                          · rfl
                                          · rfl
                                        clear hcv30
                                        refine hK.out _ _ trivial (fun hHeld => ?_)
                                        clear hK K
                                        refine norm_ (a' := ?_) ?_ ?_
                                        rotate_left
                                        · show Act.put _ (some 20) _ = _
                                          simp only [Act.put, List.setIfInBounds_toArray, List.set_cons_zero, List.set_cons_succ, i64_w, i32_w]
                                          rfl
                                        refine pure_ (i := 3) (N := some 21) (v := ?_) (a' := ?_) #[true, true, true, true, true, true, true, true, true, false, false, false, false, false, true, true, true, false, false] rfl rfl (any_of HT_.out (by kernel_rfl)) (fun _ _ _ h => h) (Or.inl ⟨by rfl, ?_⟩) ?_ ?_
                                        rotate_left
                                        · intro w'
                                          go_simp
                                          with_reducible rfl
                                        rotate_left
                                        · simp only [Act.put, List.setIfInBounds_toArray, List.set_cons_zero, List.set_cons_succ, i64_w, i32_w]
                                          rfl
                                        exact norm_ (by first | (simp only [putAll, Act.put, List.setIfInBounds_toArray, List.set_cons_zero, List.set_cons_succ]; done) | (simp only [putAll, Act.put, List.setIfInBounds_toArray, List.set_cons_zero, List.set_cons_succ]; rfl)) (hJ1_2_5 (v143, .slice Ao29 y145.length co29) _ ⟨(by (with_reducible repeat (first | apply Kd.R_alloc | apply Kd.R_drewN | apply Kd.R_drew)); exact HO144.out), (by (with_reducible repeat (first | apply Kd.R_alloc | apply Kd.R_drewN | apply Kd.R_drew)); exact HO147.out), (by repeat (with_reducible first | exact HB.out | apply below_alloc | apply pw_below_drewN | apply below_drew1))⟩)
                                      · skip
                                        refine Kd.R_make_step (Kd.int .u8) _ 5 (by rfl) (N := 27) rfl 28 _ _ rfl ji6 rfl rfl Try.underlying28 (.int .u8 0) 1 info5 rfl (by decide) (by omega) 0 (ok := fun _ => True) (okp := fun _ => True) rfl (fun _ hk => hk) trivial (of_decide_eq_true (by first | (with_reducible assumption) | assumption)) (Nat.le_trans (Nat.mul_le_mul_right _ (of_decide_eq_true (by first | (with_reducible assumption) | assumption) : ji6.toNat ≤ 281474976710656)) (by omega)) (Below.refl _ _) (Nat.le_refl _) ?_
                                        intro v149 w30 ho31 hb hg_ hnew_
                                        clear hg_ hnew_
                                        (first | rw [← Ny148.out] at ho31 | (simp only [Int.reduceToNat] at ho31; rw [← Ny148.out] at ho31))
                                        have n0_ := Aside0.mk (Kd.R_elder' (by (with_reducible repeat (first | apply Kd.R_alloc | apply Kd.R_drewN | apply Kd.R_drew)); exact HO144.out) (Kd.R_base ho31) hb)
                                        have n1_ := Aside0.mk (Kd.R_below (by (with_reducible repeat (first | apply Kd.R_alloc | apply Kd.R_drewN | apply Kd.R_drew)); exact HO147.out) hb)
                                        have n2_ := Aside0.mk (Kd.R_lower (Kd.R_new' ho31 (Kd.R_lt (by (with_reducible repeat (first | apply Kd.R_alloc | apply Kd.R_drewN | apply Kd.R_drew)); exact HO144.out))) (below_size (by repeat (with_reducible first | exact HB.out | apply below_alloc | apply pw_below_drewN | apply below_drew1))))
                                        have n3_ := Aside0.mk (below_step (by repeat (with_reducible first | exact HB.out | apply below_alloc | apply pw_below_drewN | apply below_drew1)) hb)
                                        clear HO144
                                        clear HO147
                                        clear HB
                                        have HO144 := n0_
                                        have HO147 := n1_
                                        have HO150 := n2_
                                        have HB := n3_
                                        clear n0_ n1_ n2_ n3_
                                        clear hb ho31
                                        refine hK.out _ _ trivial (fun hHeld => ?_)
                                        clear hK K
                                        refine norm_ (a' := ?_) ?_ ?_
                                        rotate_left
                                        · show Act.put _ (some 27) _ = _
                                          simp only [Act.put, List.setIfInBounds_toArray, List.set_cons_zero, List.set_cons_succ, i64_w, i32_w]
                                          rfl
                                        exact norm_ (by first | (simp only [putAll, Act.put, List.setIfInBounds_toArray, List.set_cons_zero, List.set_cons_succ]; done) | (simp only [putAll, Act.put, List.setIfInBounds_toArray, List.set_cons_zero, List.set_cons_succ]; rfl)) (hJ1_5_9 (v143, .slice Ao29 y145.length co29, v149) _ ⟨(by (with_reducible repeat (first | apply Kd.R_alloc | apply Kd.R_drewN | apply Kd.R_drew)); exact Kd.R_mono HO144.out (fun _ hk => hk.2)), (by (with_reducible repeat (first | apply Kd.R_alloc | apply Kd.R_drewN | apply Kd.R_drew)); exact HO147.out), (by (with_reducible repeat (first | apply Kd.R_alloc | apply Kd.R_drewN | apply Kd.R_drew)); exact Kd.R_mono HO150.out (fun _ hk => hk.2)), (by repeat (with_reducible first | exact HB.out | apply below_alloc | apply pw_below_drewN | apply below_drew1))⟩)
                                  · skip
                                    rintro v143 w26 ⟨h0_, h1_⟩
                                    have n0_ : Aside0 (Kd.R (Kd.int .u8) 5 w26 w.heap.size (fun _ => True) v143 y142) := ⟨h0_⟩
                                    have n1_ : Aside0 (Below w.heap.size w w26) := ⟨h1_⟩
                                    clear HB
                                    clear h0_ h1_
                                    have HO144 := n0_
                                    have HB := n1_
                                    clear n0_ n1_
                                    have hHeld := trivial
                                    refine norm_ (a' := ?_) ?_ ?_
                                    rotate_left
                                    · simp only [putAll, Act.put, List.setIfInBounds_toArray, List.set_cons_zero, List.set_cons_succ]
                                      rfl
                                    refine two_ (i := 5) (j := 9) (Ni := some 23) (Nj := some 27) #[true, true, true, true, true, true, false, true, true, false, false, false, false, false, true, true, true, false, false] #[true, true, true, true, true, false, false, true, true, true, false, false, false, false, true, true, true, false, false] rfl rfl rfl rfl (two_of HT_.out (by kernel_rfl)) (by decide) (by decide) (fun K hK => ?_) (fun K hK => ?_)
                                    · skip
                                      refine Kd.R_lit_step k65 _ 65 ?hg (N := 23) ?hd (xs := ([(⟨61, (⟨#[]⟩ : ByteArray)⟩ : S65)] : List (S65))) (inner := [.int .i64 61, .string (⟨#[]⟩ : ByteArray)]) (ok := fun _ => True) (okp := fun _ => True) ?hr ?hp (fun _ hk => hk) trivial (Below.refl _ _) (Nat.le_refl _) (by simp) ?_; (case hd => rfl); (case hg => rfl); (case hr => first | (go_simp; done) | (go_simp; rfl)); (case hp => exact (Reps.c2 (show Kd.M k65 _ _ _ (⟨61, (⟨#[]⟩ : ByteArray)⟩ : S65) [.int .i64 61, .string (⟨#[]⟩ : ByteArray)] from (k65_mkM _ _ _ (⟨61, (⟨#[]⟩ : ByteArray)⟩ : S65) )) (Reps.none _ _)))
                                      intro v146 w27 ho28 hb hg_ hnew_
                                      clear hg_ hnew_
                                      (first | rw [← Ny145.out] at ho28 | (simp only [Int.reduceToNat] at ho28; rw [← Ny145.out] at ho28))
                                      have n0_ := Aside0.mk (Kd.R_below (by (with_reducible repeat (first | apply Kd.R_alloc | apply Kd.R_drewN | apply Kd.R_drew)); exact HO144.out) hb)
                                      have n1_ := Aside0.mk (Kd.R_lower ho28 (below_size (by repeat (with_reducible first | exact HB.out | apply below_alloc | apply pw_below_drewN | apply below_drew1))))
                                      have n2_ := Aside0.mk (below_step (by repeat (with_reducible first | exact HB.out | apply below_alloc | apply pw_below_drewN | apply below_drew1)) hb)
                                      clear HO144
                                      clear HB
                                      have HO144 := n0_
                                      have HO147 := n1_
                                      have HB := n2_
                                      clear n0_ n1_ n2_
                                      clear hb ho28
                                      obtain ⟨Ao29, co29, eo29⟩ := Kd.R_slice HO147.out
                                      (first | subst eo29 | (injection eo29 with f1_ f2_ f3_; have f4_ := f1_.symm; have f5_ := f3_.symm; clear f1_ f2_ f3_; subst f4_; subst f5_))
                                      refine hK.out _ _ trivial (fun hHeld => ?_)
                                      clear hK K
                                      refine norm_ (a' := ?_) ?_ ?_
                                      rotate_left
                                      · show Act.put _ (some 23) _ = _
                                        simp only [Act.put, List.setIfInBounds_toArray, List.set_cons_zero, List.set_cons_succ, i64_w, i32_w]
                                        rfl
                                      refine pure_ (i := 6) (N := some 24) (v := ?_) (a' := ?_) #[true, true, true, true, true, true, true, true, true, false, false, false, false, false, true, true, true, false, false] rfl rfl (any_of HT_.out (by kernel_rfl)) (fun _ _ _ h => h) (Or.inl ⟨by rfl, ?_⟩) ?_ ?_
                                      rotate_left
                                      · intro w'
                                        go_simp
                                        with_reducible rfl
                                      rotate_left
                                      · simp only [Act.put, List.setIfInBounds_toArray, List.set_cons_zero, List.set_cons_succ, i64_w, i32_w]
                                        rfl
                                      exact norm_ (by first | (simp only [putAll, Act.put, List.setIfInBounds_toArray, List.set_cons_zero, List.set_cons_succ]; done) | (simp only [putAll, Act.put, List.setIfInBounds_toArray, List.set_cons_zero, List.set_cons_succ]; rfl)) (hJ1_2_5 (v143, .slice Ao29 y145.length co29) _ ⟨(by (with_reducible repeat (first | apply Kd.R_alloc | apply Kd.R_drewN | apply Kd.R_drew)); exact HO144.out), (by (with_reducible repeat (first | apply Kd.R_alloc | apply Kd.R_drewN | apply Kd.R_drew)); exact HO147.out), (by repeat (with_reducible first | exact HB.out | apply below_alloc | apply pw_below_drewN | apply below_drew1))⟩)
                                    · skip
                                      refine Kd.R_make_step (Kd.int .u8) _ 5 (by rfl) (N := 27) rfl 28 _ _ rfl ji6 rfl rfl Try.underlying28 (.int .u8 0) 1 info5 rfl (by decide) (by omega) 0 (ok := fun _ => True) (okp := fun _ => True) rfl (fun _ hk => hk) trivial (of_decide_eq_true (by first | (with_reducible assumption) | assumption)) (Nat.le_trans (Nat.mul_le_mul_right _ (of_decide_eq_true (by first | (with_reducible assumption) | assumption) : ji6.toNat ≤ 281474976710656)) (by omega)) (Below.refl _ _) (Nat.le_refl _) ?_
                                      intro v149 w27 ho28 hb hg_ hnew_
                                      clear hg_ hnew_
                                      (first | rw [← Ny148.out] at ho28 | (simp only [Int.reduceToNat] at ho28; rw [← Ny148.out] at ho28))
                                      have n0_ := Aside0.mk (Kd.R_elder' (by (with_reducible repeat (first | apply Kd.R_alloc | apply Kd.R_drewN | apply Kd.R_drew)); exact HO144.out) (Kd.R_base ho28) hb)
                                      have n1_ := Aside0.mk (Kd.R_lower (Kd.R_new' ho28 (Kd.R_lt (by (with_reducible repeat (first | apply Kd.R_alloc | apply Kd.R_drewN | apply Kd.R_drew)); exact HO144.out))) (below_size (by repeat (with_reducible first | exact HB.out | apply below_alloc | apply pw_below_drewN | apply below_drew1))))
                                      have n2_ := Aside0.mk (below_step (by repeat (with_reducible first | exact HB.out | apply below_alloc | apply pw_below_drewN | apply below_drew1)) hb)
                                      clear HO144
                                      clear HB
                                      have HO144 := n0_
                                      have HO150 := n1_
                                      have HB := n2_
                                      clear n0_ n1_ n2_
                                      clear hb ho28
                                      refine hK.out _ _ trivial (fun hHeld => ?_)
                                      clear hK K
                                      refine norm_ (a' := ?_) ?_ ?_
                                      rotate_left
                                      · show Act.put _ (some 27) _ = _
                                        simp only [Act.put, List.setIfInBounds_toArray, List.set_cons_zero, List.set_cons_succ, i64_w, i32_w]
                                        rfl
                                      exact norm_ (by first | (simp only [putAll, Act.put, List.setIfInBounds_toArray, List.set_cons_zero, List.set_cons_succ]; done) | (simp only [putAll, Act.put, List.setIfInBounds_toArray, List.set_cons_zero, List.set_cons_succ]; rfl)) (hJ1_2_9 (v143, v149) _ ⟨(by (with_reducible repeat (first | apply Kd.R_alloc | apply Kd.R_drewN | apply Kd.R_drew)); exact Kd.R_mono HO144.out (fun _ hk => hk.2)), (by (with_reducible repeat (first | apply Kd.R_alloc | apply Kd.R_drewN | apply Kd.R_drew)); exact Kd.R_mono HO150.out (fun _ hk => hk.2)), (by repeat (with_reducible first | exact HB.out | apply below_alloc | apply pw_below_drewN | apply below_drew1))⟩)
                                · skip
                                  rintro ⟨v149, v152⟩ w29 ⟨h0_, h1_, h2_⟩
                                  have n0_ : Aside0 (Kd.R (Kd.int .u8) 5 w29 w.heap.size (fun _ => True) v149 y148) := ⟨h0_⟩
                                  have n1_ : Aside0 (Kd.R k65 65 w29 w.heap.size (fun _ => True) v152 y151) := ⟨h1_⟩
                                  have n2_ : Aside0 (Below w.heap.size w w29) := ⟨h2_⟩
                                  clear HB
                                  clear h0_ h1_ h2_
                                  have HO150 := n0_
                                  have HO153 := n1_
                                  have HB := n2_
                                  clear n0_ n1_ n2_
                                  have hHeld := trivial
                                  obtain ⟨Ao30, co30, eo30⟩ := Kd.R_slice HO153.out
                                  (first | subst eo30 | (injection eo30 with f1_ f2_ f3_; have f4_ := f1_.symm; have f5_ := f3_.symm; clear f1_ f2_ f3_; subst f4_; subst f5_))
                                  refine norm_ (a' := ?_) ?_ ?_
                                  rotate_left
                                  · simp only [putAll, Act.put, List.setIfInBounds_toArray, List.set_cons_zero, List.set_cons_succ]
                                    rfl
                                  refine two_ (i := 1) (j := 5) (Ni := some 19) (Nj := some 23) #[true, true, false, false, true, false, false, true, true, true, true, true, true, true, true, true, true, false, false] #[true, false, false, false, true, true, false, true, true, true, true, true, true, true, true, true, true, false, false] rfl rfl rfl rfl (two_of HT_.out (by kernel_rfl)) (by decide) (by decide) (fun K hK => ?_) (fun K hK => ?_)
                                  · skip
                                    refine Kd.R_make_step (Kd.int .u8) _ 5 (by rfl) (N := 19) rfl 28 _ _ rfl 16 rfl rfl Try.underlying28 (.int .u8 0) 1 info5 rfl (by decide) (by omega) 0 (ok := fun _ => True) (okp := fun _ => True) rfl (fun _ hk => hk) trivial (by omega) (by omega) (Below.refl _ _) (Nat.le_refl _) ?_
                                    intro v143 w31 ho32 hb hg_ hnew_
                                    clear hg_ hnew_
                                    (first | rw [← Ny142.out] at ho32 | (simp only [Int.reduceToNat] at ho32; rw [← Ny142.out] at ho32))
                                    have n0_ := Aside0.mk (Kd.R_elder' (by (with_reducible repeat (first | apply Kd.R_alloc | apply Kd.R_drewN | apply Kd.R_drew)); exact HO150.out) (Kd.R_base ho32) hb)
                                    have n1_ := Aside0.mk (Kd.R_below (by (with_reducible repeat (first | apply Kd.R_alloc | apply Kd.R_drewN | apply Kd.R_drew)); exact HO153.out) hb)
                                    have n2_ := Aside0.mk (Kd.R_lower (Kd.R_new' ho32 (Kd.R_lt (by (with_reducible repeat (first | apply Kd.R_alloc | apply Kd.R_drewN | apply Kd.R_drew)); exact HO150.out))) (below_size (by repeat (with_reducible first | exact HB.out | apply below_alloc | apply pw_below_drewN | apply below_drew1))))
                                    have n3_ := Aside0.mk (below_step (by repeat (with_reducible first | exact HB.out | apply below_alloc | apply pw_below_drewN | apply below_drew1)) hb)
                                    clear HO150
                                    clear HO153
                                    clear HB
                                    have HO150 := n0_
                                    have HO153 := n1_
                                    have HO144 := n2_
                                    have HB := n3_
                                    clear n0_ n1_ n2_ n3_
                                    clear hb ho32
                                    refine hK.out _ _ trivial (fun hHeld => ?_)
                                    clear hK K
                                    refine norm_ (a' := ?_) ?_ ?_
                                    rotate_left
                                    · show Act.put _ (some 19) _ = _
                                      simp only [Act.put, List.setIfInBounds_toArray, List.set_cons_zero, List.set_cons_succ, i64_w, i32_w]
                                      rfl
                                    exact norm_ (by first | (simp only [putAll, Act.put, List.setIfInBounds_toArray, List.set_cons_zero, List.set_cons_succ]; done) | (simp only [putAll, Act.put, List.setIfInBounds_toArray, List.set_cons_zero, List.set_cons_succ]; rfl)) (hJ1_9_10_12 (v143, v149, .slice Ao30 y151.length co30) _ ⟨(by (with_reducible repeat (first | apply Kd.R_alloc | apply Kd.R_drewN | apply Kd.R_drew)); exact Kd.R_mono HO144.out (fun _ hk => hk.2)), (by (with_reducible repeat (first | apply Kd.R_alloc | apply Kd.R_drewN | apply Kd.R_drew)); exact Kd.R_mono HO150.out (fun _ hk => hk.2)), (by (with_reducible repeat (first | apply Kd.R_alloc | apply Kd.R_drewN | apply Kd.R_drew)); exact HO153.out), (by repeat (with_reducible first | exact HB.out | apply below_alloc | apply pw_below_drewN | apply below_drew1))⟩)
                                  · skip
                                    refine Kd.R_lit_step k65 _ 65 ?hg (N := 23) ?hd (xs := ([(⟨61, (⟨#[]⟩ : ByteArray)⟩ : S65)] : List (S65))) (inner := [.int .i64 61, .string (⟨#[]⟩ : ByteArray)]) (ok := fun _ => True) (okp := fun _ => True) ?hr ?hp (fun _ hk => hk) trivial (Below.refl _ _) (Nat.le_refl _) (by simp) ?_; (case hd => rfl); (case hg => rfl); (case hr => first | (go_simp; done) | (go_simp; rfl)); (case hp => exact (Reps.c2 (show Kd.M k65 _ _ _ (⟨61, (⟨#[]⟩ : ByteArray)⟩ : S65) [.int .i64 61, .string (⟨#[]⟩ : ByteArray)] from (k65_mkM _ _ _ (⟨61, (⟨#[]⟩ : ByteArray)⟩ : S65) )) (Reps.none _ _)))
                                    intro v146 w31 ho32 hb hg_ hnew_
                                    clear hg_ hnew_
                                    (first | rw [← Ny145.out] at ho32 | (simp only [Int.reduceToNat] at ho32; rw [← Ny145.out] at ho32))
                                    have n0_ := Aside0.mk (Kd.R_below (by (with_reducible repeat (first | apply Kd.R_alloc | apply Kd.R_drewN | apply Kd.R_drew)); exact HO150.out) hb)
                                    have n1_ := Aside0.mk (Kd.R_elder' (by (with_reducible repeat (first | apply Kd.R_alloc | apply Kd.R_drewN | apply Kd.R_drew)); exact HO153.out) (Kd.R_base ho32) hb)
                                    have n2_ := Aside0.mk (Kd.R_lower (Kd.R_new' ho32 (Kd.R_lt (by (with_reducible repeat (first | apply Kd.R_alloc | apply Kd.R_drewN | apply Kd.R_drew)); exact HO153.out))) (below_size (by repeat (with_reducible first | exact HB.out | apply below_alloc | apply pw_below_drewN | apply below_drew1))))
                                    have n3_ := Aside0.mk (below_step (by repeat (with_reducible first | exact HB.out | apply below_alloc | apply pw_below_drewN | apply below_drew1)) hb)
                                    clear HO150
                                    clear HO153
                                    clear HB
                                    have HO150 := n0_
                                    have HO153 := n1_
                                    have HO147 := n2_
                                    have HB := n3_
                                    clear n0_ n1_ n2_ n3_
                                    clear hb ho32
                                    obtain ⟨Ao33, co33, eo33⟩ := Kd.R_slice HO147.out
                                    (first | subst eo33 | (injection eo33 with f1_ f2_ f3_; have f4_ := f1_.symm; have f5_ := f3_.symm; clear f1_ f2_ f3_; subst f4_; subst f5_))
                                    refine hK.out _ _ trivial (fun hHeld => ?_)
                                    clear hK K
                                    refine norm_ (a' := ?_) ?_ ?_
                                    rotate_left
                                    · show Act.put _ (some 23) _ = _
                                      simp only [Act.put, List.setIfInBounds_toArray, List.set_cons_zero, List.set_cons_succ, i64_w, i32_w]
                                      rfl
                                    refine pure_ (i := 6) (N := some 24) (v := ?_) (a' := ?_) #[true, false, false, false, true, true, true, true, true, true, true, true, true, true, true, true, true, false, false] rfl rfl (any_of HT_.out (by kernel_rfl)) (fun _ _ _ h => h) (Or.inl ⟨by rfl, ?_⟩) ?_ ?_
                                    rotate_left
                                    · intro w'
                                      go_simp
                                      with_reducible rfl
                                    rotate_left
                                    · simp only [Act.put, List.setIfInBounds_toArray, List.set_cons_zero, List.set_cons_succ, i64_w, i32_w]
                                      rfl
                                    exact norm_ (by first | (simp only [putAll, Act.put, List.setIfInBounds_toArray, List.set_cons_zero, List.set_cons_succ]; done) | (simp only [putAll, Act.put, List.setIfInBounds_toArray, List.set_cons_zero, List.set_cons_succ]; rfl)) (hJ5_9_10_12 (.slice Ao33 y145.length co33, v149, .slice Ao30 y151.length co30) _ ⟨(by (with_reducible repeat (first | apply Kd.R_alloc | apply Kd.R_drewN | apply Kd.R_drew)); exact Kd.R_mono HO147.out (fun _ hk => hk.2)), (by (with_reducible repeat (first | apply Kd.R_alloc | apply Kd.R_drewN | apply Kd.R_drew)); exact HO150.out), (by (with_reducible repeat (first | apply Kd.R_alloc | apply Kd.R_drewN | apply Kd.R_drew)); exact Kd.R_mono HO153.out (fun _ hk => hk.2)), (by repeat (with_reducible first | exact HB.out | apply below_alloc | apply pw_below_drewN | apply below_drew1))⟩)
                              · skip
                                rintro ⟨v146, v149⟩ w29 ⟨h0_, h1_, h2_⟩
                                have n0_ : Aside0 (Kd.R k65 65 w29 w.heap.size (fun _ => True) v146 y145) := ⟨h0_⟩
                                have n1_ : Aside0 (Kd.R (Kd.int .u8) 5 w29 w.heap.size (fun _ => True) v149 y148) := ⟨h1_⟩
                                have n2_ : Aside0 (Below w.heap.size w w29) := ⟨h2_⟩
                                clear HB
                                clear h0_ h1_ h2_
                                have HO147 := n0_
                                have HO150 := n1_
                                have HB := n2_
                                clear n0_ n1_ n2_
                                have hHeld := trivial
                                obtain ⟨Ao30, co30, eo30⟩ := Kd.R_slice HO147.out
                                (first | subst eo30 | (injection eo30 with f1_ f2_ f3_; have f4_ := f1_.symm; have f5_ := f3_.symm; clear f1_ f2_ f3_; subst f4_; subst f5_))
                                refine norm_ (a' := ?_) ?_ ?_
                                rotate_left
                                · simp only [putAll, Act.put, List.setIfInBounds_toArray, List.set_cons_zero, List.set_cons_succ]
                                  rfl
                                refine two_ (i := 1) (j := 12) (Ni := some 19) (Nj := some 30) #[true, true, false, false, true, true, true, true, true, true, true, true, false, false, true, true, true, false, false] #[true, false, false, false, true, true, true, true, true, true, true, true, true, false, true, true, true, false, false] rfl rfl rfl rfl (two_of HT_.out (by kernel_rfl)) (by decide) (by decide) (fun K hK => ?_) (fun K hK => ?_)
                                · skip
                                  refine Kd.R_make_step (Kd.int .u8) _ 5 (by rfl) (N := 19) rfl 28 _ _ rfl 16 rfl rfl Try.underlying28 (.int .u8 0) 1 info5 rfl (by decide) (by omega) 0 (ok := fun _ => True) (okp := fun _ => True) rfl (fun _ hk => hk) trivial (by omega) (by omega) (Below.refl _ _) (Nat.le_refl _) ?_
                                  intro v143 w31 ho32 hb hg_ hnew_
                                  clear hg_ hnew_
                                  (first | rw [← Ny142.out] at ho32 | (simp only [Int.reduceToNat] at ho32; rw [← Ny142.out] at ho32))
                                  have n0_ := Aside0.mk (Kd.R_below (by (with_reducible repeat (first | apply Kd.R_alloc | apply Kd.R_drewN | apply Kd.R_drew)); exact HO147.out) hb)
                                  have n1_ := Aside0.mk (Kd.R_elder' (by (with_reducible repeat (first | apply Kd.R_alloc | apply Kd.R_drewN | apply Kd.R_drew)); exact HO150.out) (Kd.R_base ho32) hb)
                                  have n2_ := Aside0.mk (Kd.R_lower (Kd.R_new' ho32 (Kd.R_lt (by (with_reducible repeat (first | apply Kd.R_alloc | apply Kd.R_drewN | apply Kd.R_drew)); exact HO150.out))) (below_size (by repeat (with_reducible first | exact HB.out | apply below_alloc | apply pw_below_drewN | apply below_drew1))))
                                  have n3_ := Aside0.mk (below_step (by repeat (with_reducible first | exact HB.out | apply below_alloc | apply pw_below_drewN | apply below_drew1)) hb)
                                  clear HO147
                                  clear HO150
                                  clear HB
                                  have HO147 := n0_
                                  have HO150 := n1_
                                  have HO144 := n2_
                                  have HB := n3_
                                  clear n0_ n1_ n2_ n3_
                                  clear hb ho32
                                  refine hK.out _ _ trivial (fun hHeld => ?_)
                                  clear hK K
                                  refine norm_ (a' := ?_) ?_ ?_
                                  rotate_left
                                  · show Act.put _ (some 19) _ = _
                                    simp only [Act.put, List.setIfInBounds_toArray, List.set_cons_zero, List.set_cons_succ, i64_w, i32_w]
                                    rfl
                                  exact norm_ (by first | (simp only [putAll, Act.put, List.setIfInBounds_toArray, List.set_cons_zero, List.set_cons_succ]; done) | (simp only [putAll, Act.put, List.setIfInBounds_toArray, List.set_cons_zero, List.set_cons_succ]; rfl)) (hJ1_5_9_10 (v143, .slice Ao30 y145.length co30, v149) _ ⟨(by (with_reducible repeat (first | apply Kd.R_alloc | apply Kd.R_drewN | apply Kd.R_drew)); exact Kd.R_mono HO144.out (fun _ hk => hk.2)), (by (with_reducible repeat (first | apply Kd.R_alloc | apply Kd.R_drewN | apply Kd.R_drew)); exact HO147.out), (by (with_reducible repeat (first | apply Kd.R_alloc | apply Kd.R_drewN | apply Kd.R_drew)); exact Kd.R_mono HO150.out (fun _ hk => hk.2)), (by repeat (with_reducible first | exact HB.out | apply below_alloc | apply pw_below_drewN | apply below_drew1))⟩)
                                · skip
                                  refine Kd.R_lit_step k65 _ 65 ?hg (N := 30) ?hd (xs := ([(⟨61, strOfNums y148⟩ : S65)] : List (S65))) (inner := [.int .i64 61, .string (strOfNums y148)]) (ok := fun _ => True) (okp := fun _ => True) ?hr ?hp (fun _ hk => hk) trivial (Below.refl _ _) (Nat.le_refl _) (by simp) ?_; (case hd => rfl); (case hg => rfl); (case hr => first | (go_simp; done) | (go_simp; rfl)); (case hp => exact (Reps.c2 (show Kd.M k65 _ _ _ (⟨61, strOfNums y148⟩ : S65) [.int .i64 61, .string (strOfNums y148)] from (k65_mkM _ _ _ (⟨61, strOfNums y148⟩ : S65) )) (Reps.none _ _)))
                                  intro v152 w31 ho32 hb hg_ hnew_
                                  clear hg_ hnew_
                                  (first | rw [← Ny151.out] at ho32 | (simp only [Int.reduceToNat] at ho32; rw [← Ny151.out] at ho32))
                                  have n0_ := Aside0.mk (Kd.R_elder' (by (with_reducible repeat (first | apply Kd.R_alloc | apply Kd.R_drewN | apply Kd.R_drew)); exact HO147.out) (Kd.R_base ho32) hb)
                                  have n1_ := Aside0.mk (Kd.R_below (by (with_reducible repeat (first | apply Kd.R_alloc | apply Kd.R_drewN | apply Kd.R_drew)); exact HO150.out) hb)
                                  have n2_ := Aside0.mk (Kd.R_lower (Kd.R_new' ho32 (Kd.R_lt (by (with_reducible repeat (first | apply Kd.R_alloc | apply Kd.R_drewN | apply Kd.R_drew)); exact HO147.out))) (below_size (by repeat (with_reducible first | exact HB.out | apply below_alloc | apply pw_below_drewN | apply below_drew1))))
                                  have n3_ := Aside0.mk (below_step (by repeat (with_reducible first | exact HB.out | apply below_alloc | apply pw_below_drewN | apply below_drew1)) hb)
                                  clear HO147
                                  clear HO150
                                  clear HB
                                  have HO147 := n0_
                                  have HO150 := n1_
                                  have HO153 := n2_
                                  have HB := n3_
                                  clear n0_ n1_ n2_ n3_
                                  clear hb ho32
                                  obtain ⟨Ao33, co33, eo33⟩ := Kd.R_slice HO153.out
                                  (first | subst eo33 | (injection eo33 with f1_ f2_ f3_; have f4_ := f1_.symm; have f5_ := f3_.symm; clear f1_ f2_ f3_; subst f4_; subst f5_))
                                  refine hK.out _ _ trivial (fun hHeld => ?_)
                                  clear hK K
                                  refine norm_ (a' := ?_) ?_ ?_
                                  rotate_left
                                  · show Act.put _ (some 30) _ = _
                                    simp only [Act.put, List.setIfInBounds_toArray, List.set_cons_zero, List.set_cons_succ, i64_w, i32_w]
                                    rfl
                                  refine pure_ (i := 13) (N := some 31) (v := ?_) (a' := ?_) #[true, false, false, false, true, true, true, true, true, true, true, true, true, true, true, true, true, false, false] rfl rfl (any_of HT_.out (by kernel_rfl)) (fun _ _ _ h => h) (Or.inl ⟨by rfl, ?_⟩) ?_ ?_
                                  rotate_left
                                  · intro w'
                                    go_simp
                                    with_reducible rfl
                                  rotate_left
                                  · simp only [Act.put, List.setIfInBounds_toArray, List.set_cons_zero, List.set_cons_succ, i64_w, i32_w]
                                    rfl
                                  exact norm_ (by first | (simp only [putAll, Act.put, List.setIfInBounds_toArray, List.set_cons_zero, List.set_cons_succ]; done) | (simp only [putAll, Act.put, List.setIfInBounds_toArray, List.set_cons_zero, List.set_cons_succ]; rfl)) (hJ5_9_10_12 (.slice Ao30 y145.length co30, v149, .slice Ao33 y151.length co33) _ ⟨(by (with_reducible repeat (first | apply Kd.R_alloc | apply Kd.R_drewN | apply Kd.R_drew)); exact Kd.R_mono HO147.out (fun _ hk => hk.2)), (by (with_reducible repeat (first | apply Kd.R_alloc | apply Kd.R_drewN | apply Kd.R_drew)); exact HO150.out), (by (with_reducible repeat (first | apply Kd.R_alloc | apply Kd.R_drewN | apply Kd.R_drew)); exact Kd.R_mono HO153.out (fun _ hk => hk.2)), (by repeat (with_reducible first | exact HB.out | apply below_alloc | apply pw_below_drewN | apply below_drew1))⟩)
                            · skip
                              rintro ⟨v143, v149⟩ w28 ⟨h0_, h1_, h2_⟩
                              have n0_ : Aside0 (Kd.R (Kd.int .u8) 5 w28 w.heap.size (fun k_ => some k_ ≠ (v149 : Value).ownBlock) v143 y142) := ⟨h0_⟩
                              have n1_ : Aside0 (Kd.R (Kd.int .u8) 5 w28 w.heap.size (fun k_ => some k_ ≠ (v143 : Value).ownBlock) v149 y148) := ⟨h1_⟩
                              have n2_ : Aside0 (Below w.heap.size w w28) := ⟨h2_⟩
                              clear HB
                              clear h0_ h1_ h2_
                              have HO144 := n0_
                              have HO150 := n1_
                              have HB := n2_
                              clear n0_ n1_ n2_
                              have hHeld := trivial
                              refine norm_ (a' := ?_) ?_ ?_
                              rotate_left
                              · simp only [putAll, Act.put, List.setIfInBounds_toArray, List.set_cons_zero, List.set_cons_succ]
                                rfl
                              refine three_ (i := 2) (j := 5) (k := 12) (Ni := some 20) (Nj := some 23) (Nk := some 30) #[true, true, true, false, true, false, false, true, true, true, true, true, false, false, true, true, true, false, false] #[true, true, false, false, true, true, false, true, true, true, true, true, false, false, true, true, true, false, false] #[true, true, false, false, true, false, false, true, true, true, true, true, true, false, true, true, true, false, false] rfl rfl rfl rfl rfl rfl (three_of HT_.out (by kernel_rfl)) (by decide) (by decide) (by decide) (fun K hK => ?_) (fun K hK => ?_) (fun K hK => ?_)
                              · skip
                                have hcv29 := own_string (P := Try.prog) Try.underlying28 Try.underlying5 Try.underlying9 (Kd.own_of_R HO144.out)
                                refine value_ (w1 := ?_) (v := ?_) (by rfl) rfl ?_ ?_
                                rotate_left 2
                                · go_simp
                                  constructor
                                  · rfl
                                  · rfl
                                clear hcv29
                                refine hK.out _ _ trivial (fun hHeld => ?_)
                                clear hK K
                                refine norm_ (a' := ?_) ?_ ?_
                                rotate_left
                                · show Act.put _ (some 20) _ = _
                                  simp only [Act.put, List.setIfInBounds_toArray, List.set_cons_zero, List.set_cons_succ, i64_w, i32_w]
                                  rfl
                                refine pure_ (i := 3) (N := some 21) (v := ?_) (a' := ?_) #[true, true, true, true, true, false, false, true, true, true, true, true, false, false, true, true, true, false, false] rfl rfl (any_of HT_.out (by kernel_rfl)) (fun _ _ _ h => h) (Or.inl ⟨by rfl, ?_⟩) ?_ ?_
                                rotate_left
                                · intro w'
                                  go_simp
                                  with_reducible rfl
                                rotate_left
                                · simp only [Act.put, List.setIfInBounds_toArray, List.set_cons_zero, List.set_cons_succ, i64_w, i32_w]
                                  rfl
                                exact norm_ (by first | (simp only [putAll, Act.put, List.setIfInBounds_toArray, List.set_cons_zero, List.set_cons_succ]; done) | (simp only [putAll, Act.put, List.setIfInBounds_toArray, List.set_cons_zero, List.set_cons_succ]; rfl)) (hJ1_2_9_10 (v143, v149) _ ⟨(by (with_reducible repeat (first | apply Kd.R_alloc | apply Kd.R_drewN | apply Kd.R_drew)); exact HO144.out), (by (with_reducible repeat (first | apply Kd.R_alloc | apply Kd.R_drewN | apply Kd.R_drew)); exact HO150.out), (by repeat (with_reducible first | exact HB.out | apply below_alloc | apply pw_below_drewN | apply below_drew1))⟩)
                              · skip
                                refine Kd.R_lit_step k65 _ 65 ?hg (N := 23) ?hd (xs := ([(⟨61, (⟨#[]⟩ : ByteArray)⟩ : S65)] : List (S65))) (inner := [.int .i64 61, .string (⟨#[]⟩ : ByteArray)]) (ok := fun _ => True) (okp := fun _ => True) ?hr ?hp (fun _ hk => hk) trivial (Below.refl _ _) (Nat.le_refl _) (by simp) ?_; (case hd => rfl); (case hg => rfl); (case hr => first | (go_simp; done) | (go_simp; rfl)); (case hp => exact (Reps.c2 (show Kd.M k65 _ _ _ (⟨61, (⟨#[]⟩ : ByteArray)⟩ : S65) [.int .i64 61, .string (⟨#[]⟩ : ByteArray)] from (k65_mkM _ _ _ (⟨61, (⟨#[]⟩ : ByteArray)⟩ : S65) )) (Reps.none _ _)))
                                intro v146 w29 ho30 hb hg_ hnew_
                                clear hg_ hnew_
                                (first | rw [← Ny145.out] at ho30 | (simp only [Int.reduceToNat] at ho30; rw [← Ny145.out] at ho30))
                                have n0_ := Aside0.mk (Kd.R_below (by (with_reducible repeat (first | apply Kd.R_alloc | apply Kd.R_drewN | apply Kd.R_drew)); exact HO144.out) hb)
                                have n1_ := Aside0.mk (Kd.R_below (by (with_reducible repeat (first | apply Kd.R_alloc | apply Kd.R_drewN | apply Kd.R_drew)); exact HO150.out) hb)
                                have n2_ := Aside0.mk (Kd.R_lower ho30 (below_size (by repeat (with_reducible first | exact HB.out | apply below_alloc | apply pw_below_drewN | apply below_drew1))))
                                have n3_ := Aside0.mk (below_step (by repeat (with_reducible first | exact HB.out | apply below_alloc | apply pw_below_drewN | apply below_drew1)) hb)
                                clear HO144
                                clear HO150
                                clear HB
                                have HO144 := n0_
                                have HO150 := n1_
                                have HO147 := n2_
                                have HB := n3_
                                clear n0_ n1_ n2_ n3_
                                clear hb ho30
                                obtain ⟨Ao31, co31, eo31⟩ := Kd.R_slice HO147.out
                                (first | subst eo31 | (injection eo31 with f1_ f2_ f3_; have f4_ := f1_.symm; have f5_ := f3_.symm; clear f1_ f2_ f3_; subst f4_; subst f5_))
                                refine hK.out _ _ trivial (fun hHeld => ?_)
                                clear hK K
                                refine norm_ (a' := ?_) ?_ ?_
                                rotate_left
                                · show Act.put _ (some 23) _ = _
                                  simp only [Act.put, List.setIfInBounds_toArray, List.set_cons_zero, List.set_cons_succ, i64_w, i32_w]
                                  rfl
                                refine pure_ (i := 6) (N := some 24) (v := ?_) (a' := ?_) #[true, true, false, false, true, true, true, true, true, true, true, true, false, false, true, true, true, false, false] rfl rfl (any_of HT_.out (by kernel_rfl)) (fun _ _ _ h => h) (Or.inl ⟨by rfl, ?_⟩) ?_ ?_
                                rotate_left
                                · intro w'
                                  go_simp
                                  with_reducible rfl
                                rotate_left
                                · simp only [Act.put, List.setIfInBounds_toArray, List.set_cons_zero, List.set_cons_succ, i64_w, i32_w]
                                  rfl
                                exact norm_ (by first | (simp only [putAll, Act.put, List.setIfInBounds_toArray, List.set_cons_zero, List.set_cons_succ]; done) | (simp only [putAll, Act.put, List.setIfInBounds_toArray, List.set_cons_zero, List.set_cons_succ]; rfl)) (hJ1_5_9_10 (v143, .slice Ao31 y145.length co31, v149) _ ⟨(by (with_reducible repeat (first | apply Kd.R_alloc | apply Kd.R_drewN | apply Kd.R_drew)); exact HO144.out), (by (with_reducible repeat (first | apply Kd.R_alloc | apply Kd.R_drewN | apply Kd.R_drew)); exact HO147.out), (by (with_reducible repeat (first | apply Kd.R_alloc | apply Kd.R_drewN | apply Kd.R_drew)); exact HO150.out), (by repeat (with_reducible first | exact HB.out | apply below_alloc | apply pw_below_drewN | apply below_drew1))⟩)
                              · skip
                                refine Kd.R_lit_step k65 _ 65 ?hg (N := 30) ?hd (xs := ([(⟨61, strOfNums y148⟩ : S65)] : List (S65))) (inner := [.int .i64 61, .string (strOfNums y148)]) (ok := fun _ => True) (okp := fun _ => True) ?hr ?hp (fun _ hk => hk) trivial (Below.refl _ _) (Nat.le_refl _) (by simp) ?_; (case hd => rfl); (case hg => rfl); (case hr => first | (go_simp; done) | (go_simp; rfl)); (case hp => exact (Reps.c2 (show Kd.M k65 _ _ _ (⟨61, strOfNums y148⟩ : S65) [.int .i64 61, .string (strOfNums y148)] from (k65_mkM _ _ _ (⟨61, strOfNums y148⟩ : S65) )) (Reps.none _ _)))
                                intro v152 w29 ho30 hb hg_ hnew_
                                clear hg_ hnew_
                                (first | rw [← Ny151.out] at ho30 | (simp only [Int.reduceToNat] at ho30; rw [← Ny151.out] at ho30))
                                have n0_ := Aside0.mk (Kd.R_below (by (with_reducible repeat (first | apply Kd.R_alloc | apply Kd.R_drewN | apply Kd.R_drew)); exact HO144.out) hb)
                                have n1_ := Aside0.mk (Kd.R_below (by (with_reducible repeat (first | apply Kd.R_alloc | apply Kd.R_drewN | apply Kd.R_drew)); exact HO150.out) hb)
                                have n2_ := Aside0.mk (Kd.R_lower ho30 (below_size (by repeat (with_reducible first | exact HB.out | apply below_alloc | apply pw_below_drewN | apply below_drew1))))
                                have n3_ := Aside0.mk (below_step (by repeat (with_reducible first | exact HB.out | apply below_alloc | apply pw_below_drewN | apply below_drew1)) hb)
                                clear HO144
                                clear HO150
                                clear HB
                                have HO144 := n0_
                                have HO150 := n1_
                                have HO153 := n2_
                                have HB := n3_
                                clear n0_ n1_ n2_ n3_
                                clear hb ho30
                                obtain ⟨Ao31, co31, eo31⟩ := Kd.R_slice HO153.out
                                (first | subst eo31 | (injection eo31 with f1_ f2_ f3_; have f4_ := f1_.symm; have f5_ := f3_.symm; clear f1_ f2_ f3_; subst f4_; subst f5_))
                                refine hK.out _ _ trivial (fun hHeld => ?_)
                                clear hK K
                                refine norm_ (a' := ?_) ?_ ?_
                                rotate_left
                                · show Act.put _ (some 30) _ = _
                                  simp only [Act.put, List.setIfInBounds_toArray, List.set_cons_zero, List.set_cons_succ, i64_w, i32_w]
                                  rfl
                                refine pure_ (i := 13) (N := some 31) (v := ?_) (a' := ?_) #[true, true, false, false, true, false, false, true, true, true, true, true, true, true, true, true, true, false, false] rfl rfl (any_of HT_.out (by kernel_rfl)) (fun _ _ _ h => h) (Or.inl ⟨by rfl, ?_⟩) ?_ ?_
                                rotate_left
                                · intro w'
                                  go_simp
                                  with_reducible rfl
                                rotate_left
                                · simp only [Act.put, List.setIfInBounds_toArray, List.set_cons_zero, List.set_cons_succ, i64_w, i32_w]
                                  rfl
                                exact norm_ (by first | (simp only [putAll, Act.put, List.setIfInBounds_toArray, List.set_cons_zero, List.set_cons_succ]; done) | (simp only [putAll, Act.put, List.setIfInBounds_toArray, List.set_cons_zero, List.set_cons_succ]; rfl)) (hJ1_9_10_12 (v143, v149, .slice Ao31 y151.length co31) _ ⟨(by (with_reducible repeat (first | apply Kd.R_alloc | apply Kd.R_drewN | apply Kd.R_drew)); exact HO144.out), (by (with_reducible repeat (first | apply Kd.R_alloc | apply Kd.R_drewN | apply Kd.R_drew)); exact HO150.out), (by (with_reducible repeat (first | apply Kd.R_alloc | apply Kd.R_drewN | apply Kd.R_drew)); exact HO153.out), (by repeat (with_reducible first | exact HB.out | apply below_alloc | apply pw_below_drewN | apply below_drew1))⟩)
                          · skip
                            rintro ⟨v143, v146, v149⟩ w30 ⟨h0_, h1_, h2_, h3_⟩
                            have n0_ : Aside0 (Kd.R (Kd.int .u8) 5 w30 w.heap.size (fun k_ => some k_ ≠ (v149 : Value).ownBlock) v143 y142) := ⟨h0_⟩
                            have n1_ : Aside0 (Kd.R k65 65 w30 w.heap.size (fun _ => True) v146 y145) := ⟨h1_⟩
                            have n2_ : Aside0 (Kd.R (Kd.int .u8) 5 w30 w.heap.size (fun k_ => some k_ ≠ (v143 : Value).ownBlock) v149 y148) := ⟨h2_⟩
                            have n3_ : Aside0 (Below w.heap.size w w30) := ⟨h3_⟩
                            clear HB
                            clear h0_ h1_ h2_ h3_
                            have HO144 := n0_
                            have HO147 := n1_
                            have HO150 := n2_
                            have HB := n3_
                            clear n0_ n1_ n2_ n3_
                            have hHeld := trivial
                            obtain ⟨Ao31, co31, eo31⟩ := Kd.R_slice HO147.out
                            (first | subst eo31 | (injection eo31 with f1_ f2_ f3_; have f4_ := f1_.symm; have f5_ := f3_.symm; clear f1_ f2_ f3_; subst f4_; subst f5_))
                            refine norm_ (a' := ?_) ?_ ?_
                            rotate_left
                            · simp only [putAll, Act.put, List.setIfInBounds_toArray, List.set_cons_zero, List.set_cons_succ]
                              rfl
                            refine two_ (i := 2) (j := 10) (Ni := some 20) (Nj := some 28) #[true, true, true, false, true, true, true, true, true, true, false, false, false, false, true, true, true, false, false] #[true, true, false, false, true, true, true, true, true, true, true, false, false, false, true, true, true, false, false] rfl rfl rfl rfl (two_of HT_.out (by kernel_rfl)) (by decide) (by decide) (fun K hK => ?_) (fun K hK => ?_)
                            · skip
                              have hcv32 := own_string (P := Try.prog) Try.underlying28 Try.underlying5 Try.underlying9 (Kd.own_of_R HO144.out)
                              refine value_ (w1 := ?_) (v := ?_) (by rfl) rfl ?_ ?_
                              rotate_left 2
                              · go_simp
                                constructor
                                · rfl
                                · rfl
                              clear hcv32
                              refine hK.out _ _ trivial (fun hHeld => ?_)
                              clear hK K
                              refine norm_ (a' := ?_) ?_ ?_
                              rotate_left
                              · show Act.put _ (some 20) _ = _
                                simp only [Act.put, List.setIfInBounds_toArray, List.set_cons_zero, List.set_cons_succ, i64_w, i32_w]
                                rfl
                              refine pure_ (i := 3) (N := some 21) (v := ?_) (a' := ?_) #[true, true, true, true, true, true, true, true, true, true, false, false, false, false, true, true, true, false, false] rfl rfl (any_of HT_.out (by kernel_rfl)) (fun _ _ _ h => h) (Or.inl ⟨by rfl, ?_⟩) ?_ ?_
                              rotate_left
                              · intro w'
                                go_simp
                                with_reducible rfl
                              rotate_left
                              · simp only [Act.put, List.setIfInBounds_toArray, List.set_cons_zero, List.set_cons_succ, i64_w, i32_w]
                                rfl
                              exact norm_ (by first | (simp only [putAll, Act.put, List.setIfInBounds_toArray, List.set_cons_zero, List.set_cons_succ]; done) | (simp only [putAll, Act.put, List.setIfInBounds_toArray, List.set_cons_zero, List.set_cons_succ]; rfl)) (hJ1_2_5_9 (v143, .slice Ao31 y145.length co31, v149) _ ⟨(by (with_reducible repeat (first | apply Kd.R_alloc | apply Kd.R_drewN | apply Kd.R_drew)); exact HO144.out), (by (with_reducible repeat (first | apply Kd.R_alloc | apply Kd.R_drewN | apply Kd.R_drew)); exact HO147.out), (by (with_reducible repeat (first | apply Kd.R_alloc | apply Kd.R_drewN | apply Kd.R_drew)); exact HO150.out), (by repeat (with_reducible first | exact HB.out | apply below_alloc | apply pw_below_drewN | apply below_drew1))⟩)
                            · skip
                              have hcv32 := own_string (P := Try.prog) Try.underlying28 Try.underlying5 Try.underlying9 (Kd.own_of_R HO150.out)
                              refine value_ (w1 := ?_) (v := ?_) (by rfl) rfl ?_ ?_
                              rotate_left 2
                              · go_simp
                                constructor
                                · rfl
                                · rfl
                              clear hcv32
                              refine hK.out _ _ trivial (fun hHeld => ?_)
                              clear hK K
                              refine norm_ (a' := ?_) ?_ ?_
                              rotate_left
                              · show Act.put _ (some 28) _ = _
                                simp only [Act.put, List.setIfInBounds_toArray, List.set_cons_zero, List.set_cons_succ, i64_w, i32_w]
                                rfl
                              refine pure_ (i := 11) (N := some 29) (v := ?_) (a' := ?_) #[true, true, false, false, true, true, true, true, true, true, true, true, false, false, true, true, true, false, false] rfl rfl (any_of HT_.out (by kernel_rfl)) (fun _ _ _ h => h) (Or.inl ⟨by rfl, ?_⟩) ?_ ?_
                              rotate_left
                              · intro w'
                                go_simp
                                with_reducible rfl
                              rotate_left
                              · simp only [Act.put, List.setIfInBounds_toArray, List.set_cons_zero, List.set_cons_succ, i64_w, i32_w]
                                rfl
                              exact norm_ (by first | (simp only [putAll, Act.put, List.setIfInBounds_toArray, List.set_cons_zero, List.set_cons_succ]; done) | (simp only [putAll, Act.put, List.setIfInBounds_toArray, List.set_cons_zero, List.set_cons_succ]; rfl)) (hJ1_5_9_10 (v143, .slice Ao31 y145.length co31, v149) _ ⟨(by (with_reducible repeat (first | apply Kd.R_alloc | apply Kd.R_drewN | apply Kd.R_drew)); exact HO144.out), (by (with_reducible repeat (first | apply Kd.R_alloc | apply Kd.R_drewN | apply Kd.R_drew)); exact HO147.out), (by (with_reducible repeat (first | apply Kd.R_alloc | apply Kd.R_drewN | apply Kd.R_drew)); exact HO150.out), (by repeat (with_reducible first | exact HB.out | apply below_alloc | apply pw_below_drewN | apply below_drew1))⟩)
                        · skip
                          rintro ⟨v143, v149⟩ w28 ⟨h0_, h1_, h2_⟩
                          have n0_ : Aside0 (Kd.R (Kd.int .u8) 5 w28 w.heap.size (fun k_ => some k_ ≠ (v149 : Value).ownBlock) v143 y142) := ⟨h0_⟩
                          have n1_ : Aside0 (Kd.R (Kd.int .u8) 5 w28 w.heap.size (fun k_ => some k_ ≠ (v143 : Value).ownBlock) v149 y148) := ⟨h1_⟩
                          have n2_ : Aside0 (Below w.heap.size w w28) := ⟨h2_⟩
                          clear HB
                          clear h0_ h1_ h2_
                          have HO144 := n0_
                          have HO150 := n1_
                          have HB := n2_
                          clear n0_ n1_ n2_
                          have hHeld := trivial
                          refine norm_ (a' := ?_) ?_ ?_
                          rotate_left
                          · simp only [putAll, Act.put, List.setIfInBounds_toArray, List.set_cons_zero, List.set_cons_succ]
                            rfl
                          refine two_ (i := 5) (j := 10) (Ni := some 23) (Nj := some 28) #[true, true, true, true, true, true, false, true, true, true, false, false, false, false, true, true, true, false, false] #[true, true, true, true, true, false, false, true, true, true, true, false, false, false, true, true, true, false, false] rfl rfl rfl rfl (two_of HT_.out (by kernel_rfl)) (by decide) (by decide) (fun K hK => ?_) (fun K hK => ?_)
                          · skip
                            refine Kd.R_lit_step k65 _ 65 ?hg (N := 23) ?hd (xs := ([(⟨61, (⟨#[]⟩ : ByteArray)⟩ : S65)] : List (S65))) (inner := [.int .i64 61, .string (⟨#[]⟩ : ByteArray)]) (ok := fun _ => True) (okp := fun _ => True) ?hr ?hp (fun _ hk => hk) trivial (Below.refl _ _) (Nat.le_refl _) (by simp) ?_; (case hd => rfl); (case hg => rfl); (case hr => first | (go_simp; done) | (go_simp; rfl)); (case hp => exact (Reps.c2 (show Kd.M k65 _ _ _ (⟨61, (⟨#[]⟩ : ByteArray)⟩ : S65) [.int .i64 61, .string (⟨#[]⟩ : ByteArray)] from (k65_mkM _ _ _ (⟨61, (⟨#[]⟩ : ByteArray)⟩ : S65) )) (Reps.none _ _)))
                            intro v146 w29 ho30 hb hg_ hnew_
                            clear hg_ hnew_
                            (first | rw [← Ny145.out] at ho30 | (simp only [Int.reduceToNat] at ho30; rw [← Ny145.out] at ho30))
                            have n0_ := Aside0.mk (Kd.R_below (by (with_reducible repeat (first | apply Kd.R_alloc | apply Kd.R_drewN | apply Kd.R_drew)); exact HO144.out) hb)
                            have n1_ := Aside0.mk (Kd.R_below (by (with_reducible repeat (first | apply Kd.R_alloc | apply Kd.R_drewN | apply Kd.R_drew)); exact HO150.out) hb)
                            have n2_ := Aside0.mk (Kd.R_lower ho30 (below_size (by repeat (with_reducible first | exact HB.out | apply below_alloc | apply pw_below_drewN | apply below_drew1))))
                            have n3_ := Aside0.mk (below_step (by repeat (with_reducible first | exact HB.out | apply below_alloc | apply pw_below_drewN | apply below_drew1)) hb)
                            clear HO144
                            clear HO150
                            clear HB
                            have HO144 := n0_
                            have HO150 := n1_
                            have HO147 := n2_
                            have HB := n3_
                            clear n0_ n1_ n2_ n3_
                            clear hb ho30
                            obtain ⟨Ao31, co31, eo31⟩ := Kd.R_slice HO147.out
                            (first | subst eo31 | (injection eo31 with f1_ f2_ f3_; have f4_ := f1_.symm; have f5_ := f3_.symm; clear f1_ f2_ f3_; subst f4_; subst f5_))
                            refine hK.out _ _ trivial (fun hHeld => ?_)
                            clear hK K
                            refine norm_ (a' := ?_) ?_ ?_
                            rotate_left
                            · show Act.put _ (some 23) _ = _
                              simp only [Act.put, List.setIfInBounds_toArray, List.set_cons_zero, List.set_cons_succ, i64_w, i32_w]
                              rfl
                            refine pure_ (i := 6) (N := some 24) (v := ?_) (a' := ?_) #[true, true, true, true, true, true, true, true, true, true, false, false, false, false, true, true, true, false, false] rfl rfl (any_of HT_.out (by kernel_rfl)) (fun _ _ _ h => h) (Or.inl ⟨by rfl, ?_⟩) ?_ ?_
                            rotate_left
                            · intro w'
                              go_simp
                              with_reducible rfl
                            rotate_left
                            · simp only [Act.put, List.setIfInBounds_toArray, List.set_cons_zero, List.set_cons_succ, i64_w, i32_w]
                              rfl
                            exact norm_ (by first | (simp only [putAll, Act.put, List.setIfInBounds_toArray, List.set_cons_zero, List.set_cons_succ]; done) | (simp only [putAll, Act.put, List.setIfInBounds_toArray, List.set_cons_zero, List.set_cons_succ]; rfl)) (hJ1_2_5_9 (v143, .slice Ao31 y145.length co31, v149) _ ⟨(by (with_reducible repeat (first | apply Kd.R_alloc | apply Kd.R_drewN | apply Kd.R_drew)); exact HO144.out), (by (with_reducible repeat (first | apply Kd.R_alloc | apply Kd.R_drewN | apply Kd.R_drew)); exact HO147.out), (by (with_reducible repeat (first | apply Kd.R_alloc | apply Kd.R_drewN | apply Kd.R_drew)); exact HO150.out), (by repeat (with_reducible first | exact HB.out | apply below_alloc | apply pw_below_drewN | apply below_drew1))⟩)
                          · skip
                            have hcv29 := own_string (P := Try.prog) Try.underlying28 Try.underlying5 Try.underlying9 (Kd.own_of_R HO150.out)
                            refine value_ (w1 := ?_) (v := ?_) (by rfl) rfl ?_ ?_
                            rotate_left 2
                            · go_simp
                              constructor
                              · rfl
                              · rfl
                            clear hcv29
                            refine hK.out _ _ trivial (fun hHeld => ?_)
                            clear hK K
                            refine norm_ (a' := ?_) ?_ ?_
                            rotate_left
                            · show Act.put _ (some 28) _ = _
                              simp only [Act.put, List.setIfInBounds_toArray, List.set_cons_zero, List.set_cons_succ, i64_w, i32_w]
                              rfl
                            refine pure_ (i := 11) (N := some 29) (v := ?_) (a' := ?_) #[true, true, true, true, true, false, false, true, true, true, true, true, false, false, true, true, true, false, false] rfl rfl (any_of HT_.out (by kernel_rfl)) (fun _ _ _ h => h) (Or.inl ⟨by rfl, ?_⟩) ?_ ?_
                            rotate_left
                            · intro w'
                              go_simp
                              with_reducible rfl
                            rotate_left
                            · simp only [Act.put, List.setIfInBounds_toArray, List.set_cons_zero, List.set_cons_succ, i64_w, i32_w]
                              rfl
                            exact norm_ (by first | (simp only [putAll, Act.put, List.setIfInBounds_toArray, List.set_cons_zero, List.set_cons_succ]; done) | (simp only [putAll, Act.put, List.setIfInBounds_toArray, List.set_cons_zero, List.set_cons_succ]; rfl)) (hJ1_2_9_10 (v143, v149) _ ⟨(by (with_reducible repeat (first | apply Kd.R_alloc | apply Kd.R_drewN | apply Kd.R_drew)); exact HO144.out), (by (with_reducible repeat (first | apply Kd.R_alloc | apply Kd.R_drewN | apply Kd.R_drew)); exact HO150.out), (by repeat (with_reducible first | exact HB.out | apply below_alloc | apply pw_below_drewN | apply below_drew1))⟩)
                      · skip
                        rintro ⟨v143, v146⟩ w29 ⟨h0_, h1_, h2_⟩
                        have n0_ : Aside0 (Kd.R (Kd.int .u8) 5 w29 w.heap.size (fun _ => True) v143 y142) := ⟨h0_⟩
                        have n1_ : Aside0 (Kd.R k65 65 w29 w.heap.size (fun _ => True) v146 y145) := ⟨h1_⟩
                        have n2_ : Aside0 (Below w.heap.size w w29) := ⟨h2_⟩
                        clear HB
                        clear h0_ h1_ h2_
                        have HO144 := n0_
                        have HO147 := n1_
                        have HB := n2_
                        clear n0_ n1_ n2_
                        have hHeld := trivial
                        obtain ⟨Ao30, co30, eo30⟩ := Kd.R_slice HO147.out
                        (first | subst eo30 | (injection eo30 with f1_ f2_ f3_; have f4_ := f1_.symm; have f5_ := f3_.symm; clear f1_ f2_ f3_; subst f4_; subst f5_))
                        refine norm_ (a' := ?_) ?_ ?_
                        rotate_left
                        · simp only [putAll, Act.put, List.setIfInBounds_toArray, List.set_cons_zero, List.set_cons_succ]
                          rfl
                        refine one_ (i := 9) (N := some 27) #[true, true, true, true, true, true, true, true, true, true, false, false, false, false, true, true, true, false, false] rfl rfl (one_of HT_.out (by kernel_rfl)) (by decide) (fun K hK => ?_)
                        refine Kd.R_make_step (Kd.int .u8) _ 5 (by rfl) (N := 27) rfl 28 _ _ rfl ji6 rfl rfl Try.underlying28 (.int .u8 0) 1 info5 rfl (by decide) (by omega) 0 (ok := fun _ => True) (okp := fun _ => True) rfl (fun _ hk => hk) trivial (of_decide_eq_true (by first | (with_reducible assumption) | assumption)) (Nat.le_trans (Nat.mul_le_mul_right _ (of_decide_eq_true (by first | (with_reducible assumption) | assumption) : ji6.toNat ≤ 281474976710656)) (by omega)) (Below.refl _ _) (Nat.le_refl _) ?_
                        intro v149 w31 ho32 hb hg_ hnew_
                        clear hg_ hnew_
                        (first | rw [← Ny148.out] at ho32 | (simp only [Int.reduceToNat] at ho32; rw [← Ny148.out] at ho32))
                        have n0_ := Aside0.mk (Kd.R_elder' (by (with_reducible repeat (first | apply Kd.R_alloc | apply Kd.R_drewN | apply Kd.R_drew)); exact HO144.out) (Kd.R_base ho32) hb)
                        have n1_ := Aside0.mk (Kd.R_below (by (with_reducible repeat (first | apply Kd.R_alloc | apply Kd.R_drewN | apply Kd.R_drew)); exact HO147.out) hb)
                        have n2_ := Aside0.mk (Kd.R_lower (Kd.R_new' ho32 (Kd.R_lt (by (with_reducible repeat (first | apply Kd.R_alloc | apply Kd.R_drewN | apply Kd.R_drew)); exact HO144.out))) (below_size (by repeat (with_reducible first | exact HB.out | apply below_alloc | apply pw_below_drewN | apply below_drew1))))
                        have n3_ := Aside0.mk (below_step (by repeat (with_reducible first | exact HB.out | apply below_alloc | apply pw_below_drewN | apply below_drew1)) hb)
                        clear HO144
                        clear HO147
                        clear HB
                        have HO144 := n0_
                        have HO147 := n1_
                        have HO150 := n2_
                        have HB := n3_
                        clear n0_ n1_ n2_ n3_
                        clear hb ho32
                        refine hK.out _ _ trivial (fun hHeld => ?_)
                        clear hK K
                        refine norm_ (a' := ?_) ?_ ?_
                        rotate_left
                        · show Act.put _ (some 27) _ = _
                          simp only [Act.put, List.setIfInBounds_toArray, List.set_cons_zero, List.set_cons_succ, i64_w, i32_w]
                          rfl
                        exact norm_ (by first | (simp only [putAll, Act.put, List.setIfInBounds_toArray, List.set_cons_zero, List.set_cons_succ]; done) | (simp only [putAll, Act.put, List.setIfInBounds_toArray, List.set_cons_zero, List.set_cons_succ]; rfl)) (hJ1_2_5_9 (v143, .slice Ao30 y145.length co30, v149) _ ⟨(by (with_reducible repeat (first | apply Kd.R_alloc | apply Kd.R_drewN | apply Kd.R_drew)); exact Kd.R_mono HO144.out (fun _ hk => hk.2)), (by (with_reducible repeat (first | apply Kd.R_alloc | apply Kd.R_drewN | apply Kd.R_drew)); exact HO147.out), (by (with_reducible repeat (first | apply Kd.R_alloc | apply Kd.R_drewN | apply Kd.R_drew)); exact Kd.R_mono HO150.out (fun _ hk => hk.2)), (by repeat (with_reducible first | exact HB.out | apply below_alloc | apply pw_below_drewN | apply below_drew1))⟩)
                    · skip
                      rintro ⟨v146, v149, v152⟩ w32 ⟨h0_, h1_, h2_, h3_⟩
                      have n0_ : Aside0 (Kd.R k65 65 w32 w.heap.size (fun k_ => some k_ ≠ (v152 : Value).ownBlock) v146 y145) := ⟨h0_⟩
                      have n1_ : Aside0 (Kd.R (Kd.int .u8) 5 w32 w.heap.size (fun _ => True) v149 y148) := ⟨h1_⟩
                      have n2_ : Aside0 (Kd.R k65 65 w32 w.heap.size (fun k_ => some k_ ≠ (v146 : Value).ownBlock) v152 y151) := ⟨h2_⟩
                      have n3_ : Aside0 (Below w.heap.size w w32) := ⟨h3_⟩
                      clear HB
                      clear h0_ h1_ h2_ h3_
                      have HO147 := n0_
                      have HO150 := n1_
                      have HO153 := n2_
                      have HB := n3_
                      clear n0_ n1_ n2_ n3_
                      have hHeld := trivial
                      obtain ⟨Ao33, co33, eo33⟩ := Kd.R_slice HO147.out
                      (first | subst eo33 | (injection eo33 with f1_ f2_ f3_; have f4_ := f1_.symm; have f5_ := f3_.symm; clear f1_ f2_ f3_; subst f4_; subst f5_))
                      obtain ⟨Ao34, co34, eo34⟩ := Kd.R_slice HO153.out
                      (first | subst eo34 | (injection eo34 with f1_ f2_ f3_; have f4_ := f1_.symm; have f5_ := f3_.symm; clear f1_ f2_ f3_; subst f4_; subst f5_))
                      refine norm_ (a' := ?_) ?_ ?_
                      rotate_left
                      · simp only [putAll, Act.put, List.setIfInBounds_toArray, List.set_cons_zero, List.set_cons_succ]
                        rfl
                      refine one_ (i := 1) (N := some 19) #[true, true, false, false, true, true, true, true, true, true, true, true, true, true, true, true, true, false, false] rfl rfl (one_of HT_.out (by kernel_rfl)) (by decide) (fun K hK => ?_)
                      refine Kd.R_make_step (Kd.int .u8) _ 5 (by rfl) (N := 19) rfl 28 _ _ rfl 16 rfl rfl Try.underlying28 (.int .u8 0) 1 info5 rfl (by decide) (by omega) 0 (ok := fun _ => True) (okp := fun _ => True) rfl (fun _ hk => hk) trivial (by omega) (by omega) (Below.refl _ _) (Nat.le_refl _) ?_
                      intro v143 w35 ho36 hb hg_ hnew_
                      clear hg_ hnew_
                      (first | rw [← Ny142.out] at ho36 | (simp only [Int.reduceToNat] at ho36; rw [← Ny142.out] at ho36))
                      have n0_ := Aside0.mk (Kd.R_below (by (with_reducible repeat (first | apply Kd.R_alloc | apply Kd.R_drewN | apply Kd.R_drew)); exact HO147.out) hb)
                      have n1_ := Aside0.mk (Kd.R_elder' (by (with_reducible repeat (first | apply Kd.R_alloc | apply Kd.R_drewN | apply Kd.R_drew)); exact HO150.out) (Kd.R_base ho36) hb)
                      have n2_ := Aside0.mk (Kd.R_below (by (with_reducible repeat (first | apply Kd.R_alloc | apply Kd.R_drewN | apply Kd.R_drew)); exact HO153.out) hb)
                      have n3_ := Aside0.mk (Kd.R_lower (Kd.R_new' ho36 (Kd.R_lt (by (with_reducible repeat (first | apply Kd.R_alloc | apply Kd.R_drewN | apply Kd.R_drew)); exact HO150.out))) (below_size (by repeat (with_reducible first | exact HB.out | apply below_alloc | apply pw_below_drewN | apply below_drew1))))
                      have n4_ := Aside0.mk (below_step (by repeat (with_reducible first | exact HB.out | apply below_alloc | apply pw_below_drewN | apply below_drew1)) hb)
                      clear HO147
                      clear HO150
                      clear HO153
                      clear HB
                      have HO147 := n0_
                      have HO150 := n1_
                      have HO153 := n2_
                      have HO144 := n3_
                      have HB := n4_
                      clear n0_ n1_ n2_ n3_ n4_
                      clear hb ho36
                      refine hK.out _ _ trivial (fun hHeld => ?_)
                      clear hK K
                      refine norm_ (a' := ?_) ?_ ?_
                      rotate_left
                      · show Act.put _ (some 19) _ = _
                        simp only [Act.put, List.setIfInBounds_toArray, List.set_cons_zero, List.set_cons_succ, i64_w, i32_w]
                        rfl
                      exact norm_ (by first | (simp only [putAll, Act.put, List.setIfInBounds_toArray, List.set_cons_zero, List.set_cons_succ]; done) | (simp only [putAll, Act.put, List.setIfInBounds_toArray, List.set_cons_zero, List.set_cons_succ]; rfl)) (hJ1_5_9_10_12 (v143, .slice Ao33 y145.length co33, v149, .slice Ao34 y151.length co34) _ ⟨(by (with_reducible repeat (first | apply Kd.R_alloc | apply Kd.R_drewN | apply Kd.R_drew)); exact Kd.R_mono HO144.out (fun _ hk => hk.2)), (by (with_reducible repeat (first | apply Kd.R_alloc | apply Kd.R_drewN | apply Kd.R_drew)); exact HO147.out), (by (with_reducible repeat (first | apply Kd.R_alloc | apply Kd.R_drewN | apply Kd.R_drew)); exact Kd.R_mono HO150.out (fun _ hk => hk.2)), (by (with_reducible repeat (first | apply Kd.R_alloc | apply Kd.R_drewN | apply Kd.R_drew)); exact HO153.out), (by repeat (with_reducible first | exact HB.out | apply below_alloc | apply pw_below_drewN | apply below_drew1))⟩)
                  · skip
                    rintro ⟨v143, v149, v152⟩ w31 ⟨h0_, h1_, h2_, h3_⟩
                    have n0_ : Aside0 (Kd.R (Kd.int .u8) 5 w31 w.heap.size (fun k_ => some k_ ≠ (v149 : Value).ownBlock) v143 y142) := ⟨h0_⟩
                    have n1_ : Aside0 (Kd.R (Kd.int .u8) 5 w31 w.heap.size (fun k_ => some k_ ≠ (v143 : Value).ownBlock) v149 y148) := ⟨h1_⟩
                    have n2_ : Aside0 (Kd.R k65 65 w31 w.heap.size (fun _ => True) v152 y151) := ⟨h2_⟩
                    have n3_ : Aside0 (Below w.heap.size w w31) := ⟨h3_⟩
                    clear HB
                    clear h0_ h1_ h2_ h3_
                    have HO144 := n0_
                    have HO150 := n1_
                    have HO153 := n2_
                    have HB := n3_
                    clear n0_ n1_ n2_ n3_
                    have hHeld := trivial
                    obtain ⟨Ao32, co32, eo32⟩ := Kd.R_slice HO153.out
                    (first | subst eo32 | (injection eo32 with f1_ f2_ f3_; have f4_ := f1_.symm; have f5_ := f3_.symm; clear f1_ f2_ f3_; subst f4_; subst f5_))
                    refine norm_ (a' := ?_) ?_ ?_
                    rotate_left
                    · simp only [putAll, Act.put, List.setIfInBounds_toArray, List.set_cons_zero, List.set_cons_succ]
                      rfl
                    refine two_ (i := 2) (j := 5) (Ni := some 20) (Nj := some 23) #[true, true, true, false, true, false, false, true, true, true, true, true, true, true, true, true, true, false, false] #[true, true, false, false, true, true, false, true, true, true, true, true, true, true, true, true, true, false, false] rfl rfl rfl rfl (two_of HT_.out (by kernel_rfl)) (by decide) (by decide) (fun K hK => ?_) (fun K hK => ?_)
                    · skip
                      have hcv33 := own_string (P := Try.prog) Try.underlying28 Try.underlying5 Try.underlying9 (Kd.own_of_R HO144.out)
                      refine value_ (w1 := ?_) (v := ?_) (by rfl) rfl ?_ ?_
                      rotate_left 2
                      · go_simp
                        constructor
                        · rfl
                        · rfl
                      clear hcv33
                      refine hK.out _ _ trivial (fun hHeld => ?_)
                      clear hK K
                      refine norm_ (a' := ?_) ?_ ?_
                      rotate_left
                      · show Act.put _ (some 20) _ = _
                        simp only [Act.put, List.setIfInBounds_toArray, List.set_cons_zero, List.set_cons_succ, i64_w, i32_w]
                        rfl
                      refine pure_ (i := 3) (N := some 21) (v := ?_) (a' := ?_) #[true, true, true, true, true, false, false, true, true, true, true, true, true, true, true, true, true, false, false] rfl rfl (any_of HT_.out (by kernel_rfl)) (fun _ _ _ h => h) (Or.inl ⟨by rfl, ?_⟩) ?_ ?_
                      rotate_left
                      · intro w'
                        go_simp
                        with_reducible rfl
                      rotate_left
                      · simp only [Act.put, List.setIfInBounds_toArray, List.set_cons_zero, List.set_cons_succ, i64_w, i32_w]
                        rfl
                      exact norm_ (by first | (simp only [putAll, Act.put, List.setIfInBounds_toArray, List.set_cons_zero, List.set_cons_succ]; done) | (simp only [putAll, Act.put, List.setIfInBounds_toArray, List.set_cons_zero, List.set_cons_succ]; rfl)) (hJ1_2_9_10_12 (v143, v149, .slice Ao32 y151.length co32) _ ⟨(by (with_reducible repeat (first | apply Kd.R_alloc | apply Kd.R_drewN | apply Kd.R_drew)); exact HO144.out), (by (with_reducible repeat (first | apply Kd.R_alloc | apply Kd.R_drewN | apply Kd.R_drew)); exact HO150.out), (by (with_reducible repeat (first | apply Kd.R_alloc | apply Kd.R_drewN | apply Kd.R_drew)); exact HO153.out), (by repeat (with_reducible first | exact HB.out | apply below_alloc | apply pw_below_drewN | apply below_drew1))⟩)
                    · skip
                      refine Kd.R_lit_step k65 _ 65 ?hg (N := 23) ?hd (xs := ([(⟨61, (⟨#[]⟩ : ByteArray)⟩ : S65)] : List (S65))) (inner := [.int .i64 61, .string (⟨#[]⟩ : ByteArray)]) (ok := fun _ => True) (okp := fun _ => True) ?hr ?hp (fun _ hk => hk) trivial (Below.refl _ _) (Nat.le_refl _) (by simp) ?_; (case hd => rfl); (case hg => rfl); (case hr => first | (go_simp; done) | (go_simp; rfl)); (case hp => exact (Reps.c2 (show Kd.M k65 _ _ _ (⟨61, (⟨#[]⟩ : ByteArray)⟩ : S65) [.int .i64 61, .string (⟨#[]⟩ : ByteArray)] from (k65_mkM _ _ _ (⟨61, (⟨#[]⟩ : ByteArray)⟩ : S65) )) (Reps.none _ _)))
                      intro v146 w33 ho34 hb hg_ hnew_
                      clear hg_ hnew_
                      (first | rw [← Ny145.out] at ho34 | (simp only [Int.reduceToNat] at ho34; rw [← Ny145.out] at ho34))
                      have n0_ := Aside0.mk (Kd.R_below (by (with_reducible repeat (first | apply Kd.R_alloc | apply Kd.R_drewN | apply Kd.R_drew)); exact HO144.out) hb)
                      have n1_ := Aside0.mk (Kd.R_below (by (with_reducible repeat (first | apply Kd.R_alloc | apply Kd.R_drewN | apply Kd.R_drew)); exact HO150.out) hb)
                      have n2_ := Aside0.mk (Kd.R_elder' (by (with_reducible repeat (first | apply Kd.R_alloc | apply Kd.R_drewN | apply Kd.R_drew)); exact HO153.out) (Kd.R_base ho34) hb)
                      have n3_ := Aside0.mk (Kd.R_lower (Kd.R_new' ho34 (Kd.R_lt (by (with_reducible repeat (first | apply Kd.R_alloc | apply Kd.R_drewN | apply Kd.R_drew)); exact HO153.out))) (below_size (by repeat (with_reducible first | exact HB.out | apply below_alloc | apply pw_below_drewN | apply below_drew1))))
                      have n4_ := Aside0.mk (below_step (by repeat (with_reducible first | exact HB.out | apply below_alloc | apply pw_below_drewN | apply below_drew1)) hb)
                      clear HO144
                      clear HO150
                      clear HO153
                      clear HB
                      have HO144 := n0_
                      have HO150 := n1_
                      have HO153 := n2_
                      have HO147 := n3_
                      have HB := n4_
                      clear n0_ n1_ n2_ n3_ n4_
                      clear hb ho34
                      obtain ⟨Ao35, co35, eo35⟩ := Kd.R_slice HO147.out
                      (first | subst eo35 | (injection eo35 with f1_ f2_ f3_; have f4_ := f1_.symm; have f5_ := f3_.symm; clear f1_ f2_ f3_; subst f4_; subst f5_))
                      refine hK.out _ _ trivial (fun hHeld => ?_)
                      clear hK K
                      refine norm_ (a' := ?_) ?_ ?_
                      rotate_left
                      · show Act.put _ (some 23) _ = _
                        simp only [Act.put, List.setIfInBounds_toArray, List.set_cons_zero, List.set_cons_succ, i64_w, i32_w]
                        rfl
                      refine pure_ (i := 6) (N := some 24) (v := ?_) (a' := ?_) #[true, true, false, false, true, true, true, true, true, true, true, true, true, true, true, true, true, false, false] rfl rfl (any_of HT_.out (by kernel_rfl)) (fun _ _ _ h => h) (Or.inl ⟨by rfl, ?_⟩) ?_ ?_
                      rotate_left
                      · intro w'
                        go_simp
                        with_reducible rfl
                      rotate_left
                      · simp only [Act.put, List.setIfInBounds_toArray, List.set_cons_zero, List.set_cons_succ, i64_w, i32_w]
                        rfl
                      exact norm_ (by first | (simp only [putAll, Act.put, List.setIfInBounds_toArray, List.set_cons_zero, List.set_cons_succ]; done) | (simp only [putAll, Act.put, List.setIfInBounds_toArray, List.set_cons_zero, List.set_cons_succ]; rfl)) (hJ1_5_9_10_12 (v143, .slice Ao35 y145.length co35, v149, .slice Ao32 y151.length co32) _ ⟨(by (with_reducible repeat (first | apply Kd.R_alloc | apply Kd.R_drewN | apply Kd.R_drew)); exact HO144.out), (by (with_reducible repeat (first | apply Kd.R_alloc | apply Kd.R_drewN | apply Kd.R_drew)); exact Kd.R_mono HO147.out (fun _ hk => hk.2)), (by (with_reducible repeat (first | apply Kd.R_alloc | apply Kd.R_drewN | apply Kd.R_drew)); exact HO150.out), (by (with_reducible repeat (first | apply Kd.R_alloc | apply Kd.R_drewN | apply Kd.R_drew)); exact Kd.R_mono HO153.out (fun _ hk => hk.2)), (by repeat (with_reducible first | exact HB.out | apply below_alloc | apply pw_below_drewN | apply below_drew1))⟩)
                · skip
                  rintro ⟨v143, v146, v149⟩ w31 ⟨h0_, h1_, h2_, h3_⟩
                  have n0_ : Aside0 (Kd.R (Kd.int .u8) 5 w31 w.heap.size (fun k_ => some k_ ≠ (v149 : Value).ownBlock) v143 y142) := ⟨h0_⟩
                  have n1_ : Aside0 (Kd.R k65 65 w31 w.heap.size (fun _ => True) v146 y145) := ⟨h1_⟩
                  have n2_ : Aside0 (Kd.R (Kd.int .u8) 5 w31 w.heap.size (fun k_ => some k_ ≠ (v143 : Value).ownBlock) v149 y148) := ⟨h2_⟩
                  have n3_ : Aside0 (Below w.heap.size w w31) := ⟨h3_⟩
                  clear HB
                  clear h0_ h1_ h2_ h3_
                  have HO144 := n0_
                  have HO147 := n1_
                  have HO150 := n2_
                  have HB := n3_
                  clear n0_ n1_ n2_ n3_
                  have hHeld := trivial
                  obtain ⟨Ao32, co32, eo32⟩ := Kd.R_slice HO147.out
                  (first | subst eo32 | (injection eo32 with f1_ f2_ f3_; have f4_ := f1_.symm; have f5_ := f3_.symm; clear f1_ f2_ f3_; subst f4_; subst f5_))
                  refine norm_ (a' := ?_) ?_ ?_
                  rotate_left
                  · simp only [putAll, Act.put, List.setIfInBounds_toArray, List.set_cons_zero, List.set_cons_succ]
                    rfl
                  refine two_ (i := 2) (j := 12) (Ni := some 20) (Nj := some 30) #[true, true, true, false, true, true, true, true, true, true, true, true, false, false, true, true, true, false, false] #[true, true, false, false, true, true, true, true, true, true, true, true, true, false, true, true, true, false, false] rfl rfl rfl rfl (two_of HT_.out (by kernel_rfl)) (by decide) (by decide) (fun K hK => ?_) (fun K hK => ?_)
                  · skip
                    have hcv33 := own_string (P := Try.prog) Try.underlying28 Try.underlying5 Try.underlying9 (Kd.own_of_R HO144.out)
                    refine value_ (w1 := ?_) (v := ?_) (by rfl) rfl ?_ ?_
                    rotate_left 2
                    · go_simp
                      constructor
                      · rfl
                      · rfl
                    clear hcv33
                    refine hK.out _ _ trivial (fun hHeld => ?_)
                    clear hK K
                    refine norm_ (a' := ?_) ?_ ?_
                    rotate_left
                    · show Act.put _ (some 20) _ = _
                      simp only [Act.put, List.setIfInBounds_toArray, List.set_cons_zero, List.set_cons_succ, i64_w, i32_w]
                      rfl
                    refine pure_ (i := 3) (N := some 21) (v := ?_) (a' := ?_) #[true, true, true, true, true, true, true, true, true, true, true, true, false, false, true, true, true, false, false] rfl rfl (any_of HT_.out (by kernel_rfl)) (fun _ _ _ h => h) (Or.inl ⟨by rfl, ?_⟩) ?_ ?_
                    rotate_left
                    · intro w'
                      go_simp
                      with_reducible rfl
                    rotate_left
                    · simp only [Act.put, List.setIfInBounds_toArray, List.set_cons_zero, List.set_cons_succ, i64_w, i32_w]
                      rfl
                    exact norm_ (by first | (simp only [putAll, Act.put, List.setIfInBounds_toArray, List.set_cons_zero, List.set_cons_succ]; done) | (simp only [putAll, Act.put, List.setIfInBounds_toArray, List.set_cons_zero, List.set_cons_succ]; rfl)) (hJ1_2_5_9_10 (v143, .slice Ao32 y145.length co32, v149) _ ⟨(by (with_reducible repeat (first | apply Kd.R_alloc | apply Kd.R_drewN | apply Kd.R_drew)); exact HO144.out), (by (with_reducible repeat (first | apply Kd.R_alloc | apply Kd.R_drewN | apply Kd.R_drew)); exact HO147.out), (by (with_reducible repeat (first | apply Kd.R_alloc | apply Kd.R_drewN | apply Kd.R_drew)); exact HO150.out), (by repeat (with_reducible first | exact HB.out | apply below_alloc | apply pw_below_drewN | apply below_drew1))⟩)
                  · skip
                    refine Kd.R_lit_step k65 _ 65 ?hg (N := 30) ?hd (xs := ([(⟨61, strOfNums y148⟩ : S65)] : List (S65))) (inner := [.int .i64 61, .string (strOfNums y148)]) (ok := fun _ => True) (okp := fun _ => True) ?hr ?hp (fun _ hk => hk) trivial (Below.refl _ _) (Nat.le_refl _) (by simp) ?_; (case hd => rfl); (case hg => rfl); (case hr => first | (go_simp; done) | (go_simp; rfl)); (case hp => exact (Reps.c2 (show Kd.M k65 _ _ _ (⟨61, strOfNums y148⟩ : S65) [.int .i64 61, .string (strOfNums y148)] from (k65_mkM _ _ _ (⟨61, strOfNums y148⟩ : S65) )) (Reps.none _ _)))
                    intro v152 w33 ho34 hb hg_ hnew_
                    clear hg_ hnew_
                    (first | rw [← Ny151.out] at ho34 | (simp only [Int.reduceToNat] at ho34; rw [← Ny151.out] at ho34))
                    have n0_ := Aside0.mk (Kd.R_below (by (with_reducible repeat (first | apply Kd.R_alloc | apply Kd.R_drewN | apply Kd.R_drew)); exact HO144.out) hb)
                    have n1_ := Aside0.mk (Kd.R_elder' (by (with_reducible repeat (first | apply Kd.R_alloc | apply Kd.R_drewN | apply Kd.R_drew)); exact HO147.out) (Kd.R_base ho34) hb)
                    have n2_ := Aside0.mk (Kd.R_below (by (with_reducible repeat (first | apply Kd.R_alloc | apply Kd.R_drewN | apply Kd.R_drew)); exact HO150.out) hb)
                    have n3_ := Aside0.mk (Kd.R_lower (Kd.R_new' ho34 (Kd.R_lt (by (with_reducible repeat (first | apply Kd.R_alloc | apply Kd.R_drewN | apply Kd.R_drew)); exact HO147.out))) (below_size (by repeat (with_reducible first | exact HB.out | apply below_alloc | apply pw_below_drewN | apply below_drew1))))
                    have n4_ := Aside0.mk (below_step (by repeat (with_reducible first | exact HB.out | apply below_alloc | apply pw_below_drewN | apply below_drew1)) hb)
                    clear HO144
                    clear HO147
                    clear HO150
                    clear HB
                    have HO144 := n0_
                    have HO147 := n1_
                    have HO150 := n2_
                    have HO153 := n3_
                    have HB := n4_
                    clear n0_ n1_ n2_ n3_ n4_
                    clear hb ho34
                    obtain ⟨Ao35, co35, eo35⟩ := Kd.R_slice HO153.out
                    (first | subst eo35 | (injection eo35 with f1_ f2_ f3_; have f4_ := f1_.symm; have f5_ := f3_.symm; clear f1_ f2_ f3_; subst f4_; subst f5_))
                    refine hK.out _ _ trivial (fun hHeld => ?_)
                    clear hK K
                    refine norm_ (a' := ?_) ?_ ?_
                    rotate_left
                    · show Act.put _ (some 30) _ = _
                      simp only [Act.put, List.setIfInBounds_toArray, List.set_cons_zero, List.set_cons_succ, i64_w, i32_w]
                      rfl
                    refine pure_ (i := 13) (N := some 31) (v := ?_) (a' := ?_) #[true, true, false, false, true, true, true, true, true, true, true, true, true, true, true, true, true, false, false] rfl rfl (any_of HT_.out (by kernel_rfl)) (fun _ _ _ h => h) (Or.inl ⟨by rfl, ?_⟩) ?_ ?_
                    rotate_left
                    · intro w'
                      go_simp
                      with_reducible rfl
                    rotate_left
                    · simp only [Act.put, List.setIfInBounds_toArray, List.set_cons_zero, List.set_cons_succ, i64_w, i32_w]
                      rfl
                    exact norm_ (by first | (simp only [putAll, Act.put, List.setIfInBounds_toArray, List.set_cons_zero, List.set_cons_succ]; done) | (simp only [putAll, Act.put, List.setIfInBounds_toArray, List.set_cons_zero, List.set_cons_succ]; rfl)) (hJ1_5_9_10_12 (v143, .slice Ao32 y145.length co32, v149, .slice Ao35 y151.length co35) _ ⟨(by (with_reducible repeat (first | apply Kd.R_alloc | apply Kd.R_drewN | apply Kd.R_drew)); exact HO144.out), (by (with_reducible repeat (first | apply Kd.R_alloc | apply Kd.R_drewN | apply Kd.R_drew)); exact Kd.R_mono HO147.out (fun _ hk => hk.2)), (by (with_reducible repeat (first | apply Kd.R_alloc | apply Kd.R_drewN | apply Kd.R_drew)); exact HO150.out), (by (with_reducible repeat (first | apply Kd.R_alloc | apply Kd.R_drewN | apply Kd.R_drew)); exact Kd.R_mono HO153.out (fun _ hk => hk.2)), (by repeat (with_reducible first | exact HB.out | apply below_alloc | apply pw_below_drewN | apply below_drew1))⟩)
              · skip
                rintro ⟨v143, v149⟩ w29 ⟨h0_, h1_, h2_⟩
                have n0_ : Aside0 (Kd.R (Kd.int .u8) 5 w29 w.heap.size (fun k_ => some k_ ≠ (v149 : Value).ownBlock) v143 y142) := ⟨h0_⟩
                have n1_ : Aside0 (Kd.R (Kd.int .u8) 5 w29 w.heap.size (fun k_ => some k_ ≠ (v143 : Value).ownBlock) v149 y148) := ⟨h1_⟩
                have n2_ : Aside0 (Below w.heap.size w w29) := ⟨h2_⟩
                clear HB
                clear h0_ h1_ h2_
                have HO144 := n0_
                have HO150 := n1_
                have HB := n2_
                clear n0_ n1_ n2_
                have hHeld := trivial
                refine norm_ (a' := ?_) ?_ ?_
                rotate_left
                · simp only [putAll, Act.put, List.setIfInBounds_toArray, List.set_cons_zero, List.set_cons_succ]
                  rfl
                refine two_ (i := 5) (j := 12) (Ni := some 23) (Nj := some 30) #[true, true, true, true, true, true, false, true, true, true, true, true, false, false, true, true, true, false, false] #[true, true, true, true, true, false, false, true, true, true, true, true, true, false, true, true, true, false, false] rfl rfl rfl rfl (two_of HT_.out (by kernel_rfl)) (by decide) (by decide) (fun K hK => ?_) (fun K hK => ?_)
                · skip
                  refine Kd.R_lit_step k65 _ 65 ?hg (N := 23) ?hd (xs := ([(⟨61, (⟨#[]⟩ : ByteArray)⟩ : S65)] : List (S65))) (inner := [.int .i64 61, .string (⟨#[]⟩ : ByteArray)]) (ok := fun _ => True) (okp := fun _ => True) ?hr ?hp (fun _ hk => hk) trivial (Below.refl _ _) (Nat.le_refl _) (by simp) ?_; (case hd => rfl); (case hg => rfl); (case hr => first | (go_simp; done) | (go_simp; rfl)); (case hp => exact (Reps.c2 (show Kd.M k65 _ _ _ (⟨61, (⟨#[]⟩ : ByteArray)⟩ : S65) [.int .i64 61, .string (⟨#[]⟩ : ByteArray)] from (k65_mkM _ _ _ (⟨61, (⟨#[]⟩ : ByteArray)⟩ : S65) )) (Reps.none _ _)))
                  intro v146 w30 ho31 hb hg_ hnew_
                  clear hg_ hnew_
                  (first | rw [← Ny145.out] at ho31 | (simp only [Int.reduceToNat] at ho31; rw [← Ny145.out] at ho31))
                  have n0_ := Aside0.mk (Kd.R_below (by (with_reducible repeat (first | apply Kd.R_alloc | apply Kd.R_drewN | apply Kd.R_drew)); exact HO144.out) hb)
                  have n1_ := Aside0.mk (Kd.R_below (by (with_reducible repeat (first | apply Kd.R_alloc | apply Kd.R_drewN | apply Kd.R_drew)); exact HO150.out) hb)
                  have n2_ := Aside0.mk (Kd.R_lower ho31 (below_size (by repeat (with_reducible first | exact HB.out | apply below_alloc | apply pw_below_drewN | apply below_drew1))))
                  have n3_ := Aside0.mk (below_step (by repeat (with_reducible first | exact HB.out | apply below_alloc | apply pw_below_drewN | apply below_drew1)) hb)
                  clear HO144
                  clear HO150
                  clear HB
                  have HO144 := n0_
                  have HO150 := n1_
                  have HO147 := n2_
                  have HB := n3_
                  clear n0_ n1_ n2_ n3_
                  clear hb ho31
                  obtain ⟨Ao32, co32, eo32⟩ := Kd.R_slice HO147.out
                  (first | subst eo32 | (injection eo32 with f1_ f2_ f3_; have f4_ := f1_.symm; have f5_ := f3_.symm; clear f1_ f2_ f3_; subst f4_; subst f5_))
                  refine hK.out _ _ trivial (fun hHeld => ?_)
                  clear hK K
                  refine norm_ (a' := ?_) ?_ ?_
                  rotate_left
                  · show Act.put _ (some 23) _ = _
                    simp only [Act.put, List.setIfInBounds_toArray, List.set_cons_zero, List.set_cons_succ, i64_w, i32_w]
                    rfl
                  refine pure_ (i := 6) (N := some 24) (v := ?_) (a' := ?_) #[true, true, true, true, true, true, true, true, true, true, true, true, false, false, true, true, true, false, false] rfl rfl (any_of HT_.out (by kernel_rfl)) (fun _ _ _ h => h) (Or.inl ⟨by rfl, ?_⟩) ?_ ?_
                  rotate_left
                  · intro w'
                    go_simp
                    with_reducible rfl
                  rotate_left
                  · simp only [Act.put, List.setIfInBounds_toArray, List.set_cons_zero, List.set_cons_succ, i64_w, i32_w]
                    rfl
                  exact norm_ (by first | (simp only [putAll, Act.put, List.setIfInBounds_toArray, List.set_cons_zero, List.set_cons_succ]; done) | (simp only [putAll, Act.put, List.setIfInBounds_toArray, List.set_cons_zero, List.set_cons_succ]; rfl)) (hJ1_2_5_9_10 (v143, .slice Ao32 y145.length co32, v149) _ ⟨(by (with_reducible repeat (first | apply Kd.R_alloc | apply Kd.R_drewN | apply Kd.R_drew)); exact HO144.out), (by (with_reducible repeat (first | apply Kd.R_alloc | apply Kd.R_drewN | apply Kd.R_drew)); exact HO147.out), (by (with_reducible repeat (first | apply Kd.R_alloc | apply Kd.R_drewN | apply Kd.R_drew)); exact HO150.out), (by repeat (with_reducible first | exact HB.out | apply below_alloc | apply pw_below_drewN | apply below_drew1))⟩)
                · skip
                  refine Kd.R_lit_step k65 _ 65 ?hg (N := 30) ?hd (xs := ([(⟨61, strOfNums y148⟩ : S65)] : List (S65))) (inner := [.int .i64 61, .string (strOfNums y148)]) (ok := fun _ => True) (okp := fun _ => True) ?hr ?hp (fun _ hk => hk) trivial (Below.refl _ _) (Nat.le_refl _) (by simp) ?_; (case hd => rfl); (case hg => rfl); (case hr => first | (go_simp; done) | (go_simp; rfl)); (case hp => exact (Reps.c2 (show Kd.M k65 _ _ _ (⟨61, strOfNums y148⟩ : S65) [.int .i64 61, .string (strOfNums y148)] from (k65_mkM _ _ _ (⟨61, strOfNums y148⟩ : S65) )) (Reps.none _ _)))
                  intro v152 w30 ho31 hb hg_ hnew_
                  clear hg_ hnew_
                  (first | rw [← Ny151.out] at ho31 | (simp only [Int.reduceToNat] at ho31; rw [← Ny151.out] at ho31))
                  have n0_ := Aside0.mk (Kd.R_below (by (with_reducible repeat (first | apply Kd.R_alloc | apply Kd.R_drewN | apply Kd.R_drew)); exact HO144.out) hb)
                  have n1_ := Aside0.mk (Kd.R_below (by (with_reducible repeat (first | apply Kd.R_alloc | apply Kd.R_drewN | apply Kd.R_drew)); exact HO150.out) hb)
                  have n2_ := Aside0.mk (Kd.R_lower ho31 (below_size (by repeat (with_reducible first | exact HB.out | apply below_alloc | apply pw_below_drewN | apply below_drew1))))
                  have n3_ := Aside0.mk (below_step (by repeat (with_reducible first | exact HB.out | apply below_alloc | apply pw_below_drewN | apply below_drew1)) hb)
                  clear HO144
                  clear HO150
                  clear HB
                  have HO144 := n0_
                  have HO150 := n1_
                  have HO153 := n2_
                  have HB := n3_
                  clear n0_ n1_ n2_ n3_
                  clear hb ho31
                  obtain ⟨Ao32, co32, eo32⟩ := Kd.R_slice HO153.out
                  (first | subst eo32 | (injection eo32 with f1_ f2_ f3_; have f4_ := f1_.symm; have f5_ := f3_.symm; clear f1_ f2_ f3_; subst f4_; subst f5_))
                  refine hK.out _ _ trivial (fun hHeld => ?_)
                  clear hK K
                  refine norm_ (a' := ?_) ?_ ?_
                  rotate_left
                  · show Act.put _ (some 30) _ = _
                    simp only [Act.put, List.setIfInBounds_toArray, List.set_cons_zero, List.set_cons_succ, i64_w, i32_w]
                    rfl
                  refine pure_ (i := 13) (N := some 31) (v := ?_) (a' := ?_) #[true, true, true, true, true, false, false, true, true, true, true, true, true, true, true, true, true, false, false] rfl rfl (any_of HT_.out (by kernel_rfl)) (fun _ _ _ h => h) (Or.inl ⟨by rfl, ?_⟩) ?_ ?_
                  rotate_left
                  · intro w'
                    go_simp
                    with_reducible rfl
                  rotate_left
                  · simp only [Act.put, List.setIfInBounds_toArray, List.set_cons_zero, List.set_cons_succ, i64_w, i32_w]
                    rfl
                  exact norm_ (by first | (simp only [putAll, Act.put, List.setIfInBounds_toArray, List.set_cons_zero, List.set_cons_succ]; done) | (simp only [putAll, Act.put, List.setIfInBounds_toArray, List.set_cons_zero, List.set_cons_succ]; rfl)) (hJ1_2_9_10_12 (v143, v149, .slice Ao32 y151.length co32) _ ⟨(by (with_reducible repeat (first | apply Kd.R_alloc | apply Kd.R_drewN | apply Kd.R_drew)); exact HO144.out), (by (with_reducible repeat (first | apply Kd.R_alloc | apply Kd.R_drewN | apply Kd.R_drew)); exact HO150.out), (by (with_reducible repeat (first | apply Kd.R_alloc | apply Kd.R_drewN | apply Kd.R_drew)); exact HO153.out), (by repeat (with_reducible first | exact HB.out | apply below_alloc | apply pw_below_drewN | apply below_drew1))⟩)
            · skip
              rintro ⟨v143, v146, v149⟩ w31 ⟨h0_, h1_, h2_, h3_⟩
              have n0_ : Aside0 (Kd.R (Kd.int .u8) 5 w31 w.heap.size (fun k_ => some k_ ≠ (v149 : Value).ownBlock) v143 y142) := ⟨h0_⟩
              have n1_ : Aside0 (Kd.R k65 65 w31 w.heap.size (fun _ => True) v146 y145) := ⟨h1_⟩
              have n2_ : Aside0 (Kd.R (Kd.int .u8) 5 w31 w.heap.size (fun k_ => some k_ ≠ (v143 : Value).ownBlock) v149 y148) := ⟨h2_⟩
              have n3_ : Aside0 (Below w.heap.size w w31) := ⟨h3_⟩
              clear HB
              clear h0_ h1_ h2_ h3_
              have HO144 := n0_
              have HO147 := n1_
              have HO150 := n2_
              have HB := n3_
              clear n0_ n1_ n2_ n3_
              have hHeld := trivial
              obtain ⟨Ao32, co32, eo32⟩ := Kd.R_slice HO147.out
              (first | subst eo32 | (injection eo32 with f1_ f2_ f3_; have f4_ := f1_.symm; have f5_ := f3_.symm; clear f1_ f2_ f3_; subst f4_; subst f5_))
              refine norm_ (a' := ?_) ?_ ?_
              rotate_left
              · simp only [putAll, Act.put, List.setIfInBounds_toArray, List.set_cons_zero, List.set_cons_succ]
                rfl
              refine one_ (i := 10) (N := some 28) #[true, true, true, true, true, true, true, true, true, true, true, false, false, false, true, true, true, false, false] rfl rfl (one_of HT_.out (by kernel_rfl)) (by decide) (fun K hK => ?_)
              have hcv33 := own_string (P := Try.prog) Try.underlying28 Try.underlying5 Try.underlying9 (Kd.own_of_R HO150.out)
              refine value_ (w1 := ?_) (v := ?_) (by rfl) rfl ?_ ?_
              rotate_left 2
              · go_simp
                constructor
                · rfl
                · rfl
              clear hcv33
              refine hK.out _ _ trivial (fun hHeld => ?_)
              clear hK K
              refine norm_ (a' := ?_) ?_ ?_
              rotate_left
              · show Act.put _ (some 28) _ = _
                simp only [Act.put, List.setIfInBounds_toArray, List.set_cons_zero, List.set_cons_succ, i64_w, i32_w]
                rfl
              refine pure_ (i := 11) (N := some 29) (v := ?_) (a' := ?_) #[true, true, true, true, true, true, true, true, true, true, true, true, false, false, true, true, true, false, false] rfl rfl (any_of HT_.out (by kernel_rfl)) (fun _ _ _ h => h) (Or.inl ⟨by rfl, ?_⟩) ?_ ?_
              rotate_left
              · intro w'
                go_simp
                with_reducible rfl
              rotate_left
              · simp only [Act.put, List.setIfInBounds_toArray, List.set_cons_zero, List.set_cons_succ, i64_w, i32_w]
                rfl
              exact norm_ (by first | (simp only [putAll, Act.put, List.setIfInBounds_toArray, List.set_cons_zero, List.set_cons_succ]; done) | (simp only [putAll, Act.put, List.setIfInBounds_toArray, List.set_cons_zero, List.set_cons_succ]; rfl)) (hJ1_2_5_9_10 (v143, .slice Ao32 y145.length co32, v149) _ ⟨(by (with_reducible repeat (first | apply Kd.R_alloc | apply Kd.R_drewN | apply Kd.R_drew)); exact HO144.out), (by (with_reducible repeat (first | apply Kd.R_alloc | apply Kd.R_drewN | apply Kd.R_drew)); exact HO147.out), (by (with_reducible repeat (first | apply Kd.R_alloc | apply Kd.R_drewN | apply Kd.R_drew)); exact HO150.out), (by repeat (with_reducible first | exact HB.out | apply below_alloc | apply pw_below_drewN | apply below_drew1))⟩)
          · skip
            rintro ⟨v143, v146, v149, v152⟩ w34 ⟨h0_, h1_, h2_, h3_, h4_⟩
            have n0_ : Aside0 (Kd.R (Kd.int .u8) 5 w34 w.heap.size (fun k_ => some k_ ≠ (v149 : Value).ownBlock) v143 y142) := ⟨h0_⟩
            have n1_ : Aside0 (Kd.R k65 65 w34 w.heap.size (fun k_ => some k_ ≠ (v152 : Value).ownBlock) v146 y145) := ⟨h1_⟩
            have n2_ : Aside0 (Kd.R (Kd.int .u8) 5 w34 w.heap.size (fun k_ => some k_ ≠ (v143 : Value).ownBlock) v149 y148) := ⟨h2_⟩
            have n3_ : Aside0 (Kd.R k65 65 w34 w.heap.size (fun k_ => some k_ ≠ (v146 : Value).ownBlock) v152 y151) := ⟨h3_⟩
            have n4_ : Aside0 (Below w.heap.size w w34) := ⟨h4_⟩
            clear HB
            clear h0_ h1_ h2_ h3_ h4_
            have HO144 := n0_
            have HO147 := n1_
            have HO150 := n2_
            have HO153 := n3_
            have HB := n4_
            clear n0_ n1_ n2_ n3_ n4_
            have hHeld := trivial
            obtain ⟨Ao35, co35, eo35⟩ := Kd.R_slice HO147.out
            (first | subst eo35 | (injection eo35 with f1_ f2_ f3_; have f4_ := f1_.symm; have f5_ := f3_.symm; clear f1_ f2_ f3_; subst f4_; subst f5_))
            obtain ⟨Ao36, co36, eo36⟩ := Kd.R_slice HO153.out
            (first | subst eo36 | (injection eo36 with f1_ f2_ f3_; have f4_ := f1_.symm; have f5_ := f3_.symm; clear f1_ f2_ f3_; subst f4_; subst f5_))
            refine norm_ (a' := ?_) ?_ ?_
            rotate_left
            · simp only [putAll, Act.put, List.setIfInBounds_toArray, List.set_cons_zero, List.set_cons_succ]
              rfl
            refine one_ (i := 2) (N := some 20) #[true, true, true, false, true, true, true, true, true, true, true, true, true, true, true, true, true, false, false] rfl rfl (one_of HT_.out (by kernel_rfl)) (by decide) (fun K hK => ?_)
            have hcv37 := own_string (P := Try.prog) Try.underlying28 Try.underlying5 Try.underlying9 (Kd.own_of_R HO144.out)
            refine value_ (w1 := ?_) (v := ?_) (by rfl) rfl ?_ ?_
            rotate_left 2
            · go_simp
              constructor
              · rfl
              · rfl
            clear hcv37
            refine hK.out _ _ trivial (fun hHeld => ?_)
            clear hK K
            refine norm_ (a' := ?_) ?_ ?_
            rotate_left
            · show Act.put _ (some 20) _ = _
              simp only [Act.put, List.setIfInBounds_toArray, List.set_cons_zero, List.set_cons_succ, i64_w, i32_w]
              rfl
            refine pure_ (i := 3) (N := some 21) (v := ?_) (a' := ?_) #[true, true, true, true, true, true, true, true, true, true, true, true, true, true, true, true, true, false, false] rfl rfl (any_of HT_.out (by kernel_rfl)) (fun _ _ _ h => h) (Or.inl ⟨by rfl, ?_⟩) ?_ ?_
            rotate_left
            · intro w'
              go_simp
              with_reducible rfl
            rotate_left
            · simp only [Act.put, List.setIfInBounds_toArray, List.set_cons_zero, List.set_cons_succ, i64_w, i32_w]
              rfl
            exact norm_ (by first | (simp only [putAll, Act.put, List.setIfInBounds_toArray, List.set_cons_zero, List.set_cons_succ]; done) | (simp only [putAll, Act.put, List.setIfInBounds_toArray, List.set_cons_zero, List.set_cons_succ]; rfl)) (hJ1_2_5_9_10_12 (v143, .slice Ao35 y145.length co35, v149, .slice Ao36 y151.length co36) _ ⟨(by (with_reducible repeat (first | apply Kd.R_alloc | apply Kd.R_drewN | apply Kd.R_drew)); exact HO144.out), (by (with_reducible repeat (first | apply Kd.R_alloc | apply Kd.R_drewN | apply Kd.R_drew)); exact HO147.out), (by (with_reducible repeat (first | apply Kd.R_alloc | apply Kd.R_drewN | apply Kd.R_drew)); exact HO150.out), (by (with_reducible repeat (first | apply Kd.R_alloc | apply Kd.R_drewN | apply Kd.R_drew)); exact HO153.out), (by repeat (with_reducible first | exact HB.out | apply below_alloc | apply pw_below_drewN | apply below_drew1))⟩)
        · skip
          rintro ⟨v143, v149, v152⟩ w32 ⟨h0_, h1_, h2_, h3_⟩
          have n0_ : Aside0 (Kd.R (Kd.int .u8) 5 w32 w.heap.size (fun k_ => some k_ ≠ (v149 : Value).ownBlock) v143 y142) := ⟨h0_⟩
          have n1_ : Aside0 (Kd.R (Kd.int .u8) 5 w32 w.heap.size (fun k_ => some k_ ≠ (v143 : Value).ownBlock) v149 y148) := ⟨h1_⟩
          have n2_ : Aside0 (Kd.R k65 65 w32 w.heap.size (fun _ => True) v152 y151) := ⟨h2_⟩
          have n3_ : Aside0 (Below w.heap.size w w32) := ⟨h3_⟩
          clear HB
          clear h0_ h1_ h2_ h3_
          have HO144 := n0_
          have HO150 := n1_
          have HO153 := n2_
          have HB := n3_
          clear n0_ n1_ n2_ n3_
          have hHeld := trivial
          obtain ⟨Ao33, co33, eo33⟩ := Kd.R_slice HO153.out
          (first | subst eo33 | (injection eo33 with f1_ f2_ f3_; have f4_ := f1_.symm; have f5_ := f3_.symm; clear f1_ f2_ f3_; subst f4_; subst f5_))
          refine norm_ (a' := ?_) ?_ ?_
          rotate_left
          · simp only [putAll, Act.put, List.setIfInBounds_toArray, List.set_cons_zero, List.set_cons_succ]
            rfl
          refine one_ (i := 5) (N := some 23) #[true, true, true, true, true, true, false, true, true, true, true, true, true, true, true, true, true, false, false] rfl rfl (one_of HT_.out (by kernel_rfl)) (by decide) (fun K hK => ?_)
          refine Kd.R_lit_step k65 _ 65 ?hg (N := 23) ?hd (xs := ([(⟨61, (⟨#[]⟩ : ByteArray)⟩ : S65)] : List (S65))) (inner := [.int .i64 61, .string (⟨#[]⟩ : ByteArray)]) (ok := fun _ => True) (okp := fun _ => True) ?hr ?hp (fun _ hk => hk) trivial (Below.refl _ _) (Nat.le_refl _) (by simp) ?_; (case hd => rfl); (case hg => rfl); (case hr => first | (go_simp; done) | (go_simp; rfl)); (case hp => exact (Reps.c2 (show Kd.M k65 _ _ _ (⟨61, (⟨#[]⟩ : ByteArray)⟩ : S65) [.int .i64 61, .string (⟨#[]⟩ : ByteArray)] from (k65_mkM _ _ _ (⟨61, (⟨#[]⟩ : ByteArray)⟩ : S65) )) (Reps.none _ _)))
          intro v146 w34 ho35 hb hg_ hnew_
          clear hg_ hnew_
          (first | rw [← Ny145.out] at ho35 | (simp only [Int.reduceToNat] at ho35; rw [← Ny145.out] at ho35))
          have n0_ := Aside0.mk (Kd.R_below (by (with_reducible repeat (first | apply Kd.R_alloc | apply Kd.R_drewN | apply Kd.R_drew)); exact HO144.out) hb)
          have n1_ := Aside0.mk (Kd.R_below (by (with_reducible repeat (first | apply Kd.R_alloc | apply Kd.R_drewN | apply Kd.R_drew)); exact HO150.out) hb)
          have n2_ := Aside0.mk (Kd.R_elder' (by (with_reducible repeat (first | apply Kd.R_alloc | apply Kd.R_drewN | apply Kd.R_drew)); exact HO153.out) (Kd.R_base ho35) hb)
          have n3_ := Aside0.mk (Kd.R_lower (Kd.R_new' ho35 (Kd.R_lt (by (with_reducible repeat (first | apply Kd.R_alloc | apply Kd.R_drewN | apply Kd.R_drew)); exact HO153.out))) (below_size (by repeat (with_reducible first | exact HB.out | apply below_alloc | apply pw_below_drewN | apply below_drew1))))
          have n4_ := Aside0.mk (below_step (by repeat (with_reducible first | exact HB.out | apply below_alloc | apply pw_below_drewN | apply below_drew1)) hb)
          clear HO144
          clear HO150
          clear HO153
          clear HB
          have HO144 := n0_
          have HO150 := n1_
          have HO153 := n2_
          have HO147 := n3_
          have HB := n4_
          clear n0_ n1_ n2_ n3_ n4_
          clear hb ho35
          obtain ⟨Ao36, co36, eo36⟩ := Kd.R_slice HO147.out
          (first | subst eo36 | (injection eo36 with f1_ f2_ f3_; have f4_ := f1_.symm; have f5_ := f3_.symm; clear f1_ f2_ f3_; subst f4_; subst f5_))
          refine hK.out _ _ trivial (fun hHeld => ?_)
          clear hK K
          refine norm_ (a' := ?_) ?_ ?_
          rotate_left
          · show Act.put _ (some 23) _ = _
            simp only [Act.put, List.setIfInBounds_toArray, List.set_cons_zero, List.set_cons_succ, i64_w, i32_w]
            rfl
          refine pure_ (i := 6) (N := some 24) (v := ?_) (a' := ?_) #[true, true, true, true, true, true, true, true, true, true, true, true, true, true, true, true, true, false, false] rfl rfl (any_of HT_.out (by kernel_rfl)) (fun _ _ _ h => h) (Or.inl ⟨by rfl, ?_⟩) ?_ ?_
          rotate_left
          · intro w'
            go_simp
            with_reducible rfl
          rotate_left
          · simp only [Act.put, List.setIfInBounds_toArray, List.set_cons_zero, List.set_cons_succ, i64_w, i32_w]
            rfl
          exact norm_ (by first | (simp only [putAll, Act.put, List.setIfInBounds_toArray, List.set_cons_zero, List.set_cons_succ]; done) | (simp only [putAll, Act.put, List.setIfInBounds_toArray, List.set_cons_zero, List.set_cons_succ]; rfl)) (hJ1_2_5_9_10_12 (v143, .slice Ao36 y145.length co36, v149, .slice Ao33 y151.length co33) _ ⟨(by (with_reducible repeat (first | apply Kd.R_alloc | apply Kd.R_drewN | apply Kd.R_drew)); exact HO144.out), (by (with_reducible repeat (first | apply Kd.R_alloc | apply Kd.R_drewN | apply Kd.R_drew)); exact Kd.R_mono HO147.out (fun _ hk => hk.2)), (by (with_reducible repeat (first | apply Kd.R_alloc | apply Kd.R_drewN | apply Kd.R_drew)); exact HO150.out), (by (with_reducible repeat (first | apply Kd.R_alloc | apply Kd.R_drewN | apply Kd.R_drew)); exact Kd.R_mono HO153.out (fun _ hk => hk.2)), (by repeat (with_reducible first | exact HB.out | apply below_alloc | apply pw_below_drewN | apply below_drew1))⟩)
      · skip
        rintro ⟨v143, v146, v149⟩ w32 ⟨h0_, h1_, h2_, h3_⟩
        have n0_ : Aside0 (Kd.R (Kd.int .u8) 5 w32 w.heap.size (fun k_ => some k_ ≠ (v149 : Value).ownBlock) v143 y142) := ⟨h0_⟩
        have n1_ : Aside0 (Kd.R k65 65 w32 w.heap.size (fun _ => True) v146 y145) := ⟨h1_⟩
        have n2_ : Aside0 (Kd.R (Kd.int .u8) 5 w32 w.heap.size (fun k_ => some k_ ≠ (v143 : Value).ownBlock) v149 y148) := ⟨h2_⟩
        have n3_ : Aside0 (Below w.heap.size w w32) := ⟨h3_⟩
        clear HB
        clear h0_ h1_ h2_ h3_
        have HO144 := n0_
        have HO147 := n1_
        have HO150 := n2_
        have HB := n3_
        clear n0_ n1_ n2_ n3_
        have hHeld := trivial
        obtain ⟨Ao33, co33, eo33⟩ := Kd.R_slice HO147.out
        (first | subst eo33 | (injection eo33 with f1_ f2_ f3_; have f4_ := f1_.symm; have f5_ := f3_.symm; clear f1_ f2_ f3_; subst f4_; subst f5_))
        refine norm_ (a' := ?_) ?_ ?_
        rotate_left
        · simp only [putAll, Act.put, List.setIfInBounds_toArray, List.set_cons_zero, List.set_cons_succ]
          rfl
        refine one_ (i := 12) (N := some 30) #[true, true, true, true, true, true, true, true, true, true, true, true, true, false, true, true, true, false, false] rfl rfl (one_of HT_.out (by kernel_rfl)) (by decide) (fun K hK => ?_)
        refine Kd.R_lit_step k65 _ 65 ?hg (N := 30) ?hd (xs := ([(⟨61, strOfNums y148⟩ : S65)] : List (S65))) (inner := [.int .i64 61, .string (strOfNums y148)]) (ok := fun _ => True) (okp := fun _ => True) ?hr ?hp (fun _ hk => hk) trivial (Below.refl _ _) (Nat.le_refl _) (by simp) ?_; (case hd => rfl); (case hg => rfl); (case hr => first | (go_simp; done) | (go_simp; rfl)); (case hp => exact (Reps.c2 (show Kd.M k65 _ _ _ (⟨61, strOfNums y148⟩ : S65) [.int .i64 61, .string (strOfNums y148)] from (k65_mkM _ _ _ (⟨61, strOfNums y148⟩ : S65) )) (Reps.none _ _)))
        intro v152 w34 ho35 hb hg_ hnew_
        clear hg_ hnew_
        (first | rw [← Ny151.out] at ho35 | (simp only [Int.reduceToNat] at ho35; rw [← Ny151.out] at ho35))
        have n0_ := Aside0.mk (Kd.R_below (by (with_reducible repeat (first | apply Kd.R_alloc | apply Kd.R_drewN | apply Kd.R_drew)); exact HO144.out) hb)
        have n1_ := Aside0.mk (Kd.R_elder' (by (with_reducible repeat (first | apply Kd.R_alloc | apply Kd.R_drewN | apply Kd.R_drew)); exact HO147.out) (Kd.R_base ho35) hb)
        have n2_ := Aside0.mk (Kd.R_below (by (with_reducible repeat (first | apply Kd.R_alloc | apply Kd.R_drewN | apply Kd.R_drew)); exact HO150.out) hb)
        have n3_ := Aside0.mk (Kd.R_lower (Kd.R_new' ho35 (Kd.R_lt (by (with_reducible repeat (first | apply Kd.R_alloc | apply Kd.R_drewN | apply Kd.R_drew)); exact HO147.out))) (below_size (by repeat (with_reducible first | exact HB.out | apply below_alloc | apply pw_below_drewN | apply below_drew1))))
        have n4_ := Aside0.mk (below_step (by repeat (with_reducible first | exact HB.out | apply below_alloc | apply pw_below_drewN | apply below_drew1)) hb)
        clear HO144
        clear HO147
        clear HO150
        clear HB
        have HO144 := n0_
        have HO147 := n1_
        have HO150 := n2_
        have HO153 := n3_
        have HB := n4_
        clear n0_ n1_ n2_ n3_ n4_
        clear hb ho35
        obtain ⟨Ao36, co36, eo36⟩ := Kd.R_slice HO153.out
        (first | subst eo36 | (injection eo36 with f1_ f2_ f3_; have f4_ := f1_.symm; have f5_ := f3_.symm; clear f1_ f2_ f3_; subst f4_; subst f5_))
        refine hK.out _ _ trivial (fun hHeld => ?_)
        clear hK K
        refine norm_ (a' := ?_) ?_ ?_
        rotate_left
        · show Act.put _ (some 30) _ = _
          simp only [Act.put, List.setIfInBounds_toArray, List.set_cons_zero, List.set_cons_succ, i64_w, i32_w]
          rfl
        refine pure_ (i := 13) (N := some 31) (v := ?_) (a' := ?_) #[true, true, true, true, true, true, true, true, true, true, true, true, true, true, true, true, true, false, false] rfl rfl (any_of HT_.out (by kernel_rfl)) (fun _ _ _ h => h) (Or.inl ⟨by rfl, ?_⟩) ?_ ?_
        rotate_left
        · intro w'
          go_simp
          with_reducible rfl
        rotate_left
        · simp only [Act.put, List.setIfInBounds_toArray, List.set_cons_zero, List.set_cons_succ, i64_w, i32_w]
          rfl
        exact norm_ (by first | (simp only [putAll, Act.put, List.setIfInBounds_toArray, List.set_cons_zero, List.set_cons_succ]; done) | (simp only [putAll, Act.put, List.setIfInBounds_toArray, List.set_cons_zero, List.set_cons_succ]; rfl)) (hJ1_2_5_9_10_12 (v143, .slice Ao33 y145.length co33, v149, .slice Ao36 y151.length co36) _ ⟨(by (with_reducible repeat (first | apply Kd.R_alloc | apply Kd.R_drewN | apply Kd.R_drew)); exact HO144.out), (by (with_reducible repeat (first | apply Kd.R_alloc | apply Kd.R_drewN | apply Kd.R_drew)); exact Kd.R_mono HO147.out (fun _ hk => hk.2)), (by (with_reducible repeat (first | apply Kd.R_alloc | apply Kd.R_drewN | apply Kd.R_drew)); exact HO150.out), (by (with_reducible repeat (first | apply Kd.R_alloc | apply Kd.R_drewN | apply Kd.R_drew)); exact Kd.R_mono HO153.out (fun _ hk => hk.2)), (by repeat (with_reducible first | exact HB.out | apply below_alloc | apply pw_below_drewN | apply below_drew1))⟩)
    rintro ⟨v143, v146, v149, v152⟩ w35 ⟨h0_, h1_, h2_, h3_, h4_⟩
    have n0_ : Aside0 (Kd.R (Kd.int .u8) 5 w35 w.heap.size (fun k_ => some k_ ≠ (v149 : Value).ownBlock) v143 y142) := ⟨h0_⟩
    have n1_ : Aside0 (Kd.R k65 65 w35 w.heap.size (fun k_ => some k_ ≠ (v152 : Value).ownBlock) v146 y145) := ⟨h1_⟩
    have n2_ : Aside0 (Kd.R (Kd.int .u8) 5 w35 w.heap.size (fun k_ => some k_ ≠ (v143 : Value).ownBlock) v149 y148) := ⟨h2_⟩
    have n3_ : Aside0 (Kd.R k65 65 w35 w.heap.size (fun k_ => some k_ ≠ (v146 : Value).ownBlock) v152 y151) := ⟨h3_⟩
    have n4_ : Aside0 (Below w.heap.size w w35) := ⟨h4_⟩
    clear HB
    clear h0_ h1_ h2_ h3_ h4_
    have HO144 := n0_
    have HO147 := n1_
    have HO150 := n2_
    have HO153 := n3_
    have HB := n4_
    clear n0_ n1_ n2_ n3_ n4_
    have hHeld := trivial
    obtain ⟨Ao36, co36, eo36⟩ := Kd.R_slice HO147.out
    (first | subst eo36 | (injection eo36 with f1_ f2_ f3_; have f4_ := f1_.symm; have f5_ := f3_.symm; clear f1_ f2_ f3_; subst f4_; subst f5_))
    obtain ⟨Ao37, co37, eo37⟩ := Kd.R_slice HO153.out
    (first | subst eo37 | (injection eo37 with f1_ f2_ f3_; have f4_ := f1_.symm; have f5_ := f3_.symm; clear f1_ f2_ f3_; subst f4_; subst f5_))
    refine norm_ (a' := ?_) ?_ ?_
    rotate_left
    · simp only [putAll, Act.put, List.setIfInBounds_toArray, List.set_cons_zero, List.set_cons_succ]
      rfl
    refine one_ (i := 17) (N := some 35) #[true, true, true, true, true, true, true, true, true, true, true, true, true, true, true, true, true, true, false] rfl rfl (one_of HT_.out (by kernel_rfl)) (by decide) (fun K hK => ?_)
    refine Kd.N_lit_step k54 _ 54 ?hg (N' := 35) ?hd (xs := ([(⟨0, 0, 0, 0, 0, 0, 0, 0, 0, 0, (⟨#[]⟩ : ByteArray), ([] : List (S65))⟩ : S54), (⟨0, 0, 0, 0, 0, 0, 0, 0, 0, 0, strOfNums y142, ([] : List (S65))⟩ : S54), (⟨0, 0, 0, 0, 0, 0, 0, 0, 0, 0, (⟨#[97]⟩ : ByteArray), y145⟩ : S54), (⟨0, 0, 0, 0, 0, 0, 0, 0, 0, 0, (⟨#[97]⟩ : ByteArray), y151⟩ : S54), (⟨wrap64 (255 + (wrap64 (1 + (Go.bits .and .i64 a1 15)))), 0, 0, 0, 0, 0, 0, 0, 0, 0, (⟨#[97]⟩ : ByteArray), ([] : List (S65))⟩ : S54)] : List (S54))) (inner := [.int .i64 0, .int .i64 0, .int .i64 0, .int .i64 0, .int .i64 0, .int .i64 0, .int .i64 0, .int .i64 0, .int .i64 0, .int .i64 0, .string (⟨#[]⟩ : ByteArray), .slice none 0 0, .int .i64 0, .int .i64 0, .int .i64 0, .int .i64 0, .int .i64 0, .int .i64 0, .int .i64 0, .int .i64 0, .int .i64 0, .int .i64 0, .string (strOfNums y142), .slice none 0 0, .int .i64 0, .int .i64 0, .int .i64 0, .int .i64 0, .int .i64 0, .int .i64 0, .int .i64 0, .int .i64 0, .int .i64 0, .int .i64 0, .string (⟨#[97]⟩ : ByteArray), .slice Ao36 y145.length co36, .int .i64 0, .int .i64 0, .int .i64 0, .int .i64 0, .int .i64 0, .int .i64 0, .int .i64 0, .int .i64 0, .int .i64 0, .int .i64 0, .string (⟨#[97]⟩ : ByteArray), .slice Ao37 y151.length co37, .int .i64 (wrap64 (255 + (wrap64 (1 + (Go.bits .and .i64 a1 15))))), .int .i64 0, .int .i64 0, .int .i64 0, .int .i64 0, .int .i64 0, .int .i64 0, .int .i64 0, .int .i64 0, .int .i64 0, .string (⟨#[97]⟩ : ByteArray), .slice none 0 0]) (ok := (fun k_ => some k_ ≠ (v143 : Value).ownBlock ∧ some k_ ≠ (v149 : Value).ownBlock)) (okp := (fun k_ => some k_ ≠ (v143 : Value).ownBlock ∧ some k_ ≠ (v149 : Value).ownBlock)) ?hr ?hp (fun _ hk => hk) ((show ∀ k_, w35.heap.size ≤ k_ → (fun k_ => some k_ ≠ (v143 : Value).ownBlock ∧ some k_ ≠ (v149 : Value).ownBlock) k_ from fun k_ hk => ⟨Kd.fresh' (Kd.R_lt (by (with_reducible repeat (first | apply Kd.R_alloc | apply Kd.R_drewN | apply Kd.R_drew)); exact HO144.out)) k_ hk, Kd.fresh' (Kd.R_lt (by (with_reducible repeat (first | apply Kd.R_alloc | apply Kd.R_drewN | apply Kd.R_drew)); exact HO150.out)) k_ hk⟩) _ (Nat.le_refl _)) (Below.refl _ _) (Nat.le_refl _) (by simp) ?_; (case hd => rfl); (case hg => rfl); (case hr => first | (go_simp; done) | (go_simp; rfl)); (case hp => exact (Reps.front (show Kd.FK k54 _ _ (⟨0, 0, 0, 0, 0, 0, 0, 0, 0, 0, (⟨#[]⟩ : ByteArray), ([] : List (S65))⟩ : S54) [.int .i64 0, .int .i64 0, .int .i64 0, .int .i64 0, .int .i64 0, .int .i64 0, .int .i64 0, .int .i64 0, .int .i64 0, .int .i64 0, .string (⟨#[]⟩ : ByteArray), .slice none 0 0] from (k54_mkF _ _ (⟨0, 0, 0, 0, 0, 0, 0, 0, 0, 0, (⟨#[]⟩ : ByteArray), ([] : List (S65))⟩ : S54) (Nat.le_refl _) (Kd.F_nil _ _ _))) rfl (Reps.front (show Kd.FK k54 _ _ (⟨0, 0, 0, 0, 0, 0, 0, 0, 0, 0, strOfNums y142, ([] : List (S65))⟩ : S54) [.int .i64 0, .int .i64 0, .int .i64 0, .int .i64 0, .int .i64 0, .int .i64 0, .int .i64 0, .int .i64 0, .int .i64 0, .int .i64 0, .string (strOfNums y142), .slice none 0 0] from (k54_mkF _ _ (⟨0, 0, 0, 0, 0, 0, 0, 0, 0, 0, strOfNums y142, ([] : List (S65))⟩ : S54) (Nat.le_refl _) (Kd.F_nil _ _ _))) rfl (Reps.front (show Kd.FK k54 _ _ (⟨0, 0, 0, 0, 0, 0, 0, 0, 0, 0, (⟨#[97]⟩ : ByteArray), y145⟩ : S54) [.int .i64 0, .int .i64 0, .int .i64 0, .int .i64 0, .int .i64 0, .int .i64 0, .int .i64 0, .int .i64 0, .int .i64 0, .int .i64 0, .string (⟨#[97]⟩ : ByteArray), .slice Ao36 y145.length co36] from (k54_mkF _ _ (⟨0, 0, 0, 0, 0, 0, 0, 0, 0, 0, (⟨#[97]⟩ : ByteArray), y145⟩ : S54) (Kd.R_reads' (Kd.R_mono (ok' := (fun k_ => some k_ ≠ (v143 : Value).ownBlock ∧ some k_ ≠ (v149 : Value).ownBlock)) (Kd.R_apart' (Kd.R_apart' (HO147.out) (Kd.R_typed HO144.out) (by decide)) (Kd.R_typed HO150.out) (by decide)) (fun k_ hk => ⟨hk.1.2, hk.2⟩))).2.1 (Kd.R_F (Kd.R_mono (ok' := (fun k_ => some k_ ≠ (v143 : Value).ownBlock ∧ some k_ ≠ (v149 : Value).ownBlock)) (Kd.R_apart' (Kd.R_apart' (HO147.out) (Kd.R_typed HO144.out) (by decide)) (Kd.R_typed HO150.out) (by decide)) (fun k_ hk => ⟨hk.1.2, hk.2⟩))))) rfl (Reps.front (show Kd.FK k54 _ _ (⟨0, 0, 0, 0, 0, 0, 0, 0, 0, 0, (⟨#[97]⟩ : ByteArray), y151⟩ : S54) [.int .i64 0, .int .i64 0, .int .i64 0, .int .i64 0, .int .i64 0, .int .i64 0, .int .i64 0, .int .i64 0, .int .i64 0, .int .i64 0, .string (⟨#[97]⟩ : ByteArray), .slice Ao37 y151.length co37] from (k54_mkF _ _ (⟨0, 0, 0, 0, 0, 0, 0, 0, 0, 0, (⟨#[97]⟩ : ByteArray), y151⟩ : S54) (Kd.R_reads' (Kd.R_mono (ok' := (fun k_ => some k_ ≠ (v143 : Value).ownBlock ∧ some k_ ≠ (v149 : Value).ownBlock)) (Kd.R_apart' (Kd.R_apart' (HO153.out) (Kd.R_typed HO144.out) (by decide)) (Kd.R_typed HO150.out) (by decide)) (fun k_ hk => ⟨hk.1.2, hk.2⟩))).2.1 (Kd.R_F (Kd.R_mono (ok' := (fun k_ => some k_ ≠ (v143 : Value).ownBlock ∧ some k_ ≠ (v149 : Value).ownBlock)) (Kd.R_apart' (Kd.R_apart' (HO153.out) (Kd.R_typed HO144.out) (by decide)) (Kd.R_typed HO150.out) (by decide)) (fun k_ hk => ⟨hk.1.2, hk.2⟩))))) rfl (Reps.front (show Kd.FK k54 _ _ (⟨wrap64 (255 + (wrap64 (1 + (Go.bits .and .i64 a1 15)))), 0, 0, 0, 0, 0, 0, 0, 0, 0, (⟨#[97]⟩ : ByteArray), ([] : List (S65))⟩ : S54) [.int .i64 (wrap64 (255 + (wrap64 (1 + (Go.bits .and .i64 a1 15))))), .int .i64 0, .int .i64 0, .int .i64 0, .int .i64 0, .int .i64 0, .int .i64 0, .int .i64 0, .int .i64 0, .int .i64 0, .string (⟨#[97]⟩ : ByteArray), .slice none 0 0] from (k54_mkF _ _ (⟨wrap64 (255 + (wrap64 (1 + (Go.bits .and .i64 a1 15)))), 0, 0, 0, 0, 0, 0, 0, 0, 0, (⟨#[97]⟩ : ByteArray), ([] : List (S65))⟩ : S54) (Nat.le_refl _) (Kd.F_nil _ _ _))) rfl (Reps.none _ _) rfl) rfl) rfl) rfl) rfl))
    intro v155 w38 ho39 hb hg_ hnew_
    clear hg_ hnew_
    (first | rw [← Ny154.out] at ho39 | (simp only [Int.reduceToNat] at ho39; rw [← Ny154.out] at ho39))
    have n0_ := Aside0.mk (Kd.R_below (by (with_reducible repeat (first | apply Kd.R_alloc | apply Kd.R_drewN | apply Kd.R_drew)); exact HO144.out) hb)
    have n1_ := Aside0.mk (Kd.R_below (by (with_reducible repeat (first | apply Kd.R_alloc | apply Kd.R_drewN | apply Kd.R_drew)); exact HO150.out) hb)
    have n2_ := Aside0.mk (Kd.N_lower ho39 (below_size (by repeat (with_reducible first | exact HB.out | apply below_alloc | apply pw_below_drewN | apply below_drew1))))
    have n3_ := Aside0.mk (below_step (by repeat (with_reducible first | exact HB.out | apply below_alloc | apply pw_below_drewN | apply below_drew1)) hb)
    clear HO144
    clear HO150
    clear HB
    clear HO147
    clear HO153
    have HO144 := n0_
    have HO150 := n1_
    have HO156 := n2_
    have HB := n3_
    clear n0_ n1_ n2_ n3_
    clear hb ho39
    refine hK.out _ _ trivial (fun hHeld => ?_)
    clear hK K
    refine norm_ (a' := ?_) ?_ ?_
    rotate_left
    · show Act.put _ (some 35) _ = _
      simp only [Act.put, List.setIfInBounds_toArray, List.set_cons_zero, List.set_cons_succ, i64_w, i32_w]
      rfl
    refine pure_ (i := 18) (N := some 6) (v := ?_) (a' := ?_) #[true, true, true, true, true, true, true, true, true, true, true, true, true, true, true, true, true, true, true] rfl rfl (any_of HT_.out (by kernel_rfl)) (fun _ _ _ h => h) (Or.inl ⟨by rfl, ?_⟩) ?_ ?_
    rotate_left
    · intro w'
      go_simp
      with_reducible rfl
    rotate_left
    · simp only [Act.put, List.setIfInBounds_toArray, List.set_cons_zero, List.set_cons_succ, i64_w, i32_w]
      rfl
    refine done_ (done_of HT_.out (by kernel_rfl)) ?_
    obtain ⟨Ao40, co40, eo40⟩ := Kd.N_slice HO156.out
    subst eo40
    have p157 : 0 ≤ ((ji9) : Int) := of_decide_eq_true (by first | (with_reducible assumption) | assumption)
    have q157 : (ji9) < (y154.length : Int) := of_decide_eq_true (by first | (with_reducible assumption) | assumption)
    obtain ⟨ad157, A157_11, c157_11, e157, hx157_0, hx157_1, hx157_2, hx157_3, hx157_4, hx157_5, hx157_6, hx157_7, hx157_8, hx157_9, hx157_10, hx157_11, hl157_11, hi157_11⟩ := at_T54 (Kd.N_reads' HO156.out).2.2 (ji9) p157 q157
    cases e157
    obtain ⟨ce157, hce157, hMe157, hcc157⟩ := Kd.N_get HO156.out z54 (ji9) p157 (by first | exact q157 | exact of_decide_eq_true (by first | (with_reducible assumption) | assumption) | (have e_ := (Kd.N_reads' HO156.out).1; omega))
    obtain ⟨ua157_11, uc157_11, rfl, ul157_11, ge157_11⟩ := k54_openF hMe157
    have hv157_11 := hcc157 11 _ rfl
    rw [add_field _ _ 11 (by omega)] at hv157_11
    replace hv157_11 := Option.some.inj (hv157_11.symm.trans hx157_11)
    injection hv157_11 with hva_ hvn_ hvc_
    rw [hva_] at ge157_11
    rw [hvc_] at ul157_11
    have HL157_11 := Aside0.mk (show Kd.V k65 65 _ w.heap.size _ _ ((rd_T54 y154 (ji9)).f11) from Kd.V_mk ul157_11 ge157_11)
    clear hva_ hvn_ hvc_ ge157_11 ul157_11
    clear hcc157 hce157
    have HR157_11 := Aside0.mk hi157_11
    have HC157_11 := Aside0.mk hl157_11
    clear hi157_11 hl157_11
    replace p157 := eq_true p157
    replace q157 := eq_true q157
    try go_wp2_with (first | ((with_reducible refine gate_callee (f := 30) rfl ?_); refine goesL_ (some 44) rfl rfl Try.func30 (by kernel_rfl) rfl #[.agg #[.int .i64 ((rd_T54 y154 (ji9)).f0), .int .i64 ((rd_T54 y154 (ji9)).f1), .int .i64 ((rd_T54 y154 (ji9)).f2), .int .i64 ((rd_T54 y154 (ji9)).f3), .int .i64 ((rd_T54 y154 (ji9)).f4), .int .i64 ((rd_T54 y154 (ji9)).f5), .int .i64 ((rd_T54 y154 (ji9)).f6), .int .i64 ((rd_T54 y154 (ji9)).f7), .int .i64 ((rd_T54 y154 (ji9)).f8), .int .i64 ((rd_T54 y154 (ji9)).f9), .string ((rd_T54 y154 (ji9)).f10), .slice A157_11 ((rd_T54 y154 (ji9)).f11).length c157_11]] rfl (by (try simp only [List.map_toArray, List.map_cons, List.map_nil]); first | done | (simp only [hji9]; rfl) | rfl | (simp only [List.length_drop, List.length_take]; rfl)) ?_; (with_reducible refine (ident_Client.calls k ((rd_T54 y154 (ji9)).f0) ((rd_T54 y154 (ji9)).f1) ((rd_T54 y154 (ji9)).f2) ((rd_T54 y154 (ji9)).f3) ((rd_T54 y154 (ji9)).f4) ((rd_T54 y154 (ji9)).f5) ((rd_T54 y154 (ji9)).f6) ((rd_T54 y154 (ji9)).f7) ((rd_T54 y154 (ji9)).f8) ((rd_T54 y154 (ji9)).f9) ((rd_T54 y154 (ji9)).f10) _ _ ((rd_T54 y154 (ji9)).f11) t158 t159 _ ?side1 ?side2 A12.out).mono ?_); (case side1 => repeat (first | exact (by repeat (first | (with_reducible exact HR157_11.out) | (with_reducible refine Kd.C_alloc ?_ _) | (with_reducible refine Kd.C_drewN ?_ _) | (with_reducible refine Kd.C_drew ?_) | exact HR157_11.out)) | (with_reducible refine Kd.C_alloc ?_ _) | (with_reducible refine Kd.C_drewN ?_ _) | (with_reducible refine Kd.C_drew ?_))); (case side2 => exact HC157_11.out); rintro e w41 ⟨rfl, hb⟩; refine ⟨_, rfl, ?_⟩; have n0_ := Aside0.mk (Kd.R_below (by (with_reducible repeat (first | apply Kd.R_alloc | apply Kd.R_drewN | apply Kd.R_drew)); exact HO144.out) hb); have n1_ := Aside0.mk (Kd.R_below (by (with_reducible repeat (first | apply Kd.R_alloc | apply Kd.R_drewN | apply Kd.R_drew)); exact HO150.out) hb); have n2_ := Aside0.mk (Kd.N_below (by (with_reducible repeat (first | apply Kd.N_alloc | apply Kd.N_drewN | apply Kd.N_drew)); exact HO156.out) hb); have n3_ := Aside0.mk (Kd.V_below (by (with_reducible repeat (first | apply Kd.V_alloc | apply Kd.V_drewN | apply Kd.V_drew)); exact HL157_11.out) hb); have n4_ := Aside0.mk (Kd.C_below (by repeat (first | (with_reducible exact HR157_11.out) | (with_reducible refine Kd.C_alloc ?_ _) | (with_reducible refine Kd.C_drewN ?_ _) | (with_reducible refine Kd.C_drew ?_) | exact HR157_11.out)) hb); have n5_ := Aside0.mk (below_step (by repeat (with_reducible first | exact HB.out | apply below_alloc | apply pw_below_drewN | apply below_drew1)) hb); clear HO144; clear HO150; clear HO156; clear HL157_11; clear HR157_11; clear HB; have HO144 := n0_; have HO150 := n1_; have HO156 := n2_; have HL157_11 := n3_; have HR157_11 := n4_; have HB := n5_; clear n0_ n1_ n2_ n3_ n4_ n5_; (try clear hb)) | ((with_reducible refine gate_dst (N := 50) rfl ?_); refine Kd.R_make (Kd.int .u8) _ 5 rfl (N := 50) rfl 28 _ _ rfl ji6 rfl rfl Try.underlying28 (.int .u8 0) 1 info5 rfl (by decide) (by omega) 0 (ok := fun _ => True) (okp := fun _ => True) rfl (fun _ hk => hk) trivial (of_decide_eq_true (by first | (with_reducible assumption) | assumption)) (Nat.le_trans (Nat.mul_le_mul_right _ (of_decide_eq_true (by first | (with_reducible assumption) | assumption) : ji6.toNat ≤ 281474976710656)) (by omega)) (Below.refl _ _) (Nat.le_refl _) ?_; intro v161 w42 ho43 hb hg_ hnew_; clear hg_ hnew_; (first | rw [← Ny160.out] at ho43 | (simp only [Int.reduceToNat] at ho43; rw [← Ny160.out] at ho43)); have n0_ := Aside0.mk (Kd.R_elder' (by (with_reducible repeat (first | apply Kd.R_alloc | apply Kd.R_drewN | apply Kd.R_drew)); exact HO144.out) (Kd.R_base ho43) hb); have n1_ := Aside0.mk (Kd.R_elder' (by (with_reducible repeat (first | apply Kd.R_alloc | apply Kd.R_drewN | apply Kd.R_drew)); exact HO150.out) (Kd.R_base ho43) hb); have n2_ := Aside0.mk (Kd.N_elder' (by (with_reducible repeat (first | apply Kd.N_alloc | apply Kd.N_drewN | apply Kd.N_drew)); exact HO156.out) (Kd.R_base ho43) hb); have n3_ := Aside0.mk (Kd.V_elder' (by (with_reducible repeat (first | apply Kd.V_alloc | apply Kd.V_drewN | apply Kd.V_drew)); exact HL157_11.out) (Kd.R_base ho43) hb); have n4_ := Aside0.mk (Kd.R_lower (Kd.R_new' (Kd.R_new' ho43 (Kd.R_lt (by (with_reducible repeat (first | apply Kd.R_alloc | apply Kd.R_drewN | apply Kd.R_drew)); exact HO144.out))) (Kd.R_lt (by (with_reducible repeat (first | apply Kd.R_alloc | apply Kd.R_drewN | apply Kd.R_drew)); exact HO150.out))) (below_size (by repeat (with_reducible first | exact HB.out | apply below_alloc | apply pw_below_drewN | apply below_drew1)))); have n5_ := Aside0.mk (Kd.C_below (by repeat (first | (with_reducible exact HR157_11.out) | (with_reducible refine Kd.C_alloc ?_ _) | (with_reducible refine Kd.C_drewN ?_ _) | (with_reducible refine Kd.C_drew ?_) | exact HR157_11.out)) hb); have n6_ := Aside0.mk (below_step (by repeat (with_reducible first | exact HB.out | apply below_alloc | apply pw_below_drewN | apply below_drew1)) hb); clear HO144; clear HO150; clear HO156; clear HL157_11; clear HR157_11; clear HB; have HO144 := n0_; have HO150 := n1_; have HO156 := n2_; have HL157_11 := n3_; have HO162 := n4_; have HR157_11 := n5_; have HB := n6_; clear n0_ n1_ n2_ n3_ n4_ n5_ n6_; clear hb ho43; have hcv44 := own_string (P := Try.prog) Try.underlying28 Try.underlying5 Try.underlying9 (Kd.own_of_R HO162.out)) | ((with_reducible refine gate_callee (f := 32) rfl ?_); refine goesL_ (some 52) rfl rfl Try.func32 (by kernel_rfl) rfl #[.string (strOfNums y160), .string (⟨#[97]⟩ : ByteArray)] rfl (by (try simp only [List.map_toArray, List.map_cons, List.map_nil]); first | done | rfl | (simp only [List.length_drop, List.length_take]; rfl)) ?_; (with_reducible refine (ident_Dhcid.calls k (strOfNums y160) (⟨#[97]⟩ : ByteArray) t163 t164 _ A13.out).mono ?_); rintro e w45 ⟨rfl, hb⟩; refine ⟨_, rfl, ?_⟩; have n0_ := Aside0.mk (Kd.R_below (by (with_reducible repeat (first | apply Kd.R_alloc | apply Kd.R_drewN | apply Kd.R_drew)); exact HO144.out) hb); have n1_ := Aside0.mk (Kd.R_below (by (with_reducible repeat (first | apply Kd.R_alloc | apply Kd.R_drewN | apply Kd.R_drew)); exact HO150.out) hb); have n2_ := Aside0.mk (Kd.N_below (by (with_reducible repeat (first | apply Kd.N_alloc | apply Kd.N_drewN | apply Kd.N_drew)); exact HO156.out) hb); have n3_ := Aside0.mk (Kd.V_below (by (with_reducible repeat (first | apply Kd.V_alloc | apply Kd.V_drewN | apply Kd.V_drew)); exact HL157_11.out) hb); have n4_ := Aside0.mk (Kd.R_below (by (with_reducible repeat (first | apply Kd.R_alloc | apply Kd.R_drewN | apply Kd.R_drew)); exact HO162.out) hb); have n5_ := Aside0.mk (Kd.C_below (by repeat (first | (with_reducible exact HR157_11.out) | (with_reducible refine Kd.C_alloc ?_ _) | (with_reducible refine Kd.C_drewN ?_ _) | (with_reducible refine Kd.C_drew ?_) | exact HR157_11.out)) hb); have n6_ := Aside0.mk (below_step (by repeat (with_reducible first | exact HB.out | apply below_alloc | apply pw_below_drewN | apply below_drew1)) hb); clear HO144; clear HO150; clear HO156; clear HL157_11; clear HO162; clear HR157_11; clear HB; have HO144 := n0_; have HO150 := n1_; have HO156 := n2_; have HL157_11 := n3_; have HO162 := n4_; have HR157_11 := n5_; have HB := n6_; clear n0_ n1_ n2_ n3_ n4_ n5_ n6_; (try clear hb)) | ((with_reducible refine gate_callee (f := 32) rfl ?_); refine goesL_ (some 56) rfl rfl Try.func32 (by kernel_rfl) rfl #[.string (⟨#[97]⟩ : ByteArray), .string (⟨#[65]⟩ : ByteArray)] rfl (by (try simp only [List.map_toArray, List.map_cons, List.map_nil]); first | done | rfl | (simp only [List.length_drop, List.length_take]; rfl)) ?_; (with_reducible refine (ident_Dhcid.calls k (⟨#[97]⟩ : ByteArray) (⟨#[65]⟩ : ByteArray) t165 t166 _ A14.out).mono ?_); rintro e w46 ⟨rfl, hb⟩; refine ⟨_, rfl, ?_⟩; have n0_ := Aside0.mk (Kd.R_below (by (with_reducible repeat (first | apply Kd.R_alloc | apply Kd.R_drewN | apply Kd.R_drew)); exact HO144.out) hb); have n1_ := Aside0.mk (Kd.R_below (by (with_reducible repeat (first | apply Kd.R_alloc | apply Kd.R_drewN | apply Kd.R_drew)); exact HO150.out) hb); have n2_ := Aside0.mk (Kd.N_below (by (with_reducible repeat (first | apply Kd.N_alloc | apply Kd.N_drewN | apply Kd.N_drew)); exact HO156.out) hb); have n3_ := Aside0.mk (Kd.V_below (by (with_reducible repeat (first | apply Kd.V_alloc | apply Kd.V_drewN | apply Kd.V_drew)); exact HL157_11.out) hb); have n4_ := Aside0.mk (Kd.R_below (by (with_reducible repeat (first | apply Kd.R_alloc | apply Kd.R_drewN | apply Kd.R_drew)); exact HO162.out) hb); have n5_ := Aside0.mk (Kd.C_below (by repeat (first | (with_reducible exact HR157_11.out) | (with_reducible refine Kd.C_alloc ?_ _) | (with_reducible refine Kd.C_drewN ?_ _) | (with_reducible refine Kd.C_drew ?_) | exact HR157_11.out)) hb); have n6_ := Aside0.mk (below_step (by repeat (with_reducible first | exact HB.out | apply below_alloc | apply pw_below_drewN | apply below_drew1)) hb); clear HO144; clear HO150; clear HO156; clear HL157_11; clear HO162; clear HR157_11; clear HB; have HO144 := n0_; have HO150 := n1_; have HO156 := n2_; have HL157_11 := n3_; have HO162 := n4_; have HR157_11 := n5_; have HB := n6_; clear n0_ n1_ n2_ n3_ n4_ n5_ n6_; (try clear hb)) | (go_at_call 20; (with_reducible refine (pinfoldlaw0_Num.calls t159 t167 _ A16.out).mono ?_); rintro e w' ⟨rfl, ⟨nd, rfl⟩⟩) | (go_at_call 20; (with_reducible refine (pinfoldlaw0_Num.calls t164 t168 _ A18.out).mono ?_); rintro e w' ⟨rfl, ⟨nd, rfl⟩⟩) | (go_at_call 20; (with_reducible refine (pinfoldlaw0_Num.calls t166 t169 _ A20.out).mono ?_); rintro e w' ⟨rfl, ⟨nd, rfl⟩⟩))
    go_ret
    exact ⟨by first | rfl | (simp [errW_none, errW_some] <;> rfl) | (simp only [← hji6, ← hji9]; first | rfl | (simp [errW_none, errW_some] <;> rfl)) | (simp [*, errW_none, errW_some] <;> rfl) | (simp only [str_ne_]; rfl) | (simp only [str_eq_]; rfl), by repeat (with_reducible first | exact HB.out | apply below_alloc | apply pw_below_drewN | apply below_drew1)⟩
  replace c4 := Bool.eq_false_iff.mpr c4
  subst c4
  have H1 : (none) = some r := by rw [if_neg (show ¬ (false = true) by decide)] at H; exact H
  clear H
  have H := H1
  clear H1
  exact absurd H (by simp)

/-- THE ONE PURE STATEMENT of pinfoldlaw9_IdentForms. -/
def pinfoldlaw9_IdentForms.Pure : Prop := ∀ (a0 : Int) (a1 : Int), (Lit.int .i64 a0).wf = true → (Lit.int .i64 a1).wf = true → ∃ k, pinfoldlaw9_IdentForms.f k a0 a1 = some true
theorem pinfoldlaw9_IdentForms.walk (P : pinfoldlaw9_IdentForms.Pure) (a0 : Int) (a1 : Int) (w : World)  (w0 : (Lit.int .i64 a0).wf = true) (w1 : (Lit.int .i64 a1).wf = true) :
    Calls Try.prog 12 #[.int .i64 a0, .int .i64 a1] w fun e w' => e = .returned (.bool true) ∧ Below w.heap.size w w' := by
  obtain ⟨k, h⟩ := P a0 a1 w0 w1
  refine (pinfoldlaw9_IdentForms.calls k a0 a1 true w  h).mono ?_
  rintro e w' ⟨rfl, hd⟩
  exact ⟨rfl, hd⟩

end Go.Proofs.Ytpfanafggmkejaa.PIdentForms
