/- DropForms: what may not be asked: each answered so. No condition. -/
import Derived.Test.YtmoobaehoccihaaDoorPEx29
namespace Go.Proofs.YtmoobaehoccihaaDoor.Pure
open Go.RowKit Go.Proofs.YtmoobaehoccihaaDoor.PE Go.Proofs.YtmoobaehoccihaaDoorW.PrintWords Go.Proofs.YtmoobaehoccihaaDoorW.PrintLast
set_option linter.unusedSimpArgs false
set_option linter.unusedVariables false

/-- the bounds of an int. -/
theorem int_bd {a : Int} (h : (Lit.int .i64 a).wf = true) : -9223372036854775808 ≤ a ∧ a ≤ 9223372036854775807 := by
  simp only [Lit.wf, IntKind.min, IntKind.max, IntKind.signed, IntKind.bits, Bool.and_eq_true, decide_eq_true_eq, if_true] at h
  omega
theorem u64_eq (a : Int) : IntKind.u64.wrap a = a % 18446744073709551616 := by simp [IntKind.wrap, IntKind.bits, IntKind.signed]
theorem w64 {a : Int} (h : -9223372036854775808 ≤ a ∧ a ≤ 9223372036854775807) : wrap64 a = a := by unfold wrap64; omega
/-- the low bits of any int. -/
theorem and_mask (a : Int) (i : Nat) (hi : i ≤ 62) : Go.bits .and .i64 a ((2 ^ i - 1 : Nat) : Int) = a % ((2 ^ i : Nat) : Int) := by
  have hp : 0 < 2 ^ i := Nat.two_pow_pos i
  have hl : 2 ^ i ≤ 2 ^ 62 := Nat.pow_le_pow_right (by decide) hi
  show IntKind.wrap .i64 (((BitVec.ofInt 64 a &&& BitVec.ofInt 64 ((2 ^ i - 1 : Nat) : Int)).toNat : Nat) : Int) = _
  have e : (((BitVec.ofInt 64 a &&& BitVec.ofInt 64 ((2 ^ i - 1 : Nat) : Int)).toNat : Nat) : Int) = a % ((2 ^ i : Nat) : Int) := by
    rw [BitVec.toNat_and, BitVec.ofInt_natCast, BitVec.toNat_ofNat, Nat.mod_eq_of_lt (show 2 ^ i - 1 < 2 ^ 64 by omega), Nat.and_two_pow_sub_one_eq_mod, BitVec.toNat_ofInt]
    rw [Int.natCast_emod, Int.toNat_of_nonneg (Int.emod_nonneg _ (by decide))]
    exact Int.emod_emod_of_dvd a (by
      rw [Int.natCast_dvd_natCast]
      exact Nat.pow_dvd_pow 2 (by omega))
  rw [e, IntKind.wrap_i64]
  have h0 := Int.emod_nonneg a (show ((2 ^ i : Nat) : Int) ≠ 0 by omega)
  have h1 := Int.emod_lt_of_pos a (show 0 < ((2 ^ i : Nat) : Int) by omega)
  omega
theorem and_1023 (a : Int) : Go.bits .and .i64 a 1023 = a % 1024 := and_mask a 10 (by decide)
theorem and_63 (a : Int) : Go.bits .and .i64 a 63 = a % 64 := and_mask a 6 (by decide)
theorem and_255 (a : Int) : Go.bits .and .i64 a 255 = a % 256 := and_mask a 8 (by decide)
theorem and_65535 (a : Int) : Go.bits .and .i64 a 65535 = a % 65536 := and_mask a 16 (by decide)
theorem and_u32 (a : Int) : Go.bits .and .i64 a 4294967295 = a % 4294967296 := and_mask a 32 (by decide)
theorem wraps_i64 (n : Int) (h0 : 0 ≤ n) (h1 : n < 2 ^ 63) : IntKind.i64.wrap n = n := by rw [IntKind.wrap_i64]; omega
theorem or_byte (x b : Int) (hx : 0 ≤ x ∧ x < 281474976710656) (hb : 0 ≤ b ∧ b < 256) : Go.bits .or .i64 (wrap64 (x * 256)) b = x * 256 + b := by
  rw [w64 (by omega)]
  exact bits_join .i64 63 (by decide) wraps_i64 8 (x * 256) b (by omega) (by omega) (by omega) hb.1 (by omega) (by omega)
theorem fit_of {l2 : List Int} {l3 : List S72} {z : ByteArray} {l6 : List S74} (h2 : l2.length * Tryd.prog.bytesOf 3 ≤ 140737488351232) (h3 : l3.length * Tryd.prog.bytesOf 72 ≤ 140737488351232) (hz : z.size ≤ 140737488351232) (h6 : l6.length * Tryd.prog.bytesOf 74 ≤ 140737488351232) (hx : ∀ x ∈ l6, x.f0.size ≤ 140737488351232 ∧ x.f4.size ≤ 140737488351232) : confFit l2 l3 z l6 := by
  rw [show Tryd.prog.bytesOf 3 = 8 by kernel_rfl] at h2
  rw [show Tryd.prog.bytesOf 72 = 24 by kernel_rfl] at h3
  rw [show Tryd.prog.bytesOf 74 = 80 by kernel_rfl] at h6
  exact ⟨by omega, by omega, hz, by omega, hx⟩
theorem awake20 : pinfoldlaw18_awake.f 20 = some true := by kernel_rfl
theorem awake_eq (k : Nat) (hk : 20 ≤ k) : pinfoldlaw18_awake.f k = some true := at_rounds (g := fun k => pinfoldlaw18_awake.f k) pinfoldlaw18_awake.mono (k := 20) hk awake20
abbrev gEx : List Int := [12]
abbrev gRes : List S72 := [⟨(⟨#[118, 105, 112]⟩ : ByteArray), 13⟩]
abbrev gZone : ByteArray := ⟨#[108, 97, 110]⟩
abbrev gRR : List S74 := [⟨(⟨#[119, 119, 119, 46, 108, 97, 110]⟩ : ByteArray), 1, 5, 7, (⟨#[]⟩ : ByteArray), (⟨#[]⟩ : ByteArray), 0⟩]
theorem given_eq : pinfoldlaw18_given.f = some (10, 13, gEx, gRes, 100, gZone, gRR) := rfl
theorem given_conf : confB 10 13 gEx gRes 100 gZone gRR = true := by kernel_rfl
theorem given_fit : confFit gEx gRes gZone gRR := by unfold confFit; decide
theorem nums_size (l : List Int) : (strOfNums l).size = l.length := by
  unfold strOfNums
  show (List.toArray _).size = _
  simp
theorem forms_ok (k : Nat) (now : Int) (c : ByteArray) (ls : List S42) (a0 a1 : Int) (l2 : List Int) (l3 : List S72) (a4 : Int) (z : ByteArray) (l6 : List S74) (hf : pickFit l2 l3 z l6 ls) (hb : (pickMayB a0 a1 l2 l3 a4 z l6 ls now c && decide (0 ≤ now ∧ now ≤ 1099510579200)) = false) : pinfoldlaw18_DropForms.j0 (k + 1) now c ls a0 a1 l2 l3 a4 z l6 = some true := by
  rw [pinfoldlaw18_DropForms.j0]
  unfold drop_Release.f drop_Decline.f otherV
  rw [if_pos hf, if_pos hf, hb, if_neg (by decide), if_neg (by decide)]
  kernel_rfl
/-- what may not be asked: each answered so. -/
theorem DropForms : pinfoldlaw18_DropForms.Pure := by
  intro a0 a1 _ _
  refine ⟨20, ?_⟩
  unfold pinfoldlaw18_DropForms.f
  rw [awake20, Option.bind_some, if_pos rfl, given_eq, Option.bind_some, Option.bind_some]
  dsimp only
  rw [and_1023, u64_eq]
  have h0 := Int.emod_nonneg a1 (show (1024 : Int) ≠ 0 by decide)
  have h1 := Int.emod_lt_of_pos a1 (show (0 : Int) < 1024 by decide)
  generalize a1 % 1024 = e at h0 h1
  generalize Int.tmod (a0 % 18446744073709551616) 5 = which
  rw [w64 (a := 1 + e) (by omega), w64 (a := -(1 + e)) (by omega), w64 (a := 1099510579200 + (1 + e)) (by omega), w64 (a := 16 + (1 + e)) (by omega)]
  have hg : tabFit [(⟨10, 2, (⟨#[109, 101]⟩ : ByteArray), 9, (⟨#[]⟩ : ByteArray), false⟩ : S42)] := by unfold tabFit; decide
  have hg2 : tabFit [(⟨10, 2, (⟨#[]⟩ : ByteArray), 9, (⟨#[]⟩ : ByteArray), false⟩ : S42)] := by unfold tabFit; decide
  have c1 : confB 10 9 gEx gRes 100 gZone gRR = false := by kernel_rfl
  have c2 : tableB [(⟨10, 2, (⟨#[]⟩ : ByteArray), 9, (⟨#[]⟩ : ByteArray), false⟩ : S42)] = false := by kernel_rfl
  by_cases q0 : which = 0
  · rw [if_pos q0]
    refine forms_ok 19 _ _ _ _ _ _ _ _ _ _ ⟨given_fit, hg⟩ ?_
    unfold pickMayB
    rw [c1]
    rfl
  rw [if_neg q0]
  by_cases q1 : which = 1
  · rw [if_pos q1, if_pos (by decide)]
    refine forms_ok 19 _ _ _ _ _ _ _ _ _ _ ⟨given_fit, hg2⟩ ?_
    kernel_rfl
  rw [if_neg q1]
  by_cases q2 : which = 2
  · rw [if_pos q2]
    refine forms_ok 19 _ _ _ _ _ _ _ _ _ _ ⟨given_fit, hg⟩ ?_
    rw [show decide (0 ≤ -(1 + e) ∧ -(1 + e) ≤ 1099510579200) = false from decide_eq_false (by omega), Bool.and_false]
  rw [if_neg q2]
  by_cases q3 : which = 3
  · rw [if_pos q3]
    refine forms_ok 19 _ _ _ _ _ _ _ _ _ _ ⟨given_fit, hg⟩ ?_
    rw [show decide (0 ≤ 1099510579200 + (1 + e) ∧ 1099510579200 + (1 + e) ≤ 1099510579200) = false from decide_eq_false (by omega), Bool.and_false]
  rw [if_neg q3, if_pos (by omega), if_pos (by omega)]
  refine forms_ok 19 _ _ _ _ _ _ _ _ _ _ ⟨given_fit, hg⟩ ?_
  have hc : clientB (strOfNums (List.replicate (16 + (1 + e)).toNat 0)) = false := by
    unfold clientB
    rw [nums_size, List.length_replicate]
    exact decide_eq_false (by omega)
  unfold pickMayB
  rw [hc, Bool.and_false, Bool.and_false, Bool.and_false, Bool.false_and]

end Go.Proofs.YtmoobaehoccihaaDoor.Pure
