/- DropThen: what was given back may be picked at once; what was declined by nobody, until its time. No condition. -/
import Derived.Test.YtmoobaehoccihaaDoorPFx20
namespace Go.Proofs.YtmoobaehoccihaaDoor.Pure
open Go.RowKit Go.Proofs.YtmoobaehoccihaaDoor.PF Go.Proofs.YtmoobaehoccihaaDoorW.PrintWords Go.Proofs.YtmoobaehoccihaaDoorW.PrintLast
set_option linter.unusedSimpArgs false
set_option linter.unusedVariables false

/-- the bounds of an int. -/
theorem int_bd {a : Int} (h : (Lit.int .i64 a).wf = true) : -9223372036854775808 ≤ a ∧ a ≤ 9223372036854775807 := by
  simp only [Lit.wf, IntKind.min, IntKind.max, IntKind.signed, IntKind.bits, Bool.and_eq_true, decide_eq_true_eq, if_true] at h
  omega
theorem u64_eq (a : Int) : IntKind.u64.wrap a = a % 18446744073709551616 := by simp [IntKind.wrap, IntKind.bits, IntKind.signed]
theorem w64 {a : Int} (h : -9223372036854775808 ≤ a ∧ a ≤ 9223372036854775807) : wrap64 a = a := by unfold wrap64; omega
/-- the low bits of any int. -/
theorem and_mask (a : Int) (i : Nat) (hi : i ≤ 62) : Go.bits .and .i64 a ((2 ^ i - 1 : Nat) : Int) = a % ((2 ^ i : Nat) : Int) := by
  have hp : 0 < 2 ^ i := Nat.two_pow_pos i
  have hl : 2 ^ i ≤ 2 ^ 62 := Nat.pow_le_pow_right (by decide) hi
  show IntKind.wrap .i64 (((BitVec.ofInt 64 a &&& BitVec.ofInt 64 ((2 ^ i - 1 : Nat) : Int)).toNat : Nat) : Int) = _
  have e : (((BitVec.ofInt 64 a &&& BitVec.ofInt 64 ((2 ^ i - 1 : Nat) : Int)).toNat : Nat) : Int) = a % ((2 ^ i : Nat) : Int) := by
    rw [BitVec.toNat_and, BitVec.ofInt_natCast, BitVec.toNat_ofNat, Nat.mod_eq_of_lt (show 2 ^ i - 1 < 2 ^ 64 by omega), Nat.and_two_pow_sub_one_eq_mod, BitVec.toNat_ofInt]
    rw [Int.natCast_emod, Int.toNat_of_nonneg (Int.emod_nonneg _ (by decide))]
    exact Int.emod_emod_of_dvd a (by
      rw [Int.natCast_dvd_natCast]
      exact Nat.pow_dvd_pow 2 (by omega))
  rw [e, IntKind.wrap_i64]
  have h0 := Int.emod_nonneg a (show ((2 ^ i : Nat) : Int) ≠ 0 by omega)
  have h1 := Int.emod_lt_of_pos a (show 0 < ((2 ^ i : Nat) : Int) by omega)
  omega
theorem and_1023 (a : Int) : Go.bits .and .i64 a 1023 = a % 1024 := and_mask a 10 (by decide)
theorem and_63 (a : Int) : Go.bits .and .i64 a 63 = a % 64 := and_mask a 6 (by decide)
theorem and_255 (a : Int) : Go.bits .and .i64 a 255 = a % 256 := and_mask a 8 (by decide)
theorem and_65535 (a : Int) : Go.bits .and .i64 a 65535 = a % 65536 := and_mask a 16 (by decide)
theorem and_u32 (a : Int) : Go.bits .and .i64 a 4294967295 = a % 4294967296 := and_mask a 32 (by decide)
theorem wraps_i64 (n : Int) (h0 : 0 ≤ n) (h1 : n < 2 ^ 63) : IntKind.i64.wrap n = n := by rw [IntKind.wrap_i64]; omega
theorem or_byte (x b : Int) (hx : 0 ≤ x ∧ x < 281474976710656) (hb : 0 ≤ b ∧ b < 256) : Go.bits .or .i64 (wrap64 (x * 256)) b = x * 256 + b := by
  rw [w64 (by omega)]
  exact bits_join .i64 63 (by decide) wraps_i64 8 (x * 256) b (by omega) (by omega) (by omega) hb.1 (by omega) (by omega)
theorem fit_of {l2 : List Int} {l3 : List S72} {z : ByteArray} {l6 : List S74} (h2 : l2.length * Tryd.prog.bytesOf 3 ≤ 140737488351232) (h3 : l3.length * Tryd.prog.bytesOf 72 ≤ 140737488351232) (hz : z.size ≤ 140737488351232) (h6 : l6.length * Tryd.prog.bytesOf 74 ≤ 140737488351232) (hx : ∀ x ∈ l6, x.f0.size ≤ 140737488351232 ∧ x.f4.size ≤ 140737488351232) : confFit l2 l3 z l6 := by
  rw [show Tryd.prog.bytesOf 3 = 8 by kernel_rfl] at h2
  rw [show Tryd.prog.bytesOf 72 = 24 by kernel_rfl] at h3
  rw [show Tryd.prog.bytesOf 74 = 80 by kernel_rfl] at h6
  exact ⟨by omega, by omega, hz, by omega, hx⟩
theorem awake20 : pinfoldlaw18_awake.f 20 = some true := by kernel_rfl
theorem awake_eq (k : Nat) (hk : 20 ≤ k) : pinfoldlaw18_awake.f k = some true := at_rounds (g := fun k => pinfoldlaw18_awake.f k) pinfoldlaw18_awake.mono (k := 20) hk awake20
theorem then_all : (List.range 128).all (fun t => pinfoldlaw18_DropThen.f 40 (t : Int) true == some true && pinfoldlaw18_DropThen.f 40 (t : Int) false == some true) = true := by kernel_rfl
theorem and_127 (a : Int) : Go.bits .and .i64 a 127 = a % 128 := and_mask a 7 (by decide)
theorem then_mod (k : Nat) (a : Int) (b : Bool) : pinfoldlaw18_DropThen.f k a b = pinfoldlaw18_DropThen.f k (a % 128) b := by
  have hj1 : ∀ k a x1 x2 x3 x4 y0 y1 y2 y3 y4 y5 y6, pinfoldlaw18_DropThen.j1 k a x1 x2 x3 x4 y0 y1 y2 y3 y4 y5 y6 = pinfoldlaw18_DropThen.j1 k (a % 128) x1 x2 x3 x4 y0 y1 y2 y3 y4 y5 y6 := by
    intro k a x1 x2 x3 x4 y0 y1 y2 y3 y4 y5 y6
    cases k with
    | zero => rw [pinfoldlaw18_DropThen.j1, pinfoldlaw18_DropThen.j1]
    | succ k =>
      rw [pinfoldlaw18_DropThen.j1, pinfoldlaw18_DropThen.j1, and_127, and_127, Int.emod_emod_of_dvd a (Int.dvd_refl 128)]
  have hj0 : ∀ k a x1 x2 y0 y1 y2 y3 y4 y5 y6, pinfoldlaw18_DropThen.j0 k a x1 x2 y0 y1 y2 y3 y4 y5 y6 = pinfoldlaw18_DropThen.j0 k (a % 128) x1 x2 y0 y1 y2 y3 y4 y5 y6 := by
    intro k a x1 x2 y0 y1 y2 y3 y4 y5 y6
    cases k with
    | zero => rw [pinfoldlaw18_DropThen.j0, pinfoldlaw18_DropThen.j0]
    | succ k =>
      rw [pinfoldlaw18_DropThen.j0, pinfoldlaw18_DropThen.j0]
      simp only [← hj1]
  unfold pinfoldlaw18_DropThen.f
  simp only [← hj0]
/-- what was given back may be picked at once; what was declined by nobody, until its time. -/
theorem DropThen : pinfoldlaw18_DropThen.Pure := by
  intro a0 a1 _
  refine ⟨40, ?_⟩
  rw [then_mod]
  have h0 := Int.emod_nonneg a0 (show (128 : Int) ≠ 0 by decide)
  have h1 := Int.emod_lt_of_pos a0 (show (0 : Int) < 128 by decide)
  obtain ⟨t, ht⟩ : ∃ t : Nat, a0 % 128 = (t : Int) := ⟨(a0 % 128).toNat, by omega⟩
  rw [ht]
  have h := List.all_eq_true.1 then_all t (List.mem_range.2 (by omega))
  rw [Bool.and_eq_true, beq_iff_eq, beq_iff_eq] at h
  cases a1 with
  | true => exact h.1
  | false => exact h.2

end Go.Proofs.YtmoobaehoccihaaDoor.Pure
