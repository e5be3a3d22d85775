/- SerialTurns: one way round is the other way round; the next one is behind, and up to half the way all are. No condition. -/
import Derived.Test.YtfjbcdalbmealaaPSerialTurnsx1
namespace Go.Proofs.Ytfjbcdalbmealaa.Pure
open Go.RowKit Go.Proofs.Ytfjbcdalbmealaa.PSerialTurns Go.Proofs.YtfjbcdalbmealaaW.PrintWords Go.Proofs.YtfjbcdalbmealaaW.PrintLast
set_option linter.unusedSimpArgs false
set_option linter.unusedVariables false

/-- may a serial be: the whole numbers below 2^32. -/
theorem may_eq (a : Int) : serial_May.f a = some (decide (0 ≤ a ∧ a < 4294967296)) := by
  unfold serial_May.f
  congr 1
  rw [Bool.eq_iff_iff]
  simp only [beq_iff_eq, decide_eq_true_eq]
  omega

/-- how two serials stand. -/
def ordv (a b : Int) : Int := if (b - a) % 4294967296 = 0 then 0 else if (b - a) % 4294967296 < 2147483648 then 1 else if (b - a) % 4294967296 = 2147483648 then 3 else 2

theorem order_ok (k : Nat) (a b : Int) (ha : 0 ≤ a ∧ a < 4294967296) (hb : 0 ≤ b ∧ b < 4294967296) : serial_Order.f (k + 1) a b = some (ordv a b, 0) := by
  unfold serial_Order.f
  rw [may_eq, decide_eq_true ha]
  simp only [Option.bind_some, if_true]
  rw [may_eq, decide_eq_true hb]
  simp only [Option.bind_some, Bool.not_true, serial_Order.j0, Bool.false_eq_true, if_false]
  unfold ordv wrap32
  repeat' split
  all_goals first | rfl | (exfalso; omega)

theorem order_bad (k : Nat) (a b : Int) (h : ¬ ((0 ≤ a ∧ a < 4294967296) ∧ (0 ≤ b ∧ b < 4294967296))) : serial_Order.f (k + 1) a b = some (0, 1000) := by
  unfold serial_Order.f
  rw [may_eq]
  simp only [Option.bind_some]
  by_cases ha : 0 ≤ a ∧ a < 4294967296
  · have hb : ¬ (0 ≤ b ∧ b < 4294967296) := fun hb => h ⟨ha, hb⟩
    rw [decide_eq_true ha, if_pos rfl, may_eq, decide_eq_false hb]
    simp only [Option.bind_some, Bool.not_false, serial_Order.j0, if_true]
  · rw [decide_eq_false ha, if_neg (by decide)]
    simp only [serial_Order.j0, if_true]

theorem next_ok (a : Int) (ha : 0 ≤ a ∧ a < 4294967296) : serial_Next.f a = some ((a + 1) % 4294967296, 0) := by
  unfold serial_Next.f
  rw [may_eq, decide_eq_true ha]
  simp only [Option.bind_some, if_true]
  try rw [Int.emod_eq_of_lt ha.1 ha.2]

theorem next_bad (a : Int) (ha : ¬ (0 ≤ a ∧ a < 4294967296)) : serial_Next.f a = some (0, 1000) := by
  unfold serial_Next.f
  rw [may_eq, decide_eq_false ha]
  simp only [Option.bind_some, Bool.false_eq_true, if_false]

theorem num_eq (a : Int) : pinfoldlaw0_Num.f a = some a := rfl

theorem awake_eq (k : Nat) : pinfoldlaw10_awake.f (k + 1) = some true := by
  unfold pinfoldlaw10_awake.f
  rw [order_ok k _ _ (by omega) (by omega), order_ok k _ _ (by omega) (by omega), next_ok _ (by omega), next_bad _ (by omega)]
  simp only [Option.bind_some, num_eq]
  rfl

/-- the bounds of an int. -/
theorem int_bd {a : Int} (h : (Lit.int .i64 a).wf = true) : -9223372036854775808 ≤ a ∧ a ≤ 9223372036854775807 := by
  simp only [Lit.wf, IntKind.min, IntKind.max, IntKind.signed, IntKind.bits, Bool.and_eq_true, decide_eq_true_eq, if_true] at h
  omega

theorem u64_eq (a : Int) : IntKind.u64.wrap a = a % 18446744073709551616 := by simp [IntKind.wrap, IntKind.bits, IntKind.signed]

/-- the low bits of any int. -/
theorem and_mask (a : Int) (i : Nat) (hi : i ≤ 62) : Go.bits .and .i64 a ((2 ^ i - 1 : Nat) : Int) = a % ((2 ^ i : Nat) : Int) := by
  have hp : 0 < 2 ^ i := Nat.two_pow_pos i
  have hl : 2 ^ i ≤ 2 ^ 62 := Nat.pow_le_pow_right (by decide) hi
  show IntKind.wrap .i64 (((BitVec.ofInt 64 a &&& BitVec.ofInt 64 ((2 ^ i - 1 : Nat) : Int)).toNat : Nat) : Int) = _
  have e : (((BitVec.ofInt 64 a &&& BitVec.ofInt 64 ((2 ^ i - 1 : Nat) : Int)).toNat : Nat) : Int) = a % ((2 ^ i : Nat) : Int) := by
    rw [BitVec.toNat_and, BitVec.ofInt_natCast, BitVec.toNat_ofNat, Nat.mod_eq_of_lt (show 2 ^ i - 1 < 2 ^ 64 by omega), Nat.and_two_pow_sub_one_eq_mod, BitVec.toNat_ofInt]
    rw [Int.natCast_emod, Int.toNat_of_nonneg (Int.emod_nonneg _ (by decide))]
    exact Int.emod_emod_of_dvd a (by
      rw [Int.natCast_dvd_natCast]
      exact Nat.pow_dvd_pow 2 (by omega))
  rw [e, IntKind.wrap_i64]
  have h0 := Int.emod_nonneg a (show ((2 ^ i : Nat) : Int) ≠ 0 by omega)
  have h1 := Int.emod_lt_of_pos a (show 0 < ((2 ^ i : Nat) : Int) by omega)
  omega
theorem and_1023 (a : Int) : Go.bits .and .i64 a 1023 = a % 1024 := and_mask a 10 (by decide)
theorem and_63 (a : Int) : Go.bits .and .i64 a 63 = a % 64 := and_mask a 6 (by decide)
/-- one way round is the other way round; the next one is behind, and up to half the way all are. -/
theorem SerialTurns : pinfoldlaw10_SerialTurns.Pure := by
  intro a b _ _
  refine ⟨1, ?_⟩
  unfold pinfoldlaw10_SerialTurns.f
  rw [awake_eq]
  simp only [Option.bind_some, if_true]
  rw [u64_eq, u64_eq]
  obtain ⟨x, hx⟩ : ∃ x, a % 18446744073709551616 % 4294967296 = x := ⟨_, rfl⟩
  have x0 : 0 ≤ x ∧ x < 4294967296 := by omega
  rw [hx]
  obtain ⟨d, hd⟩ : ∃ d, wrap64 (1 + wrap64 (Int.tmod (b % 18446744073709551616) 2147483647)) = d := ⟨_, rfl⟩
  have d0 : 1 ≤ d ∧ d ≤ 2147483647 := by
    rw [Int.tmod_eq_emod_of_nonneg (by omega)] at hd
    unfold wrap64 at hd
    omega
  rw [hd]
  obtain ⟨y, hy⟩ : ∃ y, Int.tmod (wrap64 (x + d)) 4294967296 = y := ⟨_, rfl⟩
  have y0 : y = (x + d) % 4294967296 := by
    rw [show wrap64 (x + d) = x + d by unfold wrap64; omega, Int.tmod_eq_emod_of_nonneg (by omega)] at hy
    exact hy.symm
  rw [hy]
  rw [order_ok 0 x y x0 (by omega), order_ok 0 y x (by omega) x0, next_ok x x0]
  simp only [Option.bind_some, num_eq, if_true]
  rw [order_ok 0 x ((x + 1) % 4294967296) x0 (by omega), order_ok 0 x x x0 x0]
  have e1 : ordv x y = 1 := by unfold ordv; rw [if_neg (by omega), if_pos (by omega)]
  have e2 : ordv y x = 2 := by unfold ordv; rw [if_neg (by omega), if_neg (by omega), if_neg (by omega)]
  have e3 : ordv x ((x + 1) % 4294967296) = 1 := by unfold ordv; rw [if_neg (by omega), if_pos (by omega)]
  have e4 : ordv x x = 0 := by unfold ordv; rw [if_pos (by omega)]
  simp only [Option.bind_some, num_eq, e1, e2, e3, e4, if_true]
  rfl

end Go.Proofs.Ytfjbcdalbmealaa.Pure
