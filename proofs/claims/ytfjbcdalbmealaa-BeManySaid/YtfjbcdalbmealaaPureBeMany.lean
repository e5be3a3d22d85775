/- BeMany: as many numbers as one likes, one behind the other, come back from their places. No condition. -/
import Derived.Test.YtfjbcdalbmealaaPBeManyx2
namespace Go.Proofs.Ytfjbcdalbmealaa.Pure
open Go.RowKit Go.Proofs.Ytfjbcdalbmealaa.PBeMany Go.Proofs.YtfjbcdalbmealaaW.PrintWords Go.Proofs.YtfjbcdalbmealaaW.PrintLast
set_option linter.unusedSimpArgs false
set_option linter.unusedVariables false

/-- the bounds of an int. -/
theorem int_bd {a : Int} (h : (Lit.int .i64 a).wf = true) : -9223372036854775808 ≤ a ∧ a ≤ 9223372036854775807 := by
  simp only [Lit.wf, IntKind.min, IntKind.max, IntKind.signed, IntKind.bits, Bool.and_eq_true, decide_eq_true_eq, if_true] at h
  omega
theorem u64_eq (a : Int) : IntKind.u64.wrap a = a % 18446744073709551616 := by simp [IntKind.wrap, IntKind.bits, IntKind.signed]
theorem w64 {a : Int} (h : -9223372036854775808 ≤ a ∧ a ≤ 9223372036854775807) : wrap64 a = a := by unfold wrap64; omega
/-- the low bits of any int. -/
theorem and_mask (a : Int) (i : Nat) (hi : i ≤ 62) : Go.bits .and .i64 a ((2 ^ i - 1 : Nat) : Int) = a % ((2 ^ i : Nat) : Int) := by
  have hp : 0 < 2 ^ i := Nat.two_pow_pos i
  have hl : 2 ^ i ≤ 2 ^ 62 := Nat.pow_le_pow_right (by decide) hi
  show IntKind.wrap .i64 (((BitVec.ofInt 64 a &&& BitVec.ofInt 64 ((2 ^ i - 1 : Nat) : Int)).toNat : Nat) : Int) = _
  have e : (((BitVec.ofInt 64 a &&& BitVec.ofInt 64 ((2 ^ i - 1 : Nat) : Int)).toNat : Nat) : Int) = a % ((2 ^ i : Nat) : Int) := by
    rw [BitVec.toNat_and, BitVec.ofInt_natCast, BitVec.toNat_ofNat, Nat.mod_eq_of_lt (show 2 ^ i - 1 < 2 ^ 64 by omega), Nat.and_two_pow_sub_one_eq_mod, BitVec.toNat_ofInt]
    rw [Int.natCast_emod, Int.toNat_of_nonneg (Int.emod_nonneg _ (by decide))]
    exact Int.emod_emod_of_dvd a (by
      rw [Int.natCast_dvd_natCast]
      exact Nat.pow_dvd_pow 2 (by omega))
  rw [e, IntKind.wrap_i64]
  have h0 := Int.emod_nonneg a (show ((2 ^ i : Nat) : Int) ≠ 0 by omega)
  have h1 := Int.emod_lt_of_pos a (show 0 < ((2 ^ i : Nat) : Int) by omega)
  omega
theorem and_1023 (a : Int) : Go.bits .and .i64 a 1023 = a % 1024 := and_mask a 10 (by decide)
theorem and_63 (a : Int) : Go.bits .and .i64 a 63 = a % 64 := and_mask a 6 (by decide)
theorem and_255 (a : Int) : Go.bits .and .i64 a 255 = a % 256 := and_mask a 8 (by decide)
theorem and_65535 (a : Int) : Go.bits .and .i64 a 65535 = a % 65536 := and_mask a 16 (by decide)
theorem and_u32 (a : Int) : Go.bits .and .i64 a 4294967295 = a % 4294967296 := and_mask a 32 (by decide)
theorem wraps_i64 (n : Int) (h0 : 0 ≤ n) (h1 : n < 2 ^ 63) : IntKind.i64.wrap n = n := by rw [IntKind.wrap_i64]; omega
theorem or_byte (x b : Int) (hx : 0 ≤ x ∧ x < 281474976710656) (hb : 0 ≤ b ∧ b < 256) : Go.bits .or .i64 (wrap64 (x * 256)) b = x * 256 + b := by
  rw [w64 (by omega)]
  exact bits_join .i64 63 (by decide) wraps_i64 8 (x * 256) b (by omega) (by omega) (by omega) hb.1 (by omega) (by omega)
theorem num_eq (a : Int) : pinfoldlaw0_Num.f a = some a := rfl
theorem bt_bd (s : ByteArray) (i : Int) : 0 ≤ bt s i ∧ bt s i < 256 := by have := bt_range s i; omega

/-- the bytes of a number, the highest one first. -/
def pb (x k : Int) : List Int := if k = 1 then [x % 256] else if k = 2 then [x / 256 % 256, x % 256] else [x / 256 / 256 / 256 % 256, x / 256 / 256 % 256, x / 256 % 256, x % 256]
/-- the first number that has no room. -/
def lim (k : Int) : Int := if k = 1 then 256 else if k = 2 then 65536 else 4294967296
/-- the number of the bytes at a place. -/
def nb (s : ByteArray) (a k : Int) : Int := if k = 1 then bt s a else if k = 2 then bt s a * 256 + bt s (a + 1) else ((bt s a * 256 + bt s (a + 1)) * 256 + bt s (a + 2)) * 256 + bt s (a + 3)

theorem wide_eq (k : Int) : be_Wide.f k = some (decide (k = 1 ∨ k = 2 ∨ k = 4)) := by
  unfold be_Wide.f
  by_cases h1 : k = 1
  · rw [if_pos h1, decide_eq_true (Or.inl h1)]
  · rw [if_neg h1]
    by_cases h2 : k = 2
    · rw [if_pos h2, decide_eq_true (Or.inr (Or.inl h2))]
    · rw [if_neg h2]
      congr 1
      rw [Bool.eq_iff_iff]
      simp only [beq_iff_eq, decide_eq_true_eq]
      omega

theorem shr8 (x : Int) : shr .i64 x 8 = x / 256 := rfl
theorem shr16 (x : Int) : shr .i64 x 16 = x / 65536 := rfl
theorem shr24 (x : Int) : shr .i64 x 24 = x / 16777216 := rfl
theorem shr32 (x : Int) : shr .i64 x 32 = x / 4294967296 := rfl
theorem shr0 (x : Int) : shr .i64 x 0 = x := by show x / 1 = x; omega
theorem shl8 : shl .i64 1 8 = 256 := by unfold shl; rw [IntKind.wrap_i64]; rfl
theorem shl16 : shl .i64 1 16 = 65536 := by unfold shl; rw [IntKind.wrap_i64]; rfl
theorem shl32 : shl .i64 1 32 = 4294967296 := by unfold shl; rw [IntKind.wrap_i64]; rfl

theorem fits_eq (x k : Int) (hk : k = 1 ∨ k = 2 ∨ k = 4) : be_Fits.f x k = some (decide (0 ≤ x ∧ x < lim k)) := by
  unfold be_Fits.f
  by_cases hx : x ≥ 0
  · rw [if_pos hx]
    rcases hk with rfl | rfl | rfl
    · rw [w64 (by omega), if_pos (by omega)]
      congr 1
      rw [Bool.eq_iff_iff]
      simp only [beq_iff_eq, decide_eq_true_eq]
      show shr .i64 x 8 = 0 ↔ 0 ≤ x ∧ x < 256
      rw [shr8]; omega
    · rw [w64 (by omega), if_pos (by omega)]
      congr 1
      rw [Bool.eq_iff_iff]
      simp only [beq_iff_eq, decide_eq_true_eq]
      show shr .i64 x 16 = 0 ↔ 0 ≤ x ∧ x < 65536
      rw [shr16]; omega
    · rw [w64 (by omega), if_pos (by omega)]
      congr 1
      rw [Bool.eq_iff_iff]
      simp only [beq_iff_eq, decide_eq_true_eq]
      show shr .i64 x 32 = 0 ↔ 0 ≤ x ∧ x < 4294967296
      rw [shr32]; omega
  · rw [if_neg hx, decide_eq_false (by omega)]

theorem bytes_step (n : Nat) (x : Int) (l : List Int) (i : Int) (h0 : 0 ≤ i) (h1 : i < (l.length : Int)) (h2 : i ≤ 9223372036854775807) :
    be_Bytes.l0 (n + 1) x l i = be_Bytes.l0 n (x / 256) (l.set i.toNat (x % 256)) (i - 1) := by
  rw [be_Bytes.l0, if_pos h0, if_pos h0, if_pos h1, w64 (by omega)]
theorem bytes_end (n : Nat) (x : Int) (l : List Int) (i : Int) (h0 : i < 0) : be_Bytes.l0 (n + 1) x l i = some (strOfNums l) := by
  rw [be_Bytes.l0, if_neg (by omega)]

theorem bytes_eq (n : Nat) (x k : Int) (hk : k = 1 ∨ k = 2 ∨ k = 4) : be_Bytes.f (n + 5) x k = some (strOfNums (pb x k)) := by
  unfold be_Bytes.f
  rcases hk with rfl | rfl | rfl
  · rw [if_pos (by decide), if_pos (by decide), w64 (by omega)]
    rw [bytes_step _ _ _ _ (by decide) (by decide) (by decide), bytes_end _ _ _ _ (by decide)]
    rfl
  · rw [if_pos (by decide), if_pos (by decide), w64 (by omega)]
    rw [bytes_step _ _ _ _ (by decide) (by decide) (by decide), bytes_step _ _ _ _ (by decide) (by simp) (by decide), bytes_end _ _ _ _ (by decide)]
    rfl
  · rw [if_pos (by decide), if_pos (by decide), w64 (by omega)]
    rw [bytes_step _ _ _ _ (by decide) (by decide) (by decide), bytes_step _ _ _ _ (by decide) (by simp) (by decide), bytes_step _ _ _ _ (by decide) (by simp) (by decide), bytes_step _ _ _ _ (by decide) (by simp) (by decide), bytes_end _ _ _ _ (by decide)]
    rfl

theorem put_ok (n : Nat) (x k : Int) (hk : k = 1 ∨ k = 2 ∨ k = 4) (hx : 0 ≤ x ∧ x < lim k) : be_Put.f (n + 5) x k = some (strOfNums (pb x k), 0) := by
  unfold be_Put.f
  rw [wide_eq, decide_eq_true hk]
  simp only [Option.bind_some, if_true]
  rw [fits_eq x k hk, decide_eq_true hx]
  simp only [Option.bind_some, if_true]
  rw [bytes_eq n x k hk]
  rfl
theorem put_bad (n : Nat) (x k : Int) (h : ¬ ((k = 1 ∨ k = 2 ∨ k = 4) ∧ 0 ≤ x ∧ x < lim k)) : be_Put.f n x k = some (⟨#[]⟩, 100) := by
  unfold be_Put.f
  rw [wide_eq]
  simp only [Option.bind_some]
  by_cases hk : k = 1 ∨ k = 2 ∨ k = 4
  · rw [decide_eq_true hk, if_pos rfl, fits_eq x k hk, decide_eq_false (fun hx => h ⟨hk, hx⟩)]
    simp only [Option.bind_some, Bool.false_eq_true, if_false]
  · rw [decide_eq_false hk]
    simp only [Bool.false_eq_true, if_false]

theorem take1 : ∀ l : List Int, 1 ≤ l.length → l.take 1 = [l.getD 0 0]
  | _ :: _, _ => rfl
  | [], h => by simp at h
theorem take2 : ∀ l : List Int, 2 ≤ l.length → l.take 2 = [l.getD 0 0, l.getD 1 0]
  | _ :: _ :: _, _ => rfl
  | [_], h => by simp at h
  | [], h => by simp at h
theorem take4 : ∀ l : List Int, 4 ≤ l.length → l.take 4 = [l.getD 0 0, l.getD 1 0, l.getD 2 0, l.getD 3 0]
  | _ :: _ :: _ :: _ :: _, _ => rfl
  | [_, _, _], h => by simp at h
  | [_, _], h => by simp at h
  | [_], h => by simp at h
  | [], h => by simp at h
theorem bytesOf_extract (s : ByteArray) (a b : Nat) : bytesOf (s.extract a b) = ((bytesOf s).drop a).take (b - a) := by
  unfold bytesOf
  rw [ByteArray.data_extract, Array.toList_extract, List.extract_eq_take_drop, List.map_take, List.map_drop]
theorem at_drop (s : ByteArray) (a : Int) (ha : 0 ≤ a) (i : Nat) (j : Int) (hj : j = a + i) : ((bytesOf s).drop a.toNat).getD i 0 = bt s j := by
  rw [← rd_bytesOf]
  unfold rd
  rw [List.getD_eq_getElem?_getD, List.getElem?_drop, List.getD_eq_getElem?_getD, show j.toNat = a.toNat + i by omega]

theorem val1 (b : Int) (h : 0 ≤ b ∧ b < 256) : be_Number.val [b] = b := by
  simp only [be_Number.val, List.foldl_cons, List.foldl_nil]
  rw [or_byte 0 b (by omega) h]
  omega
theorem val2 (b c : Int) (h : 0 ≤ b ∧ b < 256) (h' : 0 ≤ c ∧ c < 256) : be_Number.val [b, c] = b * 256 + c := by
  have e := val1 b h
  simp only [be_Number.val, List.foldl_cons, List.foldl_nil] at e ⊢
  rw [e, or_byte b c (by omega) h']
theorem val4 (b c d x : Int) (h : 0 ≤ b ∧ b < 256) (h1 : 0 ≤ c ∧ c < 256) (h2 : 0 ≤ d ∧ d < 256) (h3 : 0 ≤ x ∧ x < 256) : be_Number.val [b, c, d, x] = ((b * 256 + c) * 256 + d) * 256 + x := by
  have e := val2 b c h h1
  simp only [be_Number.val, List.foldl_cons, List.foldl_nil] at e ⊢
  rw [e, or_byte _ d (by omega) h2, or_byte _ x (by omega) h3]

theorem number_eq (s : ByteArray) (a k : Int) (hs : s.size ≤ 4611686018427387904) (hk : k = 1 ∨ k = 2 ∨ k = 4) (ha : 0 ≤ a) (hb : a + k ≤ (s.size : Int)) :
    be_Number.f (s.extract a.toNat (a + k).toNat) = some (nb s a k) := by
  unfold be_Number.f
  have hz : (s.extract a.toNat (a + k).toNat).size ≤ 140737488351232 := by rw [ByteArray.size_extract]; omega
  rw [if_pos hz, bytesOf_extract]
  have hl : ((bytesOf s).drop a.toNat).length = s.size - a.toNat := by rw [List.length_drop, bytesOf_length]
  have b0 := bt_bd s a
  have b1 := bt_bd s (a + 1)
  have b2 := bt_bd s (a + 2)
  have b3 := bt_bd s (a + 3)
  have e0 := at_drop s a ha 0 a (by omega)
  have e1 := at_drop s a ha 1 (a + 1) (by omega)
  have e2 := at_drop s a ha 2 (a + 2) (by omega)
  have e3 := at_drop s a ha 3 (a + 3) (by omega)
  rcases hk with rfl | rfl | rfl
  · rw [show (a + 1).toNat - a.toNat = 1 by omega, take1 _ (by omega), e0, val1 _ b0]
    rfl
  · rw [show (a + 2).toNat - a.toNat = 2 by omega, take2 _ (by omega), e0, e1, val2 _ _ b0 b1]
    rfl
  · rw [show (a + 4).toNat - a.toNat = 4 by omega, take4 _ (by omega), e0, e1, e2, e3, val4 _ _ _ _ b0 b1 b2 b3]
    rfl

theorem get_ok (n : Nat) (s : ByteArray) (a k : Int) (hs : s.size ≤ 4611686018427387904) (hk : k = 1 ∨ k = 2 ∨ k = 4) (ha : 0 ≤ a) (hb : a + k ≤ (s.size : Int)) : be_Get.f (n + 1) s a k = some (nb s a k, 0) := by
  unfold be_Get.f
  rw [wide_eq, decide_eq_true hk]
  simp only [Option.bind_some, if_true]
  rw [be_Get.j0, decide_eq_false (by omega), if_neg (by decide), w64 (by omega), if_neg (by omega), if_pos ha, w64 (by omega), if_pos (by omega), if_pos (by omega), number_eq s a k hs hk ha hb]
  rfl
theorem get_form (n : Nat) (s : ByteArray) (a k : Int) (h : ¬ ((k = 1 ∨ k = 2 ∨ k = 4) ∧ 0 ≤ a)) : be_Get.f (n + 1) s a k = some (0, 100) := by
  unfold be_Get.f
  rw [wide_eq]
  simp only [Option.bind_some]
  by_cases hk : k = 1 ∨ k = 2 ∨ k = 4
  · rw [decide_eq_true hk, if_pos rfl, be_Get.j0, decide_eq_true (by omega), if_pos rfl]
  · rw [decide_eq_false hk, if_neg (by decide), be_Get.j0, if_pos rfl]
theorem get_end (n : Nat) (s : ByteArray) (a k : Int) (hs : s.size ≤ 4611686018427387904) (hk : k = 1 ∨ k = 2 ∨ k = 4) (ha : 0 ≤ a) (hb : ¬ a + k ≤ (s.size : Int)) : be_Get.f (n + 1) s a k = some (0, 101) := by
  unfold be_Get.f
  rw [wide_eq, decide_eq_true hk]
  simp only [Option.bind_some, if_true]
  rw [be_Get.j0, decide_eq_false (by omega), if_neg (by decide), w64 (by omega), if_pos (by omega)]

theorem awake_eq (n : Nat) : pinfoldlaw1_awake.f (n + 8) = some true :=
  at_rounds (g := fun k => pinfoldlaw1_awake.f k) pinfoldlaw1_awake.mono (k := 8) (by omega) (by kernel_rfl)
theorem toNat_u8 (x : Int) (h : 0 ≤ x ∧ x < 256) : ((UInt8.ofNat x.toNat).toNat : Int) = x := by
  rw [UInt8.toNat_ofNat']
  omega
theorem bytesOf_strOf : ∀ l : List Int, (∀ x ∈ l, 0 ≤ x ∧ x < 256) → bytesOf (strOfNums l) = l := by
  intro l h
  unfold bytesOf strOfNums
  simp only [List.map_map]
  induction l with
  | nil => rfl
  | cons x l ih =>
    rw [List.map_cons, ih (fun y hy => h y (List.mem_cons_of_mem _ hy))]
    congr 1
    exact toNat_u8 x (h x (List.mem_cons_self ..))
theorem bytesOf_append (s t : ByteArray) : bytesOf (s ++ t) = bytesOf s ++ bytesOf t := by
  unfold bytesOf
  rw [ByteArray.data_append, Array.toList_append, List.map_append]
theorem size_strOf (l : List Int) : (strOfNums l).size = l.length := by
  show (l.map fun n => UInt8.ofNat n.toNat).toArray.size = l.length
  simp
theorem pb_range (x k : Int) : ∀ y ∈ pb x k, 0 ≤ y ∧ y < 256 := by
  intro y hy
  unfold pb at hy
  split at hy
  · simp only [List.mem_cons, List.mem_nil_iff, or_false] at hy; omega
  · split at hy
    · simp only [List.mem_cons, List.mem_nil_iff, or_false] at hy; omega
    · simp only [List.mem_cons, List.mem_nil_iff, or_false] at hy; omega
theorem pb_length (x k : Int) (hk : k = 1 ∨ k = 2 ∨ k = 4) : ((pb x k).length : Int) = k := by
  rcases hk with rfl | rfl | rfl <;> rfl
/-- a byte in the middle of three texts. -/
theorem bt_mid (s t u : ByteArray) (i : Nat) (hi : i < t.size) (j : Int) (hj : j = s.size + i) : bt (s ++ t ++ u) j = (bytesOf t).getD i 0 := by
  rw [← rd_bytesOf]
  unfold rd
  rw [bytesOf_append, bytesOf_append, List.getD_eq_getElem?_getD, List.getD_eq_getElem?_getD]
  have h1 : (bytesOf s).length = s.size := bytesOf_length s
  have h2 : (bytesOf t).length = t.size := bytesOf_length t
  rw [List.getElem?_append_left (by rw [List.length_append]; omega), List.getElem?_append_right (by omega)]
  congr 2
  omega
/-- a number that was put stands where it was put. -/
theorem nb_mid (s u : ByteArray) (x k : Int) (hk : k = 1 ∨ k = 2 ∨ k = 4) (hx : 0 ≤ x ∧ x < lim k) (j : Int) (hj : j = s.size) : nb (s ++ strOfNums (pb x k) ++ u) j k = x := by
  have hb := bytesOf_strOf (pb x k) (pb_range x k)
  have hz : ((strOfNums (pb x k)).size : Int) = k := by rw [size_strOf, pb_length x k hk]
  have m : ∀ i : Nat, (i : Int) < k → bt (s ++ strOfNums (pb x k) ++ u) (j + i) = (pb x k).getD i 0 := by
    intro i hi
    rw [bt_mid s _ u i (by omega) (j + i) (by omega), hb]
  rcases hk with rfl | rfl | rfl
  · have h0 := m 0 (by decide)
    rw [Int.natCast_zero, Int.add_zero] at h0
    show bt _ j = x
    rw [h0]
    show x % 256 = x
    have h2 : x < 256 := hx.2
    omega
  · have h0 := m 0 (by decide)
    have h1 := m 1 (by decide)
    rw [Int.natCast_zero, Int.add_zero] at h0
    show bt _ j * 256 + bt _ (j + 1) = x
    rw [h0, show bt (s ++ strOfNums (pb x 2) ++ u) (j + 1) = _ from h1]
    show x / 256 % 256 * 256 + x % 256 = x
    have h2 : x < 65536 := hx.2
    omega
  · have h0 := m 0 (by decide)
    have h1 := m 1 (by decide)
    have h2 := m 2 (by decide)
    have h3 := m 3 (by decide)
    rw [Int.natCast_zero, Int.add_zero] at h0
    show ((bt _ j * 256 + bt _ (j + 1)) * 256 + bt _ (j + 2)) * 256 + bt _ (j + 3) = x
    rw [h0, show bt (s ++ strOfNums (pb x 4) ++ u) (j + 1) = _ from h1, show bt (s ++ strOfNums (pb x 4) ++ u) (j + 2) = _ from h2, show bt (s ++ strOfNums (pb x 4) ++ u) (j + 3) = _ from h3]
    show ((x / 256 / 256 / 256 % 256 * 256 + x / 256 / 256 % 256) * 256 + x / 256 % 256) * 256 + x % 256 = x
    have h5 : x < 4294967296 := hx.2
    omega
def kk (i : Nat) : Int := if i % 3 = 0 then 1 else if i % 3 = 1 then 2 else 4
theorem kk_or (i : Nat) : kk i = 1 ∨ kk i = 2 ∨ kk i = 4 := by
  unfold kk
  split
  · omega
  · split <;> omega
def vv (xs : List Int) (i : Nat) : Int := (xs.getD i 0) % lim (kk i)
theorem lim_pos (k : Int) : 0 < lim k ∧ lim k ≤ 4294967296 := by
  unfold lim
  split
  · omega
  · split <;> omega
theorem vv_bd (xs : List Int) (i : Nat) : 0 ≤ vv xs i ∧ vv xs i < lim (kk i) := by
  have := lim_pos (kk i)
  exact ⟨Int.emod_nonneg _ (by omega), Int.emod_lt_of_pos _ (by omega)⟩
def ss (xs : List Int) : Nat → ByteArray
  | 0 => ⟨#[]⟩
  | i + 1 => ss xs i ++ strOfNums (pb (vv xs i) (kk i))
theorem piece_size (xs : List Int) (i : Nat) : ((strOfNums (pb (vv xs i) (kk i))).size : Int) = kk i := by rw [size_strOf, pb_length _ _ (kk_or i)]
theorem ss_succ_size (xs : List Int) (i : Nat) : ((ss xs (i + 1)).size : Int) = (ss xs i).size + kk i := by
  have := piece_size xs i
  rw [ss, ByteArray.size_append]
  omega
theorem ss_size (xs : List Int) : ∀ i, (ss xs i).size ≤ 4 * i
  | 0 => Nat.le_refl 0
  | i + 1 => by
    have h := ss_size xs i
    have h2 := ss_succ_size xs i
    have h3 := kk_or i
    omega
theorem ss_split (xs : List Int) (j : Nat) : ∀ n, j < n → ∃ u, ss xs n = ss xs j ++ strOfNums (pb (vv xs j) (kk j)) ++ u := by
  intro n
  induction n with
  | zero => intro h; omega
  | succ n ih =>
    intro h
    by_cases e : j = n
    · subst e
      exact ⟨⟨#[]⟩, by rw [ss]; exact (ByteArray.append_empty ..).symm⟩
    · obtain ⟨u, hu⟩ := ih (by omega)
      exact ⟨u ++ strOfNums (pb (vv xs n) (kk n)), by rw [ss, hu, ByteArray.append_assoc]⟩
theorem rd3 (i : Nat) : rd [1, 2, 4] (Int.tmod (i : Int) 3) = kk i ∧ 0 ≤ Int.tmod (i : Int) 3 ∧ Int.tmod (i : Int) 3 < 3 := by
  rw [Int.tmod_eq_emod_of_nonneg (by omega)]
  refine ⟨?_, by omega, by omega⟩
  have h : i % 3 = 0 ∨ i % 3 = 1 ∨ i % 3 = 2 := by omega
  have e : (i : Int) % 3 = ((i % 3 : Nat) : Int) := by omega
  unfold kk rd
  rw [e]
  rcases h with h | h | h <;> rw [h] <;> rfl
theorem mask_eq (x k : Int) (hk : k = 1 ∨ k = 2 ∨ k = 4) : Go.bits .and .i64 x (wrap64 ((shl .i64 1 (wrap64 (8 * k))) - 1)) = x % lim k := by
  rcases hk with rfl | rfl | rfl
  · rw [w64 (a := 8 * 1) (by omega), show shl .i64 1 (8 * 1) = 256 from shl8, w64 (by omega)]
    exact and_255 x
  · rw [w64 (a := 8 * 2) (by omega), show shl .i64 1 (8 * 2) = 65536 from shl16, w64 (by omega)]
    exact and_65535 x
  · rw [w64 (a := 8 * 4) (by omega), show shl .i64 1 (8 * 4) = 4294967296 from shl32, w64 (by omega)]
    exact and_u32 x

theorem rd_nat (xs : List Int) (i : Nat) : rd xs (i : Int) = xs.getD i 0 := by unfold rd; rw [Int.toNat_natCast]

theorem puts (xs : List Int) (n m : Nat) (hn : n = min xs.length 20) (hm : 8 ≤ m) (d : Nat) : ∀ i : Nat, i + d = n → pinfoldlaw1_BeMany.l0 (2 * d + m + 2) xs (ss xs i) i = pinfoldlaw1_BeMany.l1 m xs (ss xs n) 0 0 := by
  induction d with
  | zero =>
    intro i hi
    obtain rfl : i = n := by omega
    rw [show 2 * 0 + m + 2 = m + 1 + 1 by omega, pinfoldlaw1_BeMany.l0]
    by_cases h : (i : Int) < (xs.length : Int)
    · rw [if_pos h, pinfoldlaw1_BeMany.j1, decide_eq_false (by omega), if_neg (by decide)]
    · rw [if_neg h, pinfoldlaw1_BeMany.j1, if_neg (by decide)]
  | succ d ih =>
    intro i hi
    have h1 := rd3 i
    have h2 := kk_or i
    have h3 := vv_bd xs i
    have h4 := ss_size xs i
    have h5 := piece_size xs i
    rw [show 2 * (d + 1) + m + 2 = (2 * d + m + 2) + 1 + 1 by omega, pinfoldlaw1_BeMany.l0, if_pos (by omega), pinfoldlaw1_BeMany.j1, decide_eq_true (by omega), if_pos rfl]
    simp only [Option.bind_some]
    rw [if_pos h1.2.1, if_pos (by show _ < (3 : Int); omega), if_pos (by omega), if_pos (by omega), h1.1, w64 (a := 8 * kk i) (by omega), if_pos (by omega)]
    rw [show shl .i64 1 (8 * kk i) = shl .i64 1 (wrap64 (8 * kk i)) by rw [w64 (by omega)], mask_eq _ _ h2, rd_nat]
    rw [show xs.getD i 0 % lim (kk i) = vv xs i from rfl, show 2 * d + m + 2 = (2 * d + m - 3) + 5 by omega, put_ok _ _ _ h2 h3]
    simp only [Option.bind_some, num_eq, if_true]
    rw [if_pos h5, if_pos (by omega), w64 (by omega), show (2 * d + m - 3) + 5 = 2 * d + m + 2 by omega]
    exact ih (i + 1) (by omega)

theorem gets (xs : List Int) (n m : Nat) (hn : n = min xs.length 20) (hm : 8 ≤ m) (d : Nat) : ∀ i : Nat, i + d = n → pinfoldlaw1_BeMany.l1 (2 * d + m + 2) xs (ss xs n) ((ss xs i).size : Int) i = some true := by
  induction d with
  | zero =>
    intro i hi
    obtain rfl : i = n := by omega
    rw [show 2 * 0 + m + 2 = m + 1 + 1 by omega, pinfoldlaw1_BeMany.l1]
    by_cases h : (i : Int) < (xs.length : Int)
    · rw [if_pos h, pinfoldlaw1_BeMany.j3, decide_eq_false (by omega), if_neg (by decide), beq_self_eq_true]
    · rw [if_neg h, pinfoldlaw1_BeMany.j3, if_neg (by decide), beq_self_eq_true]
  | succ d ih =>
    intro i hi
    have h1 := rd3 i
    have h2 := kk_or i
    have h3 := vv_bd xs i
    have h4 := ss_size xs n
    have h5 := ss_succ_size xs i
    obtain ⟨u, hu⟩ := ss_split xs i n (by omega)
    have h6 : (ss xs (i + 1)).size ≤ (ss xs n).size := by
      rw [hu, ByteArray.size_append]
      show (ss xs i ++ strOfNums (pb (vv xs i) (kk i))).size ≤ _
      omega
    have h7 : nb (ss xs n) ((ss xs i).size : Int) (kk i) = vv xs i := by rw [hu]; exact nb_mid _ _ _ _ h2 h3 _ rfl
    rw [show 2 * (d + 1) + m + 2 = (2 * d + m + 2) + 1 + 1 by omega, pinfoldlaw1_BeMany.l1, if_pos (by omega), pinfoldlaw1_BeMany.j3, decide_eq_true (by omega), if_pos rfl]
    simp only [Option.bind_some]
    rw [if_pos h1.2.1, if_pos (by show _ < (3 : Int); omega), h1.1, show 2 * d + m + 2 = (2 * d + m + 1) + 1 by omega, get_ok _ (ss xs n) _ _ (by omega) h2 (by omega) (by omega)]
    simp only [Option.bind_some, num_eq, if_true]
    rw [if_pos (by omega), if_pos (by omega), w64 (a := 8 * kk i) (by omega), if_pos (by omega)]
    rw [show shl .i64 1 (8 * kk i) = shl .i64 1 (wrap64 (8 * kk i)) by rw [w64 (by omega)], mask_eq _ _ h2, rd_nat, h7, show xs.getD i 0 % lim (kk i) = vv xs i from rfl, if_pos rfl, w64 (a := ((ss xs i).size : Int) + kk i) (by omega), ← h5, w64 (by omega)]
    exact ih (i + 1) (by omega)

/-- as many numbers as one likes, one behind the other, come back from their places. -/
theorem BeMany : pinfoldlaw1_BeMany.Pure := by
  intro xs hl _ _
  have hn : min xs.length 20 ≤ 20 := by omega
  refine ⟨2 * min xs.length 20 + (2 * min xs.length 20 + 8 + 2) + 2, ?_⟩
  unfold pinfoldlaw1_BeMany.f
  rw [show 2 * min xs.length 20 + (2 * min xs.length 20 + 8 + 2) + 2 = (4 * min xs.length 20 + 4) + 8 by omega, awake_eq]
  simp only [Option.bind_some, if_true]
  rw [show (4 * min xs.length 20 + 4) + 8 = 2 * min xs.length 20 + (2 * min xs.length 20 + 8 + 2) + 2 by omega]
  have h1 := puts xs _ (2 * min xs.length 20 + 8 + 2) rfl (by omega) (min xs.length 20) 0 (by omega)
  have h2 := gets xs _ 8 rfl (by omega) (min xs.length 20) 0 (by omega)
  exact h1.trans h2

end Go.Proofs.Ytfjbcdalbmealaa.Pure
