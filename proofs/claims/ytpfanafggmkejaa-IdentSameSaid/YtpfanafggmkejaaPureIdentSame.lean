/- IdentSame: who it is hangs on its option alone, if it has one; else on its hardware alone. No condition. -/
import Derived.Test.YtpfanafggmkejaaPIdentSamex4
namespace Go.Proofs.Ytpfanafggmkejaa.Pure
open Go.RowKit Go.Proofs.Ytpfanafggmkejaa.PIdentSame Go.Proofs.YtpfanafggmkejaaW.PrintWords Go.Proofs.YtpfanafggmkejaaW.PrintLast
set_option linter.unusedSimpArgs false
set_option linter.unusedVariables false

/-- the bounds of an int. -/
theorem int_bd {a : Int} (h : (Lit.int .i64 a).wf = true) : -9223372036854775808 ≤ a ∧ a ≤ 9223372036854775807 := by
  simp only [Lit.wf, IntKind.min, IntKind.max, IntKind.signed, IntKind.bits, Bool.and_eq_true, decide_eq_true_eq, if_true] at h
  omega
theorem u64_eq (a : Int) : IntKind.u64.wrap a = a % 18446744073709551616 := by simp [IntKind.wrap, IntKind.bits, IntKind.signed]
theorem w64 {a : Int} (h : -9223372036854775808 ≤ a ∧ a ≤ 9223372036854775807) : wrap64 a = a := by unfold wrap64; omega
/-- the low bits of any int. -/
theorem and_mask (a : Int) (i : Nat) (hi : i ≤ 62) : Go.bits .and .i64 a ((2 ^ i - 1 : Nat) : Int) = a % ((2 ^ i : Nat) : Int) := by
  have hp : 0 < 2 ^ i := Nat.two_pow_pos i
  have hl : 2 ^ i ≤ 2 ^ 62 := Nat.pow_le_pow_right (by decide) hi
  show IntKind.wrap .i64 (((BitVec.ofInt 64 a &&& BitVec.ofInt 64 ((2 ^ i - 1 : Nat) : Int)).toNat : Nat) : Int) = _
  have e : (((BitVec.ofInt 64 a &&& BitVec.ofInt 64 ((2 ^ i - 1 : Nat) : Int)).toNat : Nat) : Int) = a % ((2 ^ i : Nat) : Int) := by
    rw [BitVec.toNat_and, BitVec.ofInt_natCast, BitVec.toNat_ofNat, Nat.mod_eq_of_lt (show 2 ^ i - 1 < 2 ^ 64 by omega), Nat.and_two_pow_sub_one_eq_mod, BitVec.toNat_ofInt]
    rw [Int.natCast_emod, Int.toNat_of_nonneg (Int.emod_nonneg _ (by decide))]
    exact Int.emod_emod_of_dvd a (by
      rw [Int.natCast_dvd_natCast]
      exact Nat.pow_dvd_pow 2 (by omega))
  rw [e, IntKind.wrap_i64]
  have h0 := Int.emod_nonneg a (show ((2 ^ i : Nat) : Int) ≠ 0 by omega)
  have h1 := Int.emod_lt_of_pos a (show 0 < ((2 ^ i : Nat) : Int) by omega)
  omega
theorem and_1023 (a : Int) : Go.bits .and .i64 a 1023 = a % 1024 := and_mask a 10 (by decide)
theorem and_63 (a : Int) : Go.bits .and .i64 a 63 = a % 64 := and_mask a 6 (by decide)
theorem and_255 (a : Int) : Go.bits .and .i64 a 255 = a % 256 := and_mask a 8 (by decide)
theorem and_65535 (a : Int) : Go.bits .and .i64 a 65535 = a % 65536 := and_mask a 16 (by decide)
theorem and_u32 (a : Int) : Go.bits .and .i64 a 4294967295 = a % 4294967296 := and_mask a 32 (by decide)
theorem wraps_i64 (n : Int) (h0 : 0 ≤ n) (h1 : n < 2 ^ 63) : IntKind.i64.wrap n = n := by rw [IntKind.wrap_i64]; omega
theorem or_byte (x b : Int) (hx : 0 ≤ x ∧ x < 281474976710656) (hb : 0 ≤ b ∧ b < 256) : Go.bits .or .i64 (wrap64 (x * 256)) b = x * 256 + b := by
  rw [w64 (by omega)]
  exact bits_join .i64 63 (by decide) wraps_i64 8 (x * 256) b (by omega) (by omega) (by omega) hb.1 (by omega) (by omega)
theorem num_eq (a : Int) : pinfoldlaw0_Num.f a = some a := rfl
theorem bt_bd (s : ByteArray) (i : Int) : 0 ≤ bt s i ∧ bt s i < 256 := by have := bt_range s i; omega
theorem toList_nil (s : ByteArray) : s.toList = ([] : List UInt8) ↔ s.size = 0 := by
  rw [ByteArray.toList_eq, ← data_length, List.length_eq_zero_iff]
theorem drop_cons (s : ByteArray) (i : Nat) (h : i < s.size) : (bytesOf s).drop i = bt s i :: (bytesOf s).drop (i + 1) := by
  have hl : i < (bytesOf s).length := by rw [bytesOf_length]; exact h
  rw [List.drop_eq_getElem_cons hl, ← rd_bytesOf]
  unfold rd
  rw [Int.toNat_natCast, List.getD_eq_getElem?_getD, List.getElem?_eq_getElem hl]
  rfl
theorem drop_end (s : ByteArray) (i : Nat) (h : s.size ≤ i) : (bytesOf s).drop i = [] := List.drop_eq_nil_of_le (by rw [bytesOf_length]; exact h)
theorem bytesOf_extract (s : ByteArray) (a b : Nat) : bytesOf (s.extract a b) = ((bytesOf s).drop a).take (b - a) := by
  unfold bytesOf
  rw [ByteArray.data_extract, Array.toList_extract, List.extract_eq_take_drop, List.map_take, List.map_drop]

/-- may a label have such a byte. -/
def letterB (b : Int) : Bool := decide ((97 ≤ b ∧ b ≤ 122) ∨ (48 ≤ b ∧ b ≤ 57) ∨ b = 45)
/-- may a label be so. -/
def labelB (l : List Int) : Bool := l.all letterB && decide (1 ≤ l.length ∧ l.length ≤ 8)
/-- a text, cut at its points. -/
def glue (p : List Int) : List (List Int) → List (List Int)
  | [] => [p]
  | q :: qs => (p ++ q) :: qs
def cutL : List Int → List (List Int)
  | [] => [[]]
  | b :: l => if b = 46 then [] :: cutL l else glue [b] (cutL l)
/-- may a name be so. -/
def nameB (l : List Int) : Bool := decide (l = []) || ((cutL l).all labelB && decide ((cutL l).length ≤ 8))

theorem cutL_ne : ∀ l, cutL l ≠ []
  | [] => by simp [cutL]
  | b :: l => by
    unfold cutL
    split
    · simp
    · cases cutL l <;> simp [glue]
theorem glue_nil (l : List (List Int)) (h : l ≠ []) : glue [] l = l := by
  cases l with
  | nil => exact absurd rfl h
  | cons q qs => simp [glue]
theorem glue_glue (p q : List Int) (l : List (List Int)) : glue p (glue q l) = glue (p ++ q) l := by
  cases l <;> simp [glue]
theorem cutL_point (l : List Int) : cutL (46 :: l) = [] :: cutL l := by rw [cutL, if_pos rfl]
theorem cutL_other (b : Int) (l : List Int) (h : b ≠ 46) : cutL (b :: l) = glue [b] (cutL l) := by rw [cutL, if_neg h]

theorem letter_eq (b : Int) : name_letter.f b = some (letterB b) := by
  have e : ∀ x : Bool, (x = true ↔ ((97 ≤ b ∧ b ≤ 122) ∨ (48 ≤ b ∧ b ≤ 57) ∨ b = 45)) → some x = some (letterB b) := by
    intro x hx
    congr 1
    rw [Bool.eq_iff_iff, hx]
    simp only [letterB, decide_eq_true_eq]
  unfold name_letter.f
  repeat' split
  all_goals apply e
  all_goals simp only [beq_iff_eq, true_iff]
  all_goals omega

theorem label_loop (s : ByteArray) (hs : s.size ≤ 4611686018427387904) (d : Nat) : ∀ (k i : Nat), i + d = s.size → d < k →
    name_Label.l0 k s (s.size : Int) (i : Int) = some (((bytesOf s).drop i).all letterB && decide (1 ≤ s.size ∧ s.size ≤ 8)) := by
  induction d with
  | zero =>
    intro k i hi hk
    obtain ⟨k, rfl⟩ : ∃ m, k = m + 1 := ⟨k - 1, by omega⟩
    rw [name_Label.l0, if_neg (by omega), drop_end s i (by omega)]
    simp only [List.all_nil, Bool.true_and]
    split
    · congr 1
      rw [Bool.eq_iff_iff]
      simp only [decide_eq_true_eq]
      omega
    · congr 1
      symm
      rw [decide_eq_false_iff_not]
      omega
  | succ d ih =>
    intro k i hi hk
    obtain ⟨k, rfl⟩ : ∃ m, k = m + 1 := ⟨k - 1, by omega⟩
    rw [name_Label.l0, if_pos (by omega), if_pos (by omega), if_pos (by omega), letter_eq, drop_cons s i (by omega)]
    simp only [Option.bind_some, List.all_cons]
    cases letterB (bt s i) with
    | true =>
      rw [if_pos rfl, w64 (by omega)]
      have := ih k (i + 1) (by omega) (by omega)
      rw [show ((i : Int) + 1) = ((i + 1 : Nat) : Int) by omega, this]
      simp
    | false => simp
theorem label_eq (k : Nat) (s : ByteArray) (hs : s.size ≤ 4611686018427387904) (hk : s.size < k) : name_Label.f k s = some (labelB (bytesOf s)) := by
  unfold name_Label.f
  have := label_loop s hs s.size k 0 (by omega) hk
  rw [show ((0 : Nat) : Int) = 0 by rfl] at this
  rw [this]
  unfold labelB
  rw [List.drop_zero, bytesOf_length]

theorem cut_index : ∀ L : List UInt8, (Lib.indexByte L 46 = -1 ∧ cutL (L.map fun b => (b.toNat : Int)) = [L.map fun b => (b.toNat : Int)]) ∨
    (0 ≤ Lib.indexByte L 46 ∧ Lib.indexByte L 46 < (L.length : Int) ∧ cutL (L.map fun b => (b.toNat : Int)) = (L.map fun b => (b.toNat : Int)).take (Lib.indexByte L 46).toNat :: cutL ((L.map fun b => (b.toNat : Int)).drop ((Lib.indexByte L 46).toNat + 1)))
  | [] => .inl ⟨rfl, rfl⟩
  | b :: L => by
    have ih := cut_index L
    by_cases hb : b = 46
    · subst hb
      refine .inr ⟨by simp [Lib.indexByte], by simp [Lib.indexByte], ?_⟩
      have e : Lib.indexByte (46 :: L) 46 = 0 := by simp [Lib.indexByte]
      rw [e]
      exact cutL_point _
    · have hb2 : ((b.toNat : Nat) : Int) ≠ 46 := by
        intro h
        apply hb
        have h2 : b.toNat = 46 := by omega
        exact UInt8.toNat_inj.1 h2
      have hne : (b == 46) = false := by simpa using hb
      rcases ih with ⟨h1, h2⟩ | ⟨h1, h2, h3⟩
      · refine .inl ⟨by simp [Lib.indexByte, hne, h1], ?_⟩
        rw [List.map_cons, cutL_other _ _ hb2, h2]
        rfl
      · have e : Lib.indexByte (b :: L) 46 = Lib.indexByte L 46 + 1 := by
          have h4 : (Lib.indexByte L 46 == -1) = false := by
            rw [beq_eq_false_iff_ne]
            omega
          simp [Lib.indexByte, hne, h4]
        refine .inr ⟨by omega, by rw [e, List.length_cons]; omega, ?_⟩
        rw [e, show (Lib.indexByte L 46 + 1).toNat = (Lib.indexByte L 46).toNat + 1 by omega, List.map_cons, cutL_other _ _ hb2, h3]
        rfl

theorem may_loop (m : Nat) : ∀ (k n : Nat) (s : ByteArray), s.size ≤ m → s.size ≤ 140737488351232 → m + 2 ≤ k → n ≤ 8 →
    name_May.l0 k (n : Int) s true = some ((cutL (bytesOf s)).all labelB && decide (n + (cutL (bytesOf s)).length ≤ 8)) := by
  induction m with
  | zero =>
    intro k n s hm hs hk hn
    obtain ⟨k, rfl⟩ : ∃ j, k = j + 1 := ⟨k - 1, by omega⟩
    have hz : bytesOf s = [] := List.length_eq_zero_iff.1 (by rw [bytesOf_length]; omega)
    rw [name_May.l0, if_pos rfl]
    have hd : s.data.toList = [] := List.length_eq_zero_iff.1 (by rw [data_length]; omega)
    have hc : strings_Cut.f s ⟨#[46]⟩ = some (s, ⟨#[]⟩, false) := by
      unfold strings_Cut.f stringslite_Cut.f
      rw [if_pos ⟨rfl, hs⟩]
      unfold stringslite_Cut.v stringslite_Index.at_
      rw [hd]
      rfl
    rw [hc]
    simp only [Option.bind_some]
    rw [label_eq k s (by omega) (by omega), hz]
    simp [labelB, cutL]
  | succ m ih =>
    intro k n s hm hs hk hn
    obtain ⟨k, rfl⟩ : ∃ j, k = j + 1 := ⟨k - 1, by omega⟩
    rw [name_May.l0, if_pos rfl]
    rcases cut_index s.data.toList with ⟨h1, h2⟩ | ⟨h1, h1', h2⟩
    · have hc : strings_Cut.f s ⟨#[46]⟩ = some (s, ⟨#[]⟩, false) := by
        unfold strings_Cut.f stringslite_Cut.f
        rw [if_pos ⟨rfl, hs⟩]
        unfold stringslite_Cut.v stringslite_Index.at_
        rw [show (⟨#[46]⟩ : ByteArray).data.toList.headD 0 = 46 from rfl, h1, if_neg (by decide)]
      have h2' : cutL (bytesOf s) = [bytesOf s] := h2
      rw [hc, h2']
      simp only [Option.bind_some]
      rw [label_eq k s (by omega) (by omega)]
      simp only [Option.bind_some, List.all_cons, List.all_nil, Bool.and_true, List.length_cons, List.length_nil]
      cases labelB (bytesOf s) with
      | true =>
        rw [if_pos rfl, w64 (by omega)]
        by_cases h8 : (n : Int) + 1 > 8
        · rw [if_pos h8, decide_eq_false (by omega)]
          rfl
        · rw [if_neg h8, decide_eq_true (by omega)]
          obtain ⟨k, rfl⟩ : ∃ j, k = j + 1 := ⟨k - 1, by omega⟩
          rw [name_May.l0, if_neg (by decide)]
          rfl
      | false => simp
    · have hc : strings_Cut.f s ⟨#[46]⟩ = some (s.extract 0 (Lib.indexByte s.data.toList 46).toNat, s.extract ((Lib.indexByte s.data.toList 46).toNat + 1) s.size, true) := by
        unfold strings_Cut.f stringslite_Cut.f
        rw [if_pos ⟨rfl, hs⟩]
        unfold stringslite_Cut.v stringslite_Index.at_
        rw [show (⟨#[46]⟩ : ByteArray).data.toList.headD 0 = 46 from rfl, if_pos h1]
      have h2' : cutL (bytesOf s) = (bytesOf s).take (Lib.indexByte s.data.toList 46).toNat :: cutL ((bytesOf s).drop ((Lib.indexByte s.data.toList 46).toNat + 1)) := h2
      rw [data_length] at h1'
      obtain ⟨i, hi⟩ : ∃ i : Nat, (Lib.indexByte s.data.toList 46).toNat = i := ⟨_, rfl⟩
      rw [hi] at hc h2'
      have hil : i < s.size := by omega
      rw [hc]
      simp only [Option.bind_some]
      have e1 : bytesOf (s.extract 0 i) = (bytesOf s).take i := by rw [bytesOf_extract, List.drop_zero, Nat.sub_zero]
      have e2 : bytesOf (s.extract (i + 1) s.size) = (bytesOf s).drop (i + 1) := by
        rw [bytesOf_extract, List.take_of_length_le (by rw [List.length_drop, bytesOf_length]; omega)]
      have z1 : (s.extract 0 i).size = i := by rw [ByteArray.size_extract]; omega
      have z2 : (s.extract (i + 1) s.size).size = s.size - (i + 1) := by rw [ByteArray.size_extract]; omega
      rw [label_eq k _ (by omega) (by omega), e1, h2']
      simp only [Option.bind_some, List.all_cons, List.length_cons]
      cases labelB ((bytesOf s).take i) with
      | true =>
        rw [if_pos rfl, w64 (by omega)]
        have hp : 0 < (cutL ((bytesOf s).drop (i + 1))).length := List.length_pos_iff.2 (cutL_ne _)
        by_cases h8 : (n : Int) + 1 > 8
        · rw [if_pos h8, decide_eq_false (by omega)]
          simp
        · rw [if_neg h8, show (n : Int) + 1 = ((n + 1 : Nat) : Int) by omega, ih k (n + 1) _ (by omega) (by omega) (by omega) (by omega), e2]
          simp only [Bool.true_and]
          rw [show n + 1 + (cutL ((bytesOf s).drop (i + 1))).length = n + ((cutL ((bytesOf s).drop (i + 1))).length + 1) by omega]
      | false => simp

/-- what the program says of a name. -/
theorem name_eq (k : Nat) (s : ByteArray) (hs : s.size ≤ 140737488351232) (hk : s.size + 2 ≤ k) : name_May.f k s = some (nameB (bytesOf s)) := by
  unfold name_May.f nameB
  by_cases h : s.size = 0
  · have hz : bytesOf s = [] := List.length_eq_zero_iff.1 (by rw [bytesOf_length]; omega)
    have ht : (s.toList != ([] : List UInt8)) = false := by rw [(toList_nil s).2 h]; rfl
    obtain ⟨k, rfl⟩ : ∃ j, k = j + 1 := ⟨k - 1, by omega⟩
    rw [ht, name_May.l0, if_neg (by decide), hz]
    rfl
  · have hz : bytesOf s ≠ [] := fun e => h (by rw [← bytesOf_length, e]; rfl)
    have ht : (s.toList != ([] : List UInt8)) = true := by
      rw [bne_iff_ne]
      exact fun e => h ((toList_nil s).1 e)
    have := may_loop s.size k 0 s (Nat.le_refl _) hs hk (by omega)
    rw [show ((0 : Nat) : Int) = 0 by rfl] at this
    rw [ht, this, decide_eq_false hz, Bool.false_or, Nat.zero_add]
/-- the bytes of a number, the highest one first. -/
def pb (x k : Int) : List Int := if k = 1 then [x % 256] else if k = 2 then [x / 256 % 256, x % 256] else [x / 256 / 256 / 256 % 256, x / 256 / 256 % 256, x / 256 % 256, x % 256]
theorem bytes_step (n : Nat) (x : Int) (l : List Int) (i : Int) (h0 : 0 ≤ i) (h1 : i < (l.length : Int)) (h2 : i ≤ 9223372036854775807) :
    be_Bytes.l0 (n + 1) x l i = be_Bytes.l0 n (x / 256) (l.set i.toNat (x % 256)) (i - 1) := by
  rw [be_Bytes.l0, if_pos h0, if_pos h0, if_pos h1, w64 (by omega)]
theorem bytes_end (n : Nat) (x : Int) (l : List Int) (i : Int) (h0 : i < 0) : be_Bytes.l0 (n + 1) x l i = some (strOfNums l) := by
  rw [be_Bytes.l0, if_neg (by omega)]

theorem bytes_eq (n : Nat) (x k : Int) (hk : k = 1 ∨ k = 2 ∨ k = 4) : be_Bytes.f (n + 5) x k = some (strOfNums (pb x k)) := by
  unfold be_Bytes.f
  rcases hk with rfl | rfl | rfl
  · rw [if_pos (by decide), if_pos (by decide), w64 (by omega)]
    rw [bytes_step _ _ _ _ (by decide) (by decide) (by decide), bytes_end _ _ _ _ (by decide)]
    rfl
  · rw [if_pos (by decide), if_pos (by decide), w64 (by omega)]
    rw [bytes_step _ _ _ _ (by decide) (by decide) (by decide), bytes_step _ _ _ _ (by decide) (by simp) (by decide), bytes_end _ _ _ _ (by decide)]
    rfl
  · rw [if_pos (by decide), if_pos (by decide), w64 (by omega)]
    rw [bytes_step _ _ _ _ (by decide) (by decide) (by decide), bytes_step _ _ _ _ (by decide) (by simp) (by decide), bytes_step _ _ _ _ (by decide) (by simp) (by decide), bytes_step _ _ _ _ (by decide) (by simp) (by decide), bytes_end _ _ _ _ (by decide)]
    rfl

/-- may a client be called so. -/
def imay (s : ByteArray) : Bool := decide (1 ≤ s.size ∧ s.size ≤ 16)
theorem imay_eq (s : ByteArray) : ident_May.f s = some (imay s) := by
  unfold ident_May.f imay
  by_cases h : (s.size : Int) ≥ 1
  · rw [if_pos h]
    congr 1
    rw [Bool.eq_iff_iff]
    simp only [decide_eq_true_eq]
    omega
  · rw [if_neg h, decide_eq_false (by omega)]
/-- the data of a code's first option. -/
def findL (c : Int) : List S65 → Option ByteArray
  | [] => none
  | x :: r => if x.f0 = c then some x.f1 else findL c r
def foundR : Option ByteArray → ByteArray × Bool
  | some s => (s, true)
  | none => (⟨#[]⟩, false)
theorem drop_opt (l : List S65) (i : Nat) (h : i < l.length) : l.drop i = rd_T65 l (i : Int) :: l.drop (i + 1) := by
  rw [List.drop_eq_getElem_cons h]
  unfold rd_T65
  rw [Int.toNat_natCast, List.getD_eq_getElem?_getD, List.getElem?_eq_getElem h]
  rfl
theorem find_loop (c : Int) (l : List S65) (hl : l.length ≤ 4611686018427387904) (d : Nat) : ∀ k i : Nat, i + d = l.length → d < k →
    opts_Find.l0 k c l (l.length : Int) (i : Int) = some (foundR (findL c (l.drop i))) := by
  induction d with
  | zero =>
    intro k i hi hk
    obtain ⟨k, rfl⟩ : ∃ m, k = m + 1 := ⟨k - 1, by omega⟩
    rw [opts_Find.l0, if_neg (by omega), List.drop_eq_nil_of_le (by omega)]
    rfl
  | succ d ih =>
    intro k i hi hk
    obtain ⟨k, rfl⟩ : ∃ m, k = m + 1 := ⟨k - 1, by omega⟩
    rw [opts_Find.l0, if_pos (by omega), if_pos (by omega), if_pos (by omega), drop_opt l i (by omega)]
    unfold findL
    by_cases h : (rd_T65 l (i : Int)).f0 = c
    · rw [if_pos h, if_pos h]
      rfl
    · rw [if_neg h, if_neg h, w64 (by omega)]
      exact ih k (i + 1) (by omega) (by omega)
theorem find_eq (k : Nat) (c : Int) (l : List S65) (hl : l.length ≤ 4611686018427387904) (hk : l.length < k) : opts_Find.f k l c = some (foundR (findL c l)) := by
  have := find_loop c l hl l.length k 0 (by omega) hk
  rw [List.drop_zero] at this
  exact this
/-- may a packet be. -/
def mayP (a0 a1 a2 a3 a4 a5 a6 a7 a8 a9 : Int) (ch : ByteArray) (l : List S65) : Bool := decide (ch.size ≤ 16) && (opts_May.go [] l && decide (l.length ≤ 32)) && packet_May.ok ch.size a0 a1 a2 a3 a4 a5 a6 a7 a8 a9
theorem packet_eq (a0 a1 a2 a3 a4 a5 a6 a7 a8 a9 : Int) (ch : ByteArray) (l : List S65) (hl : l.length ≤ 140737488351232) : packet_May.f a0 a1 a2 a3 a4 a5 a6 a7 a8 a9 ch l = some (mayP a0 a1 a2 a3 a4 a5 a6 a7 a8 a9 ch l) := by
  unfold packet_May.f mayP opts_May.f
  rw [if_pos hl]
  simp only [Option.bind_some]
  by_cases h : ch.size ≤ 16
  · rw [if_pos h, decide_eq_true h]
    by_cases h1 : (opts_May.go [] l && decide (l.length ≤ 32)) = true
    · rw [if_pos h1, h1]
      rfl
    · rw [if_neg h1, Bool.eq_false_iff.2 h1]
      rfl
  · rw [if_neg h, decide_eq_false h]
    rfl
/-- who sent a packet. -/
def clientR (h : Int) (ch : ByteArray) (l : List S65) : ByteArray :=
  match findL 61 l with
  | some s => s
  | none => if ch.size = 0 then ⟨#[]⟩ else strOfNums [h % 256] ++ ch
theorem strOfNums_size (l : List Int) : (strOfNums l).size = l.length := by
  simp [strOfNums, ByteArray.size]
theorem client_j (k : Nat) (s : ByteArray) (a0 a1 a2 a3 a4 a5 a6 a7 a8 a9 : Int) (ch : ByteArray) (l : List S65) :
    ident_Client.j0 (k + 1) s false a0 a1 a2 a3 a4 a5 a6 a7 a8 a9 ch l = some (if imay s = true then (s, 0) else (⟨#[]⟩, 900)) := by
  rw [ident_Client.j0, if_neg (by decide), imay_eq]
  simp only [Option.bind_some]
  by_cases h : imay s = true
  · rw [if_pos h, if_pos h]
  · rw [if_neg h, if_neg h]
theorem client_eq (k : Nat) (a0 a1 a2 a3 a4 a5 a6 a7 a8 a9 : Int) (ch : ByteArray) (l : List S65) (hl : l.length ≤ 140737488351232) (hc : ch.size ≤ 4611686018427387904) (hk : l.length + 8 ≤ k) :
    ident_Client.f k a0 a1 a2 a3 a4 a5 a6 a7 a8 a9 ch l = some (if mayP a0 a1 a2 a3 a4 a5 a6 a7 a8 a9 ch l = true ∧ imay (clientR a1 ch l) = true then (clientR a1 ch l, 0) else (⟨#[]⟩, 900)) := by
  obtain ⟨k, rfl⟩ : ∃ m, k = m + 8 := ⟨k - 8, by omega⟩
  unfold ident_Client.f
  rw [packet_eq _ _ _ _ _ _ _ _ _ _ _ _ hl]
  simp only [Option.bind_some]
  by_cases h : mayP a0 a1 a2 a3 a4 a5 a6 a7 a8 a9 ch l = true
  · rw [if_pos h, find_eq _ _ _ (by omega) (by omega)]
    simp only [Option.bind_some]
    unfold clientR
    cases hf : findL 61 l with
    | some s =>
      unfold foundR
      rw [if_pos rfl, client_j]
      simp only [h, true_and]
    | none =>
      unfold foundR
      rw [if_neg (by simp)]
      by_cases hz : ch.size = 0
      · have e : (ch.toList != ([] : List UInt8)) = false := by rw [(toList_nil ch).2 hz]; rfl
        rw [e, client_j]
        simp only [h, true_and, if_pos hz]
      · have e : (ch.toList != ([] : List UInt8)) = true := by
          rw [bne_iff_ne]
          exact fun e => hz ((toList_nil ch).1 e)
        have hp : (strOfNums (pb a1 1)).size = 1 := by rw [strOfNums_size]; rfl
        have hq : strOfNums (pb a1 1) = strOfNums [a1 % 256] := rfl
        rw [e, ident_Client.j0, if_pos rfl, show k + 7 = (k + 2) + 5 by omega, bytes_eq _ _ _ (Or.inl rfl)]
        simp only [Option.bind_some]
        rw [if_pos (by omega), imay_eq, hq]
        simp only [Option.bind_some, h, true_and, if_neg hz]
        by_cases hi : imay (strOfNums [a1 % 256] ++ ch) = true
        · rw [if_pos hi, if_pos hi]
        · rw [if_neg hi, if_neg hi]
  · rw [if_neg h, if_neg (fun e => h e.1)]
/-- FNV-1a. -/
def fnvL (h : Int) (l : List Int) : Int := l.foldl (fun h b => ((Go.bits .xor .u32 h (b % 4294967296)) * 16777619) % 4294967296) h
theorem sum_loop (s : ByteArray) (hs : s.size ≤ 4611686018427387904) (d : Nat) : ∀ (k i : Nat) (h : Int), i + d = s.size → d < k →
    ident_sum.l0 k s h (s.size : Int) (i : Int) = some (fnvL h ((bytesOf s).drop i)) := by
  induction d with
  | zero =>
    intro k i h hi hk
    obtain ⟨k, rfl⟩ : ∃ m, k = m + 1 := ⟨k - 1, by omega⟩
    rw [ident_sum.l0, if_neg (by omega), drop_end s i (by omega)]
    rfl
  | succ d ih =>
    intro k i h hi hk
    obtain ⟨k, rfl⟩ : ∃ m, k = m + 1 := ⟨k - 1, by omega⟩
    rw [ident_sum.l0, if_pos (by omega), if_pos (by omega), if_pos (by omega), drop_cons s i (by omega), w64 (by omega)]
    exact ih k (i + 1) _ (by omega) (by omega)
theorem sum_eq (k : Nat) (s : ByteArray) (hs : s.size ≤ 4611686018427387904) (hk : s.size < k) : ident_sum.f k s = some (fnvL 2166136261 (bytesOf s)) := by
  have := sum_loop s hs s.size k 0 2166136261 (by omega) hk
  rw [List.drop_zero] at this
  exact this
/-- what tells whose a name is. -/
def wordR (c n : ByteArray) : ByteArray := (⟨#[0, 1, 1]⟩ : ByteArray) ++ strOfNums (pb (wrap64 (fnvL 2166136261 (bytesOf ((c ++ (⟨#[0]⟩ : ByteArray)) ++ n)))) 4)
theorem pb4_len (x : Int) : (pb x 4).length = 4 := rfl
theorem dhcid_eq (k : Nat) (c n : ByteArray) (hc : c.size ≤ 140737488351232) (hn : n.size ≤ 140737488351232) (hk : c.size + n.size + 12 ≤ k) :
    ident_Dhcid.f k c n = some (if imay c = true ∧ nameB (bytesOf n) = true then (wordR c n, 0) else (⟨#[]⟩, 900)) := by
  obtain ⟨k, rfl⟩ : ∃ m, k = m + 7 := ⟨k - 7, by omega⟩
  have bad : ident_Dhcid.j0 (k + 7) c n true = some (⟨#[]⟩, 900) := by rw [ident_Dhcid.j0, if_pos rfl]
  unfold ident_Dhcid.f
  rw [imay_eq]
  simp only [Option.bind_some]
  by_cases h : imay c = true
  · rw [if_pos h, name_eq _ n (by omega) (by omega)]
    simp only [Option.bind_some]
    by_cases hn2 : nameB (bytesOf n) = true
    · have z1 : (c ++ (⟨#[0]⟩ : ByteArray)).size = c.size + 1 := by rw [ByteArray.size_append]; rfl
      have z2 : ((c ++ (⟨#[0]⟩ : ByteArray)) ++ n).size = c.size + 1 + n.size := by rw [ByteArray.size_append, z1]
      have z3 : ∀ x, (strOfNums (pb x 4)).size = 4 := fun x => by rw [strOfNums_size]; rfl
      rw [hn2, ident_Dhcid.j0, if_neg (by decide), if_pos (by omega), if_pos (by omega), sum_eq _ _ (by omega) (by omega)]
      simp only [Option.bind_some]
      rw [show k + 6 = (k + 1) + 5 by omega, bytes_eq _ _ _ (Or.inr (Or.inr rfl))]
      simp only [Option.bind_some]
      rw [if_pos (by rw [z3]; omega), if_pos ⟨h, trivial⟩]
      rfl
    · rw [Bool.eq_false_iff.2 hn2, if_neg (by simp)]
      exact bad
  · rw [if_neg h, if_neg (fun e => h e.1)]
    exact bad
theorem awake_eq (n : Nat) : pinfoldlaw9_awake.f (n + 12) = some true :=
  at_rounds (g := fun k => pinfoldlaw9_awake.f k) pinfoldlaw9_awake.mono (k := 12) (by omega) (by kernel_rfl)
theorem shr8 (x : Int) : shr .i64 x 8 = x / 256 := rfl
theorem shr16 (x : Int) : shr .i64 x 16 = x / 65536 := rfl
theorem shr24 (x : Int) : shr .i64 x 24 = x / 16777216 := rfl
theorem shr32 (x : Int) : shr .i64 x 32 = x / 4294967296 := rfl
theorem shr0 (x : Int) : shr .i64 x 0 = x := by show x / 1 = x; omega
theorem shl8 : shl .i64 1 8 = 256 := by unfold shl; rw [IntKind.wrap_i64]; rfl
theorem shl16 : shl .i64 1 16 = 65536 := by unfold shl; rw [IntKind.wrap_i64]; rfl
theorem shl32 : shl .i64 1 32 = 4294967296 := by unfold shl; rw [IntKind.wrap_i64]; rfl

theorem within_8 (a : Int) : pinfoldref1_within.f a 8 = some (packet_May.fit a 1) := by
  have e : packet_May.fit a 1 = decide (0 ≤ a ∧ a < 256) := rfl
  unfold pinfoldref1_within.f
  rw [shl8, e]
  by_cases h : a ≥ 0
  · rw [if_pos h, if_pos (by decide)]
    congr 1
    exact decide_eq_decide.2 (by omega)
  · rw [if_neg h, decide_eq_false (by omega)]
theorem within_16 (a : Int) : pinfoldref1_within.f a 16 = some (packet_May.fit a 2) := by
  have e : packet_May.fit a 2 = decide (0 ≤ a ∧ a < 65536) := rfl
  unfold pinfoldref1_within.f
  rw [shl16, e]
  by_cases h : a ≥ 0
  · rw [if_pos h, if_pos (by decide)]
    congr 1
    exact decide_eq_decide.2 (by omega)
  · rw [if_neg h, decide_eq_false (by omega)]
theorem within_32 (a : Int) : pinfoldref1_within.f a 32 = some (packet_May.fit a 4) := by
  have e : packet_May.fit a 4 = decide (0 ≤ a ∧ a < 4294967296) := rfl
  unfold pinfoldref1_within.f
  rw [shl32, e]
  by_cases h : a ≥ 0
  · rw [if_pos h, if_pos (by decide)]
    congr 1
    exact decide_eq_decide.2 (by omega)
  · rw [if_neg h, decide_eq_false (by omega)]
theorem go_same : ∀ (l : List S65) (cs : List Int), pinfoldref1_OptsMay.go cs l = opts_May.go cs l
  | [], _ => rfl
  | x :: r, cs => by
    unfold pinfoldref1_OptsMay.go opts_May.go
    rw [go_same r]
theorem ite_some (b X : Bool) : (if b = true then some X else some false) = some (b && X) := by cases b <;> rfl
theorem ite_some2 (p : Prop) [Decidable p] (X : Bool) : (if p then some X else some false) = some (decide p && X) := by
  by_cases h : p
  · rw [if_pos h, decide_eq_true h]; rfl
  · rw [if_neg h, decide_eq_false h]; rfl
theorem refpacket_eq (a0 a1 a2 a3 a4 a5 a6 a7 a8 a9 : Int) (ch : ByteArray) (l : List S65) (hl : l.length ≤ 140737488351232) : pinfoldref1_PacketMay.f a0 a1 a2 a3 a4 a5 a6 a7 a8 a9 ch l = some (mayP a0 a1 a2 a3 a4 a5 a6 a7 a8 a9 ch l) := by
  have hO : pinfoldref1_OptsMay.f l = some (opts_May.go [] l && decide (l.length ≤ 32)) := by
    unfold pinfoldref1_OptsMay.f
    rw [if_pos hl, go_same]
  unfold pinfoldref1_PacketMay.f
  simp only [within_8, within_16, within_32, hO, Option.bind_some, ite_some, ite_some2]
  congr 1
  have hz : ch.size ≤ 16 → packet_May.fit ch.size 1 = true := fun h => decide_eq_true (by rw [if_pos rfl]; omega)
  rw [Bool.eq_iff_iff]
  unfold mayP packet_May.ok packet_May.xs
  simp only [List.all_cons, List.all_nil, Bool.and_eq_true, decide_eq_true_eq, Bool.and_true]
  constructor
  · rintro ⟨h0, h1, h2, h3, h4, h5, h6, h7, h8, h9, hc, hg, hn⟩
    have hc2 : ch.size ≤ 16 := by omega
    exact ⟨⟨hc2, hg, hn⟩, h0, h1, hz hc2, h2, h3, h4, h5, h6, h7, h8, h9⟩
  · rintro ⟨⟨hc, hg, hn⟩, h0, h1, _, h2, h3, h4, h5, h6, h7, h8, h9⟩
    exact ⟨h0, h1, h2, h3, h4, h5, h6, h7, h8, h9, by omega, hg, hn⟩
theorem may_of (a0 a1 a2 a3 a4 a5 a6 a7 a8 a9 : Int) (c d : ByteArray) (l m : List S65) (hd : d.size ≤ 15) (hm : (opts_May.go [] m && decide (m.length ≤ 32)) = true) (h : mayP a0 a1 a2 a3 a4 a5 a6 a7 a8 a9 c l = true) : mayP a0 a1 a2 a3 a4 a5 a6 a7 a8 a9 d m = true := by
  have hz : packet_May.fit d.size 1 = true := decide_eq_true (by rw [if_pos rfl]; omega)
  unfold mayP packet_May.ok packet_May.xs at h ⊢
  rw [hm]
  simp only [List.all_cons, List.all_nil, Bool.and_eq_true, decide_eq_true_eq, Bool.and_true] at h ⊢
  obtain ⟨_, h0, h1, _, h2, h3, h4, h5, h6, h7, h8, h9⟩ := h
  exact ⟨by omega, h0, h1, hz, h2, h3, h4, h5, h6, h7, h8, h9⟩
/-- who it is hangs on its option alone, if it has one; else on its hardware alone. -/
theorem IdentSame : pinfoldlaw9_IdentSame.Pure := by
  intro a0 a1 b0 b1 b2 b3 b4 b5 b6 b7 b8 b9 b10 l h0 h1 _ _ _ _ _ _ _ _ _ _ hb hl
  refine ⟨60, ?_⟩
  have hll : l.length ≤ 140737488351232 := by
    have h2 := hl.1
    have h3 : Try.prog.bytesOf 65 = 24 := by kernel_rfl
    rw [h3] at h2
    omega
  unfold pinfoldlaw9_IdentSame.f
  rw [awake_eq 48, refpacket_eq _ _ _ _ _ _ _ _ _ _ b10 l hll]
  simp only [Option.bind_some, if_true]
  by_cases hm : mayP b0 b1 b2 b3 b4 b5 b6 b7 b8 b9 b10 l = true
  rotate_left
  · rw [if_neg hm]
  rw [if_pos hm]
  by_cases h16 : a0.size ≤ 16
  rotate_left
  · rw [if_neg h16]
  rw [if_pos h16]
  by_cases h15 : a1.size ≤ 15
  rotate_left
  · rw [if_neg h15]
  rw [if_pos h15]
  have m1 := may_of b0 b1 b2 b3 b4 b5 b6 b7 b8 b9 b10 a1 l [] h15 (by decide) hm
  have hg : (opts_May.go [] [(⟨61, a0⟩ : S65)] && decide ([(⟨61, a0⟩ : S65)].length ≤ 32)) = true := by
    unfold opts_May.go
    rw [if_pos (show (0 : Int) < 61 ∧ (61 : Int) < 255 ∧ (61 : Int) ∉ ([] : List Int) ∧ a0.size ≤ 512 from ⟨by decide, by decide, by simp, by omega⟩)]
    rfl
  have m2 := may_of b0 b1 b2 b3 b4 b5 b6 b7 b8 b9 b10 a1 l [(⟨61, a0⟩ : S65)] h15 hg hm
  rw [client_eq 60 _ _ _ _ _ _ _ _ _ _ a1 [] (by simp) (by omega) (by simp), client_eq 60 _ _ _ _ _ _ _ _ _ _ a1 [(⟨61, a0⟩ : S65)] (by simp) (by omega) (by simp)]
  simp only [Option.bind_some, m1, m2, true_and]
  have c1 : clientR b1 a1 [] = if a1.size = 0 then ⟨#[]⟩ else strOfNums [b1 % 256] ++ a1 := rfl
  have c2 : clientR b1 a1 [(⟨61, a0⟩ : S65)] = a0 := rfl
  rw [c1, c2]
  rw [if_pos]
  refine ⟨?_, ?_, ?_, ?_⟩
  · by_cases z : a1.size = 0
    · rw [if_pos z, if_neg (show ¬ imay ⟨#[]⟩ = true by decide)]
      constructor
      · intro e
        exact absurd e (by decide)
      · intro e
        omega
    · have hp : (strOfNums [b1 % 256] ++ a1).size = 1 + a1.size := by
        rw [ByteArray.size_append, strOfNums_size]
        rfl
      rw [if_neg z, if_pos (show imay (strOfNums [b1 % 256] ++ a1) = true from decide_eq_true (by omega))]
      exact ⟨fun _ => by omega, fun _ => rfl⟩
  · by_cases z : a1.size = 0
    · exact Or.inl z
    · have hp : (strOfNums [b1 % 256] ++ a1).size = 1 + a1.size := by
        rw [ByteArray.size_append, strOfNums_size]
        rfl
      right
      rw [if_neg z, if_pos (show imay (strOfNums [b1 % 256] ++ a1) = true from decide_eq_true (by omega))]
  · by_cases z : a0.size = 0
    · rw [if_neg (show ¬ imay a0 = true from fun e => by have := of_decide_eq_true e; omega)]
      constructor
      · intro e
        exact absurd e (by decide)
      · intro e
        omega
    · rw [if_pos (show imay a0 = true from decide_eq_true (by omega))]
      exact ⟨fun _ => by omega, fun _ => rfl⟩
  · by_cases z : a0.size = 0
    · exact Or.inl z
    · right
      rw [if_pos (show imay a0 = true from decide_eq_true (by omega))]

end Go.Proofs.Ytpfanafggmkejaa.Pure
