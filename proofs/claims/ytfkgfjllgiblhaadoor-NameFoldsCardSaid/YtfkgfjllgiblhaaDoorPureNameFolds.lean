/- NameFolds: folding turns just the great letters, keeps lengths, and folded twice is folded once: for any text. No condition. -/
import Derived.Test.YtfkgfjllgiblhaaDoorPNameFoldsx3
namespace Go.Proofs.YtfkgfjllgiblhaaDoor.Pure
open Go.RowKit Go.Proofs.YtfkgfjllgiblhaaDoor.PNameFolds Go.Proofs.YtfkgfjllgiblhaaDoorW.PrintWords Go.Proofs.YtfkgfjllgiblhaaDoorW.PrintLast
set_option linter.unusedSimpArgs false
set_option linter.unusedVariables false

/-- the bounds of an int. -/
theorem int_bd {a : Int} (h : (Lit.int .i64 a).wf = true) : -9223372036854775808 ≤ a ∧ a ≤ 9223372036854775807 := by
  simp only [Lit.wf, IntKind.min, IntKind.max, IntKind.signed, IntKind.bits, Bool.and_eq_true, decide_eq_true_eq, if_true] at h
  omega
theorem u64_eq (a : Int) : IntKind.u64.wrap a = a % 18446744073709551616 := by simp [IntKind.wrap, IntKind.bits, IntKind.signed]
theorem w64 {a : Int} (h : -9223372036854775808 ≤ a ∧ a ≤ 9223372036854775807) : wrap64 a = a := by unfold wrap64; omega
/-- the low bits of any int. -/
theorem and_mask (a : Int) (i : Nat) (hi : i ≤ 62) : Go.bits .and .i64 a ((2 ^ i - 1 : Nat) : Int) = a % ((2 ^ i : Nat) : Int) := by
  have hp : 0 < 2 ^ i := Nat.two_pow_pos i
  have hl : 2 ^ i ≤ 2 ^ 62 := Nat.pow_le_pow_right (by decide) hi
  show IntKind.wrap .i64 (((BitVec.ofInt 64 a &&& BitVec.ofInt 64 ((2 ^ i - 1 : Nat) : Int)).toNat : Nat) : Int) = _
  have e : (((BitVec.ofInt 64 a &&& BitVec.ofInt 64 ((2 ^ i - 1 : Nat) : Int)).toNat : Nat) : Int) = a % ((2 ^ i : Nat) : Int) := by
    rw [BitVec.toNat_and, BitVec.ofInt_natCast, BitVec.toNat_ofNat, Nat.mod_eq_of_lt (show 2 ^ i - 1 < 2 ^ 64 by omega), Nat.and_two_pow_sub_one_eq_mod, BitVec.toNat_ofInt]
    rw [Int.natCast_emod, Int.toNat_of_nonneg (Int.emod_nonneg _ (by decide))]
    exact Int.emod_emod_of_dvd a (by
      rw [Int.natCast_dvd_natCast]
      exact Nat.pow_dvd_pow 2 (by omega))
  rw [e, IntKind.wrap_i64]
  have h0 := Int.emod_nonneg a (show ((2 ^ i : Nat) : Int) ≠ 0 by omega)
  have h1 := Int.emod_lt_of_pos a (show 0 < ((2 ^ i : Nat) : Int) by omega)
  omega
theorem and_1023 (a : Int) : Go.bits .and .i64 a 1023 = a % 1024 := and_mask a 10 (by decide)
theorem and_63 (a : Int) : Go.bits .and .i64 a 63 = a % 64 := and_mask a 6 (by decide)
theorem and_255 (a : Int) : Go.bits .and .i64 a 255 = a % 256 := and_mask a 8 (by decide)
theorem and_65535 (a : Int) : Go.bits .and .i64 a 65535 = a % 65536 := and_mask a 16 (by decide)
theorem and_u32 (a : Int) : Go.bits .and .i64 a 4294967295 = a % 4294967296 := and_mask a 32 (by decide)
theorem wraps_i64 (n : Int) (h0 : 0 ≤ n) (h1 : n < 2 ^ 63) : IntKind.i64.wrap n = n := by rw [IntKind.wrap_i64]; omega
theorem or_byte (x b : Int) (hx : 0 ≤ x ∧ x < 281474976710656) (hb : 0 ≤ b ∧ b < 256) : Go.bits .or .i64 (wrap64 (x * 256)) b = x * 256 + b := by
  rw [w64 (by omega)]
  exact bits_join .i64 63 (by decide) wraps_i64 8 (x * 256) b (by omega) (by omega) (by omega) hb.1 (by omega) (by omega)
theorem num_eq (a : Int) : pinfoldlaw0_Num.f a = some a := rfl
theorem bt_bd (s : ByteArray) (i : Int) : 0 ≤ bt s i ∧ bt s i < 256 := by have := bt_range s i; omega
theorem toList_nil (s : ByteArray) : s.toList = ([] : List UInt8) ↔ s.size = 0 := by
  rw [ByteArray.toList_eq, ← data_length, List.length_eq_zero_iff]
theorem drop_cons (s : ByteArray) (i : Nat) (h : i < s.size) : (bytesOf s).drop i = bt s i :: (bytesOf s).drop (i + 1) := by
  have hl : i < (bytesOf s).length := by rw [bytesOf_length]; exact h
  rw [List.drop_eq_getElem_cons hl, ← rd_bytesOf]
  unfold rd
  rw [Int.toNat_natCast, List.getD_eq_getElem?_getD, List.getElem?_eq_getElem hl]
  rfl
theorem drop_end (s : ByteArray) (i : Nat) (h : s.size ≤ i) : (bytesOf s).drop i = [] := List.drop_eq_nil_of_le (by rw [bytesOf_length]; exact h)
theorem bytesOf_extract (s : ByteArray) (a b : Nat) : bytesOf (s.extract a b) = ((bytesOf s).drop a).take (b - a) := by
  unfold bytesOf
  rw [ByteArray.data_extract, Array.toList_extract, List.extract_eq_take_drop, List.map_take, List.map_drop]

/-- may a label have such a byte. -/
def letterB (b : Int) : Bool := decide ((97 ≤ b ∧ b ≤ 122) ∨ (48 ≤ b ∧ b ≤ 57) ∨ b = 45)
/-- may a label be so. -/
def labelB (l : List Int) : Bool := l.all letterB && decide (1 ≤ l.length ∧ l.length ≤ 8)
/-- a text, cut at its points. -/
def glue (p : List Int) : List (List Int) → List (List Int)
  | [] => [p]
  | q :: qs => (p ++ q) :: qs
def cutL : List Int → List (List Int)
  | [] => [[]]
  | b :: l => if b = 46 then [] :: cutL l else glue [b] (cutL l)
/-- may a name be so. -/
def nameB (l : List Int) : Bool := decide (l = []) || ((cutL l).all labelB && decide ((cutL l).length ≤ 8))

theorem cutL_ne : ∀ l, cutL l ≠ []
  | [] => by simp [cutL]
  | b :: l => by
    unfold cutL
    split
    · simp
    · cases cutL l <;> simp [glue]
theorem glue_nil (l : List (List Int)) (h : l ≠ []) : glue [] l = l := by
  cases l with
  | nil => exact absurd rfl h
  | cons q qs => simp [glue]
theorem glue_glue (p q : List Int) (l : List (List Int)) : glue p (glue q l) = glue (p ++ q) l := by
  cases l <;> simp [glue]
theorem cutL_point (l : List Int) : cutL (46 :: l) = [] :: cutL l := by rw [cutL, if_pos rfl]
theorem cutL_other (b : Int) (l : List Int) (h : b ≠ 46) : cutL (b :: l) = glue [b] (cutL l) := by rw [cutL, if_neg h]

theorem letter_eq (b : Int) : name_letter.f b = some (letterB b) := by
  have e : ∀ x : Bool, (x = true ↔ ((97 ≤ b ∧ b ≤ 122) ∨ (48 ≤ b ∧ b ≤ 57) ∨ b = 45)) → some x = some (letterB b) := by
    intro x hx
    congr 1
    rw [Bool.eq_iff_iff, hx]
    simp only [letterB, decide_eq_true_eq]
  unfold name_letter.f
  repeat' split
  all_goals apply e
  all_goals simp only [beq_iff_eq, true_iff]
  all_goals omega

theorem label_loop (s : ByteArray) (hs : s.size ≤ 4611686018427387904) (d : Nat) : ∀ (k i : Nat), i + d = s.size → d < k →
    name_Label.l0 k s (s.size : Int) (i : Int) = some (((bytesOf s).drop i).all letterB && decide (1 ≤ s.size ∧ s.size ≤ 8)) := by
  induction d with
  | zero =>
    intro k i hi hk
    obtain ⟨k, rfl⟩ : ∃ m, k = m + 1 := ⟨k - 1, by omega⟩
    rw [name_Label.l0, if_neg (by omega), drop_end s i (by omega)]
    simp only [List.all_nil, Bool.true_and]
    split
    · congr 1
      rw [Bool.eq_iff_iff]
      simp only [decide_eq_true_eq]
      omega
    · congr 1
      symm
      rw [decide_eq_false_iff_not]
      omega
  | succ d ih =>
    intro k i hi hk
    obtain ⟨k, rfl⟩ : ∃ m, k = m + 1 := ⟨k - 1, by omega⟩
    rw [name_Label.l0, if_pos (by omega), if_pos (by omega), if_pos (by omega), letter_eq, drop_cons s i (by omega)]
    simp only [Option.bind_some, List.all_cons]
    cases letterB (bt s i) with
    | true =>
      rw [if_pos rfl, w64 (by omega)]
      have := ih k (i + 1) (by omega) (by omega)
      rw [show ((i : Int) + 1) = ((i + 1 : Nat) : Int) by omega, this]
      simp
    | false => simp
theorem label_eq (k : Nat) (s : ByteArray) (hs : s.size ≤ 4611686018427387904) (hk : s.size < k) : name_Label.f k s = some (labelB (bytesOf s)) := by
  unfold name_Label.f
  have := label_loop s hs s.size k 0 (by omega) hk
  rw [show ((0 : Nat) : Int) = 0 by rfl] at this
  rw [this]
  unfold labelB
  rw [List.drop_zero, bytesOf_length]

theorem cut_index : ∀ L : List UInt8, (Lib.indexByte L 46 = -1 ∧ cutL (L.map fun b => (b.toNat : Int)) = [L.map fun b => (b.toNat : Int)]) ∨
    (0 ≤ Lib.indexByte L 46 ∧ Lib.indexByte L 46 < (L.length : Int) ∧ cutL (L.map fun b => (b.toNat : Int)) = (L.map fun b => (b.toNat : Int)).take (Lib.indexByte L 46).toNat :: cutL ((L.map fun b => (b.toNat : Int)).drop ((Lib.indexByte L 46).toNat + 1)))
  | [] => .inl ⟨rfl, rfl⟩
  | b :: L => by
    have ih := cut_index L
    by_cases hb : b = 46
    · subst hb
      refine .inr ⟨by simp [Lib.indexByte], by simp [Lib.indexByte], ?_⟩
      have e : Lib.indexByte (46 :: L) 46 = 0 := by simp [Lib.indexByte]
      rw [e]
      exact cutL_point _
    · have hb2 : ((b.toNat : Nat) : Int) ≠ 46 := by
        intro h
        apply hb
        have h2 : b.toNat = 46 := by omega
        exact UInt8.toNat_inj.1 h2
      have hne : (b == 46) = false := by simpa using hb
      rcases ih with ⟨h1, h2⟩ | ⟨h1, h2, h3⟩
      · refine .inl ⟨by simp [Lib.indexByte, hne, h1], ?_⟩
        rw [List.map_cons, cutL_other _ _ hb2, h2]
        rfl
      · have e : Lib.indexByte (b :: L) 46 = Lib.indexByte L 46 + 1 := by
          have h4 : (Lib.indexByte L 46 == -1) = false := by
            rw [beq_eq_false_iff_ne]
            omega
          simp [Lib.indexByte, hne, h4]
        refine .inr ⟨by omega, by rw [e, List.length_cons]; omega, ?_⟩
        rw [e, show (Lib.indexByte L 46 + 1).toNat = (Lib.indexByte L 46).toNat + 1 by omega, List.map_cons, cutL_other _ _ hb2, h3]
        rfl

theorem may_loop (m : Nat) : ∀ (k n : Nat) (s : ByteArray), s.size ≤ m → s.size ≤ 140737488351232 → m + 2 ≤ k → n ≤ 8 →
    name_May.l0 k (n : Int) s true = some ((cutL (bytesOf s)).all labelB && decide (n + (cutL (bytesOf s)).length ≤ 8)) := by
  induction m with
  | zero =>
    intro k n s hm hs hk hn
    obtain ⟨k, rfl⟩ : ∃ j, k = j + 1 := ⟨k - 1, by omega⟩
    have hz : bytesOf s = [] := List.length_eq_zero_iff.1 (by rw [bytesOf_length]; omega)
    rw [name_May.l0, if_pos rfl]
    have hd : s.data.toList = [] := List.length_eq_zero_iff.1 (by rw [data_length]; omega)
    have hc : strings_Cut.f s ⟨#[46]⟩ = some (s, ⟨#[]⟩, false) := by
      unfold strings_Cut.f stringslite_Cut.f
      rw [if_pos ⟨rfl, hs⟩]
      unfold stringslite_Cut.v stringslite_Index.at_
      rw [hd]
      rfl
    rw [hc]
    simp only [Option.bind_some]
    rw [label_eq k s (by omega) (by omega), hz]
    simp [labelB, cutL]
  | succ m ih =>
    intro k n s hm hs hk hn
    obtain ⟨k, rfl⟩ : ∃ j, k = j + 1 := ⟨k - 1, by omega⟩
    rw [name_May.l0, if_pos rfl]
    rcases cut_index s.data.toList with ⟨h1, h2⟩ | ⟨h1, h1', h2⟩
    · have hc : strings_Cut.f s ⟨#[46]⟩ = some (s, ⟨#[]⟩, false) := by
        unfold strings_Cut.f stringslite_Cut.f
        rw [if_pos ⟨rfl, hs⟩]
        unfold stringslite_Cut.v stringslite_Index.at_
        rw [show (⟨#[46]⟩ : ByteArray).data.toList.headD 0 = 46 from rfl, h1, if_neg (by decide)]
      have h2' : cutL (bytesOf s) = [bytesOf s] := h2
      rw [hc, h2']
      simp only [Option.bind_some]
      rw [label_eq k s (by omega) (by omega)]
      simp only [Option.bind_some, List.all_cons, List.all_nil, Bool.and_true, List.length_cons, List.length_nil]
      cases labelB (bytesOf s) with
      | true =>
        rw [if_pos rfl, w64 (by omega)]
        by_cases h8 : (n : Int) + 1 > 8
        · rw [if_pos h8, decide_eq_false (by omega)]
          rfl
        · rw [if_neg h8, decide_eq_true (by omega)]
          obtain ⟨k, rfl⟩ : ∃ j, k = j + 1 := ⟨k - 1, by omega⟩
          rw [name_May.l0, if_neg (by decide)]
          rfl
      | false => simp
    · have hc : strings_Cut.f s ⟨#[46]⟩ = some (s.extract 0 (Lib.indexByte s.data.toList 46).toNat, s.extract ((Lib.indexByte s.data.toList 46).toNat + 1) s.size, true) := by
        unfold strings_Cut.f stringslite_Cut.f
        rw [if_pos ⟨rfl, hs⟩]
        unfold stringslite_Cut.v stringslite_Index.at_
        rw [show (⟨#[46]⟩ : ByteArray).data.toList.headD 0 = 46 from rfl, if_pos h1]
      have h2' : cutL (bytesOf s) = (bytesOf s).take (Lib.indexByte s.data.toList 46).toNat :: cutL ((bytesOf s).drop ((Lib.indexByte s.data.toList 46).toNat + 1)) := h2
      rw [data_length] at h1'
      obtain ⟨i, hi⟩ : ∃ i : Nat, (Lib.indexByte s.data.toList 46).toNat = i := ⟨_, rfl⟩
      rw [hi] at hc h2'
      have hil : i < s.size := by omega
      rw [hc]
      simp only [Option.bind_some]
      have e1 : bytesOf (s.extract 0 i) = (bytesOf s).take i := by rw [bytesOf_extract, List.drop_zero, Nat.sub_zero]
      have e2 : bytesOf (s.extract (i + 1) s.size) = (bytesOf s).drop (i + 1) := by
        rw [bytesOf_extract, List.take_of_length_le (by rw [List.length_drop, bytesOf_length]; omega)]
      have z1 : (s.extract 0 i).size = i := by rw [ByteArray.size_extract]; omega
      have z2 : (s.extract (i + 1) s.size).size = s.size - (i + 1) := by rw [ByteArray.size_extract]; omega
      rw [label_eq k _ (by omega) (by omega), e1, h2']
      simp only [Option.bind_some, List.all_cons, List.length_cons]
      cases labelB ((bytesOf s).take i) with
      | true =>
        rw [if_pos rfl, w64 (by omega)]
        have hp : 0 < (cutL ((bytesOf s).drop (i + 1))).length := List.length_pos_iff.2 (cutL_ne _)
        by_cases h8 : (n : Int) + 1 > 8
        · rw [if_pos h8, decide_eq_false (by omega)]
          simp
        · rw [if_neg h8, show (n : Int) + 1 = ((n + 1 : Nat) : Int) by omega, ih k (n + 1) _ (by omega) (by omega) (by omega) (by omega), e2]
          simp only [Bool.true_and]
          rw [show n + 1 + (cutL ((bytesOf s).drop (i + 1))).length = n + ((cutL ((bytesOf s).drop (i + 1))).length + 1) by omega]
      | false => simp

/-- what the program says of a name. -/
theorem name_eq (k : Nat) (s : ByteArray) (hs : s.size ≤ 140737488351232) (hk : s.size + 2 ≤ k) : name_May.f k s = some (nameB (bytesOf s)) := by
  unfold name_May.f nameB
  by_cases h : s.size = 0
  · have hz : bytesOf s = [] := List.length_eq_zero_iff.1 (by rw [bytesOf_length]; omega)
    have ht : (s.toList != ([] : List UInt8)) = false := by rw [(toList_nil s).2 h]; rfl
    obtain ⟨k, rfl⟩ : ∃ j, k = j + 1 := ⟨k - 1, by omega⟩
    rw [ht, name_May.l0, if_neg (by decide), hz]
    rfl
  · have hz : bytesOf s ≠ [] := fun e => h (by rw [← bytesOf_length, e]; rfl)
    have ht : (s.toList != ([] : List UInt8)) = true := by
      rw [bne_iff_ne]
      exact fun e => h ((toList_nil s).1 e)
    have := may_loop s.size k 0 s (Nat.le_refl _) hs hk (by omega)
    rw [show ((0 : Nat) : Int) = 0 by rfl] at this
    rw [ht, this, decide_eq_false hz, Bool.false_or, Nat.zero_add]
theorem awake_eq (n : Nat) : pinfoldlaw2_awake.f (n + 30) = some true :=
  at_rounds (g := fun k => pinfoldlaw2_awake.f k) pinfoldlaw2_awake.mono (k := 30) (by omega) (by kernel_rfl)
theorem toNat_u8 (x : Int) (h : 0 ≤ x ∧ x < 256) : ((UInt8.ofNat x.toNat).toNat : Int) = x := by
  rw [UInt8.toNat_ofNat']
  omega
theorem bytesOf_strOf : ∀ l : List Int, (∀ x ∈ l, 0 ≤ x ∧ x < 256) → bytesOf (strOfNums l) = l := by
  intro l h
  unfold bytesOf strOfNums
  simp only [List.map_map]
  induction l with
  | nil => rfl
  | cons x l ih =>
    rw [List.map_cons, ih (fun y hy => h y (List.mem_cons_of_mem _ hy))]
    congr 1
    exact toNat_u8 x (h x (List.mem_cons_self ..))
theorem bytesOf_append (s t : ByteArray) : bytesOf (s ++ t) = bytesOf s ++ bytesOf t := by
  unfold bytesOf
  rw [ByteArray.data_append, Array.toList_append, List.map_append]
theorem bytes_range (s : ByteArray) : ∀ x ∈ bytesOf s, 0 ≤ x ∧ x < 256 := by
  intro x hx
  unfold bytesOf at hx
  obtain ⟨b, _, rfl⟩ := List.mem_map.1 hx
  have := b.toNat_lt
  omega
theorem byte_range (b : Int) (h : 0 ≤ b ∧ b < 256) : 0 ≤ name_Fold.byte b ∧ name_Fold.byte b < 256 := by
  unfold name_Fold.byte
  split <;> omega
theorem byte_twice (b : Int) : name_Fold.byte (name_Fold.byte b) = name_Fold.byte b := by
  unfold name_Fold.byte
  split
  · rw [if_neg (by omega)]
  · rfl
theorem folds_loop (s F : ByteArray) (hF : bytesOf F = (bytesOf s).map name_Fold.byte) (hs : s.size ≤ 140737488351232) (d : Nat) : ∀ (k i : Nat), i + d = s.size → d < k →
    pinfoldlaw2_NameFolds.l0 k s F (i : Int) = some true := by
  have hz : F.size = s.size := by rw [← bytesOf_length, hF, List.length_map, bytesOf_length]
  induction d with
  | zero =>
    intro k i hi hk
    obtain ⟨k, rfl⟩ : ∃ m, k = m + 1 := ⟨k - 1, by omega⟩
    rw [pinfoldlaw2_NameFolds.l0, if_neg (by omega)]
    rfl
  | succ d ih =>
    intro k i hi hk
    obtain ⟨k, rfl⟩ : ∃ m, k = m + 1 := ⟨k - 1, by omega⟩
    have hb := bt_bd s i
    have hc : bt F i = name_Fold.byte (bt s i) := by
      have hil : i < (bytesOf s).length := by rw [bytesOf_length]; omega
      rw [← rd_bytesOf, ← rd_bytesOf, hF]
      unfold rd
      rw [Int.toNat_natCast, List.getD_eq_getElem?_getD, List.getD_eq_getElem?_getD, List.getElem?_map, List.getElem?_eq_getElem hil]
      rfl
    rw [pinfoldlaw2_NameFolds.l0, if_pos (by omega), if_pos (by omega), hc, w64 (by omega), show ((i : Int) + 1) = ((i + 1 : Nat) : Int) by omega, ih k (i + 1) (by omega) (by omega)]
    generalize bt s i = b at hb
    by_cases h : 65 ≤ b ∧ b ≤ 90
    · have e : name_Fold.byte b = b + 32 := if_pos h
      rw [e]
      repeat' split
      all_goals first
        | rfl
        | (exfalso; omega)
    · have e : name_Fold.byte b = b := if_neg h
      rw [e]
      repeat' split
      all_goals first
        | rfl
        | (exfalso; omega)
/-- folding turns just the great letters, keeps lengths, and folded twice is folded once: for any text. -/
theorem NameFolds : pinfoldlaw2_NameFolds.Pure := by
  intro s hs
  refine ⟨s.size + 5 + 30, ?_⟩
  unfold pinfoldlaw2_NameFolds.f
  have ea : pinfoldlaw2_awake.f (s.size + 5 + 30) = some true := awake_eq _
  rw [ea]
  have e1 : name_Fold.f s = some (strOfNums ((bytesOf s).map name_Fold.byte)) := by unfold name_Fold.f; rw [if_pos hs]
  have hr : ∀ x ∈ (bytesOf s).map name_Fold.byte, 0 ≤ x ∧ x < 256 := by
    intro x hx
    obtain ⟨y, hy, rfl⟩ := List.mem_map.1 hx
    exact byte_range y (bytes_range s y hy)
  have hF := bytesOf_strOf _ hr
  rw [e1]
  simp only [Option.bind_some, if_true]
  obtain ⟨F, hFe⟩ : ∃ F, strOfNums ((bytesOf s).map name_Fold.byte) = F := ⟨_, rfl⟩
  rw [hFe] at hF
  have hz : F.size = s.size := by rw [← bytesOf_length, hF, List.length_map, bytesOf_length]
  have e2 : name_Fold.f F = some F := by
    unfold name_Fold.f
    rw [if_pos (by omega), hF, List.map_map]
    have e3 : (name_Fold.byte ∘ name_Fold.byte) = name_Fold.byte := funext byte_twice
    rw [e3, hFe]
  rw [hFe, if_pos (by omega), e2]
  simp only [Option.bind_some, bne_self_eq_false]
  obtain ⟨k, hk⟩ : ∃ j, s.size + 5 + 30 = j + 1 := ⟨s.size + 34, by omega⟩
  rw [hk, pinfoldlaw2_NameFolds.j0, if_neg (by decide)]
  have := folds_loop s F hF hs s.size k 0 (by omega) (by omega)
  rw [show ((0 : Nat) : Int) = 0 by rfl] at this
  exact this

end Go.Proofs.YtfkgfjllgiblhaaDoor.Pure
