/- NameUnder: a name is under itself, its parents, the root, and what is under something is under what that is under: for any texts. No condition. -/
import Derived.Test.YtfkgfjllgiblhaaDoorPNameUnderx3
namespace Go.Proofs.YtfkgfjllgiblhaaDoor.Pure
open Go.RowKit Go.Proofs.YtfkgfjllgiblhaaDoor.PNameUnder Go.Proofs.YtfkgfjllgiblhaaDoorW.PrintWords Go.Proofs.YtfkgfjllgiblhaaDoorW.PrintLast
set_option linter.unusedSimpArgs false
set_option linter.unusedVariables false

/-- the bounds of an int. -/
theorem int_bd {a : Int} (h : (Lit.int .i64 a).wf = true) : -9223372036854775808 ≤ a ∧ a ≤ 9223372036854775807 := by
  simp only [Lit.wf, IntKind.min, IntKind.max, IntKind.signed, IntKind.bits, Bool.and_eq_true, decide_eq_true_eq, if_true] at h
  omega
theorem u64_eq (a : Int) : IntKind.u64.wrap a = a % 18446744073709551616 := by simp [IntKind.wrap, IntKind.bits, IntKind.signed]
theorem w64 {a : Int} (h : -9223372036854775808 ≤ a ∧ a ≤ 9223372036854775807) : wrap64 a = a := by unfold wrap64; omega
/-- the low bits of any int. -/
theorem and_mask (a : Int) (i : Nat) (hi : i ≤ 62) : Go.bits .and .i64 a ((2 ^ i - 1 : Nat) : Int) = a % ((2 ^ i : Nat) : Int) := by
  have hp : 0 < 2 ^ i := Nat.two_pow_pos i
  have hl : 2 ^ i ≤ 2 ^ 62 := Nat.pow_le_pow_right (by decide) hi
  show IntKind.wrap .i64 (((BitVec.ofInt 64 a &&& BitVec.ofInt 64 ((2 ^ i - 1 : Nat) : Int)).toNat : Nat) : Int) = _
  have e : (((BitVec.ofInt 64 a &&& BitVec.ofInt 64 ((2 ^ i - 1 : Nat) : Int)).toNat : Nat) : Int) = a % ((2 ^ i : Nat) : Int) := by
    rw [BitVec.toNat_and, BitVec.ofInt_natCast, BitVec.toNat_ofNat, Nat.mod_eq_of_lt (show 2 ^ i - 1 < 2 ^ 64 by omega), Nat.and_two_pow_sub_one_eq_mod, BitVec.toNat_ofInt]
    rw [Int.natCast_emod, Int.toNat_of_nonneg (Int.emod_nonneg _ (by decide))]
    exact Int.emod_emod_of_dvd a (by
      rw [Int.natCast_dvd_natCast]
      exact Nat.pow_dvd_pow 2 (by omega))
  rw [e, IntKind.wrap_i64]
  have h0 := Int.emod_nonneg a (show ((2 ^ i : Nat) : Int) ≠ 0 by omega)
  have h1 := Int.emod_lt_of_pos a (show 0 < ((2 ^ i : Nat) : Int) by omega)
  omega
theorem and_1023 (a : Int) : Go.bits .and .i64 a 1023 = a % 1024 := and_mask a 10 (by decide)
theorem and_63 (a : Int) : Go.bits .and .i64 a 63 = a % 64 := and_mask a 6 (by decide)
theorem and_255 (a : Int) : Go.bits .and .i64 a 255 = a % 256 := and_mask a 8 (by decide)
theorem and_65535 (a : Int) : Go.bits .and .i64 a 65535 = a % 65536 := and_mask a 16 (by decide)
theorem and_u32 (a : Int) : Go.bits .and .i64 a 4294967295 = a % 4294967296 := and_mask a 32 (by decide)
theorem wraps_i64 (n : Int) (h0 : 0 ≤ n) (h1 : n < 2 ^ 63) : IntKind.i64.wrap n = n := by rw [IntKind.wrap_i64]; omega
theorem or_byte (x b : Int) (hx : 0 ≤ x ∧ x < 281474976710656) (hb : 0 ≤ b ∧ b < 256) : Go.bits .or .i64 (wrap64 (x * 256)) b = x * 256 + b := by
  rw [w64 (by omega)]
  exact bits_join .i64 63 (by decide) wraps_i64 8 (x * 256) b (by omega) (by omega) (by omega) hb.1 (by omega) (by omega)
theorem num_eq (a : Int) : pinfoldlaw0_Num.f a = some a := rfl
theorem bt_bd (s : ByteArray) (i : Int) : 0 ≤ bt s i ∧ bt s i < 256 := by have := bt_range s i; omega
theorem toList_nil (s : ByteArray) : s.toList = ([] : List UInt8) ↔ s.size = 0 := by
  rw [ByteArray.toList_eq, ← data_length, List.length_eq_zero_iff]
theorem drop_cons (s : ByteArray) (i : Nat) (h : i < s.size) : (bytesOf s).drop i = bt s i :: (bytesOf s).drop (i + 1) := by
  have hl : i < (bytesOf s).length := by rw [bytesOf_length]; exact h
  rw [List.drop_eq_getElem_cons hl, ← rd_bytesOf]
  unfold rd
  rw [Int.toNat_natCast, List.getD_eq_getElem?_getD, List.getElem?_eq_getElem hl]
  rfl
theorem drop_end (s : ByteArray) (i : Nat) (h : s.size ≤ i) : (bytesOf s).drop i = [] := List.drop_eq_nil_of_le (by rw [bytesOf_length]; exact h)
theorem bytesOf_extract (s : ByteArray) (a b : Nat) : bytesOf (s.extract a b) = ((bytesOf s).drop a).take (b - a) := by
  unfold bytesOf
  rw [ByteArray.data_extract, Array.toList_extract, List.extract_eq_take_drop, List.map_take, List.map_drop]

/-- may a label have such a byte. -/
def letterB (b : Int) : Bool := decide ((97 ≤ b ∧ b ≤ 122) ∨ (48 ≤ b ∧ b ≤ 57) ∨ b = 45)
/-- may a label be so. -/
def labelB (l : List Int) : Bool := l.all letterB && decide (1 ≤ l.length ∧ l.length ≤ 8)
/-- a text, cut at its points. -/
def glue (p : List Int) : List (List Int) → List (List Int)
  | [] => [p]
  | q :: qs => (p ++ q) :: qs
def cutL : List Int → List (List Int)
  | [] => [[]]
  | b :: l => if b = 46 then [] :: cutL l else glue [b] (cutL l)
/-- may a name be so. -/
def nameB (l : List Int) : Bool := decide (l = []) || ((cutL l).all labelB && decide ((cutL l).length ≤ 8))

theorem cutL_ne : ∀ l, cutL l ≠ []
  | [] => by simp [cutL]
  | b :: l => by
    unfold cutL
    split
    · simp
    · cases cutL l <;> simp [glue]
theorem glue_nil (l : List (List Int)) (h : l ≠ []) : glue [] l = l := by
  cases l with
  | nil => exact absurd rfl h
  | cons q qs => simp [glue]
theorem glue_glue (p q : List Int) (l : List (List Int)) : glue p (glue q l) = glue (p ++ q) l := by
  cases l <;> simp [glue]
theorem cutL_point (l : List Int) : cutL (46 :: l) = [] :: cutL l := by rw [cutL, if_pos rfl]
theorem cutL_other (b : Int) (l : List Int) (h : b ≠ 46) : cutL (b :: l) = glue [b] (cutL l) := by rw [cutL, if_neg h]

theorem letter_eq (b : Int) : name_letter.f b = some (letterB b) := by
  have e : ∀ x : Bool, (x = true ↔ ((97 ≤ b ∧ b ≤ 122) ∨ (48 ≤ b ∧ b ≤ 57) ∨ b = 45)) → some x = some (letterB b) := by
    intro x hx
    congr 1
    rw [Bool.eq_iff_iff, hx]
    simp only [letterB, decide_eq_true_eq]
  unfold name_letter.f
  repeat' split
  all_goals apply e
  all_goals simp only [beq_iff_eq, true_iff]
  all_goals omega

theorem label_loop (s : ByteArray) (hs : s.size ≤ 4611686018427387904) (d : Nat) : ∀ (k i : Nat), i + d = s.size → d < k →
    name_Label.l0 k s (s.size : Int) (i : Int) = some (((bytesOf s).drop i).all letterB && decide (1 ≤ s.size ∧ s.size ≤ 8)) := by
  induction d with
  | zero =>
    intro k i hi hk
    obtain ⟨k, rfl⟩ : ∃ m, k = m + 1 := ⟨k - 1, by omega⟩
    rw [name_Label.l0, if_neg (by omega), drop_end s i (by omega)]
    simp only [List.all_nil, Bool.true_and]
    split
    · congr 1
      rw [Bool.eq_iff_iff]
      simp only [decide_eq_true_eq]
      omega
    · congr 1
      symm
      rw [decide_eq_false_iff_not]
      omega
  | succ d ih =>
    intro k i hi hk
    obtain ⟨k, rfl⟩ : ∃ m, k = m + 1 := ⟨k - 1, by omega⟩
    rw [name_Label.l0, if_pos (by omega), if_pos (by omega), if_pos (by omega), letter_eq, drop_cons s i (by omega)]
    simp only [Option.bind_some, List.all_cons]
    cases letterB (bt s i) with
    | true =>
      rw [if_pos rfl, w64 (by omega)]
      have := ih k (i + 1) (by omega) (by omega)
      rw [show ((i : Int) + 1) = ((i + 1 : Nat) : Int) by omega, this]
      simp
    | false => simp
theorem label_eq (k : Nat) (s : ByteArray) (hs : s.size ≤ 4611686018427387904) (hk : s.size < k) : name_Label.f k s = some (labelB (bytesOf s)) := by
  unfold name_Label.f
  have := label_loop s hs s.size k 0 (by omega) hk
  rw [show ((0 : Nat) : Int) = 0 by rfl] at this
  rw [this]
  unfold labelB
  rw [List.drop_zero, bytesOf_length]

theorem cut_index : ∀ L : List UInt8, (Lib.indexByte L 46 = -1 ∧ cutL (L.map fun b => (b.toNat : Int)) = [L.map fun b => (b.toNat : Int)]) ∨
    (0 ≤ Lib.indexByte L 46 ∧ Lib.indexByte L 46 < (L.length : Int) ∧ cutL (L.map fun b => (b.toNat : Int)) = (L.map fun b => (b.toNat : Int)).take (Lib.indexByte L 46).toNat :: cutL ((L.map fun b => (b.toNat : Int)).drop ((Lib.indexByte L 46).toNat + 1)))
  | [] => .inl ⟨rfl, rfl⟩
  | b :: L => by
    have ih := cut_index L
    by_cases hb : b = 46
    · subst hb
      refine .inr ⟨by simp [Lib.indexByte], by simp [Lib.indexByte], ?_⟩
      have e : Lib.indexByte (46 :: L) 46 = 0 := by simp [Lib.indexByte]
      rw [e]
      exact cutL_point _
    · have hb2 : ((b.toNat : Nat) : Int) ≠ 46 := by
        intro h
        apply hb
        have h2 : b.toNat = 46 := by omega
        exact UInt8.toNat_inj.1 h2
      have hne : (b == 46) = false := by simpa using hb
      rcases ih with ⟨h1, h2⟩ | ⟨h1, h2, h3⟩
      · refine .inl ⟨by simp [Lib.indexByte, hne, h1], ?_⟩
        rw [List.map_cons, cutL_other _ _ hb2, h2]
        rfl
      · have e : Lib.indexByte (b :: L) 46 = Lib.indexByte L 46 + 1 := by
          have h4 : (Lib.indexByte L 46 == -1) = false := by
            rw [beq_eq_false_iff_ne]
            omega
          simp [Lib.indexByte, hne, h4]
        refine .inr ⟨by omega, by rw [e, List.length_cons]; omega, ?_⟩
        rw [e, show (Lib.indexByte L 46 + 1).toNat = (Lib.indexByte L 46).toNat + 1 by omega, List.map_cons, cutL_other _ _ hb2, h3]
        rfl

theorem may_loop (m : Nat) : ∀ (k n : Nat) (s : ByteArray), s.size ≤ m → s.size ≤ 140737488351232 → m + 2 ≤ k → n ≤ 8 →
    name_May.l0 k (n : Int) s true = some ((cutL (bytesOf s)).all labelB && decide (n + (cutL (bytesOf s)).length ≤ 8)) := by
  induction m with
  | zero =>
    intro k n s hm hs hk hn
    obtain ⟨k, rfl⟩ : ∃ j, k = j + 1 := ⟨k - 1, by omega⟩
    have hz : bytesOf s = [] := List.length_eq_zero_iff.1 (by rw [bytesOf_length]; omega)
    rw [name_May.l0, if_pos rfl]
    have hd : s.data.toList = [] := List.length_eq_zero_iff.1 (by rw [data_length]; omega)
    have hc : strings_Cut.f s ⟨#[46]⟩ = some (s, ⟨#[]⟩, false) := by
      unfold strings_Cut.f stringslite_Cut.f
      rw [if_pos ⟨rfl, hs⟩]
      unfold stringslite_Cut.v stringslite_Index.at_
      rw [hd]
      rfl
    rw [hc]
    simp only [Option.bind_some]
    rw [label_eq k s (by omega) (by omega), hz]
    simp [labelB, cutL]
  | succ m ih =>
    intro k n s hm hs hk hn
    obtain ⟨k, rfl⟩ : ∃ j, k = j + 1 := ⟨k - 1, by omega⟩
    rw [name_May.l0, if_pos rfl]
    rcases cut_index s.data.toList with ⟨h1, h2⟩ | ⟨h1, h1', h2⟩
    · have hc : strings_Cut.f s ⟨#[46]⟩ = some (s, ⟨#[]⟩, false) := by
        unfold strings_Cut.f stringslite_Cut.f
        rw [if_pos ⟨rfl, hs⟩]
        unfold stringslite_Cut.v stringslite_Index.at_
        rw [show (⟨#[46]⟩ : ByteArray).data.toList.headD 0 = 46 from rfl, h1, if_neg (by decide)]
      have h2' : cutL (bytesOf s) = [bytesOf s] := h2
      rw [hc, h2']
      simp only [Option.bind_some]
      rw [label_eq k s (by omega) (by omega)]
      simp only [Option.bind_some, List.all_cons, List.all_nil, Bool.and_true, List.length_cons, List.length_nil]
      cases labelB (bytesOf s) with
      | true =>
        rw [if_pos rfl, w64 (by omega)]
        by_cases h8 : (n : Int) + 1 > 8
        · rw [if_pos h8, decide_eq_false (by omega)]
          rfl
        · rw [if_neg h8, decide_eq_true (by omega)]
          obtain ⟨k, rfl⟩ : ∃ j, k = j + 1 := ⟨k - 1, by omega⟩
          rw [name_May.l0, if_neg (by decide)]
          rfl
      | false => simp
    · have hc : strings_Cut.f s ⟨#[46]⟩ = some (s.extract 0 (Lib.indexByte s.data.toList 46).toNat, s.extract ((Lib.indexByte s.data.toList 46).toNat + 1) s.size, true) := by
        unfold strings_Cut.f stringslite_Cut.f
        rw [if_pos ⟨rfl, hs⟩]
        unfold stringslite_Cut.v stringslite_Index.at_
        rw [show (⟨#[46]⟩ : ByteArray).data.toList.headD 0 = 46 from rfl, if_pos h1]
      have h2' : cutL (bytesOf s) = (bytesOf s).take (Lib.indexByte s.data.toList 46).toNat :: cutL ((bytesOf s).drop ((Lib.indexByte s.data.toList 46).toNat + 1)) := h2
      rw [data_length] at h1'
      obtain ⟨i, hi⟩ : ∃ i : Nat, (Lib.indexByte s.data.toList 46).toNat = i := ⟨_, rfl⟩
      rw [hi] at hc h2'
      have hil : i < s.size := by omega
      rw [hc]
      simp only [Option.bind_some]
      have e1 : bytesOf (s.extract 0 i) = (bytesOf s).take i := by rw [bytesOf_extract, List.drop_zero, Nat.sub_zero]
      have e2 : bytesOf (s.extract (i + 1) s.size) = (bytesOf s).drop (i + 1) := by
        rw [bytesOf_extract, List.take_of_length_le (by rw [List.length_drop, bytesOf_length]; omega)]
      have z1 : (s.extract 0 i).size = i := by rw [ByteArray.size_extract]; omega
      have z2 : (s.extract (i + 1) s.size).size = s.size - (i + 1) := by rw [ByteArray.size_extract]; omega
      rw [label_eq k _ (by omega) (by omega), e1, h2']
      simp only [Option.bind_some, List.all_cons, List.length_cons]
      cases labelB ((bytesOf s).take i) with
      | true =>
        rw [if_pos rfl, w64 (by omega)]
        have hp : 0 < (cutL ((bytesOf s).drop (i + 1))).length := List.length_pos_iff.2 (cutL_ne _)
        by_cases h8 : (n : Int) + 1 > 8
        · rw [if_pos h8, decide_eq_false (by omega)]
          simp
        · rw [if_neg h8, show (n : Int) + 1 = ((n + 1 : Nat) : Int) by omega, ih k (n + 1) _ (by omega) (by omega) (by omega) (by omega), e2]
          simp only [Bool.true_and]
          rw [show n + 1 + (cutL ((bytesOf s).drop (i + 1))).length = n + ((cutL ((bytesOf s).drop (i + 1))).length + 1) by omega]
      | false => simp

/-- what the program says of a name. -/
theorem name_eq (k : Nat) (s : ByteArray) (hs : s.size ≤ 140737488351232) (hk : s.size + 2 ≤ k) : name_May.f k s = some (nameB (bytesOf s)) := by
  unfold name_May.f nameB
  by_cases h : s.size = 0
  · have hz : bytesOf s = [] := List.length_eq_zero_iff.1 (by rw [bytesOf_length]; omega)
    have ht : (s.toList != ([] : List UInt8)) = false := by rw [(toList_nil s).2 h]; rfl
    obtain ⟨k, rfl⟩ : ∃ j, k = j + 1 := ⟨k - 1, by omega⟩
    rw [ht, name_May.l0, if_neg (by decide), hz]
    rfl
  · have hz : bytesOf s ≠ [] := fun e => h (by rw [← bytesOf_length, e]; rfl)
    have ht : (s.toList != ([] : List UInt8)) = true := by
      rw [bne_iff_ne]
      exact fun e => h ((toList_nil s).1 e)
    have := may_loop s.size k 0 s (Nat.le_refl _) hs hk (by omega)
    rw [show ((0 : Nat) : Int) = 0 by rfl] at this
    rw [ht, this, decide_eq_false hz, Bool.false_or, Nat.zero_add]
theorem awake_eq (n : Nat) : pinfoldlaw2_awake.f (n + 30) = some true :=
  at_rounds (g := fun k => pinfoldlaw2_awake.f k) pinfoldlaw2_awake.mono (k := 30) (by omega) (by kernel_rfl)
theorem toNat_u8 (x : Int) (h : 0 ≤ x ∧ x < 256) : ((UInt8.ofNat x.toNat).toNat : Int) = x := by
  rw [UInt8.toNat_ofNat']
  omega
theorem bytesOf_strOf : ∀ l : List Int, (∀ x ∈ l, 0 ≤ x ∧ x < 256) → bytesOf (strOfNums l) = l := by
  intro l h
  unfold bytesOf strOfNums
  simp only [List.map_map]
  induction l with
  | nil => rfl
  | cons x l ih =>
    rw [List.map_cons, ih (fun y hy => h y (List.mem_cons_of_mem _ hy))]
    congr 1
    exact toNat_u8 x (h x (List.mem_cons_self ..))
theorem bytesOf_append (s t : ByteArray) : bytesOf (s ++ t) = bytesOf s ++ bytesOf t := by
  unfold bytesOf
  rw [ByteArray.data_append, Array.toList_append, List.map_append]
theorem bytes_range (s : ByteArray) : ∀ x ∈ bytesOf s, 0 ≤ x ∧ x < 256 := by
  intro x hx
  unfold bytesOf at hx
  obtain ⟨b, _, rfl⟩ := List.mem_map.1 hx
  have := b.toNat_lt
  omega
theorem map_u8_inj : ∀ l l' : List UInt8, l.map (fun b => (b.toNat : Int)) = l'.map (fun b => (b.toNat : Int)) → l = l'
  | [], [], _ => rfl
  | [], _ :: _, h => by simp at h
  | _ :: _, [], h => by simp at h
  | a :: l, b :: l', h => by
    rw [List.map_cons, List.map_cons, List.cons.injEq] at h
    have h1 : a.toNat = b.toNat := by omega
    rw [UInt8.toNat_inj.1 h1, map_u8_inj l l' h.2]
theorem toList_iff (s t : ByteArray) : s.toList = t.toList ↔ bytesOf s = bytesOf t := by
  rw [ByteArray.toList_eq, ByteArray.toList_eq]
  constructor
  · intro h
    unfold bytesOf
    rw [h]
  · exact map_u8_inj _ _
theorem bytesOf_inj (s t : ByteArray) (h : bytesOf s = bytesOf t) : s = t := by
  have h1 := (toList_iff s t).2 h
  rw [ByteArray.toList_eq, ByteArray.toList_eq] at h1
  have e : ∀ x : ByteArray, x = ⟨x.data⟩ := fun _ => rfl
  rw [e s, e t, Array.toList_inj.1 h1]
/-- does a name end as a zone is called. -/
def isU (s z : List Int) : Prop := z = [] ∨ s = z ∨ (46 :: z) <:+ s
instance (s z : List Int) : Decidable (isU s z) := by unfold isU; infer_instance
def underB (s z : List Int) : Bool := nameB s && nameB z && decide (isU s z)
theorem suffix_eq (s t : ByteArray) (hs : s.size ≤ 4611686018427387904) : strings_HasSuffix.f s t = some (decide (bytesOf t <:+ bytesOf s)) := by
  unfold strings_HasSuffix.f stringslite_HasSuffix.f
  by_cases h : (s.size : Int) ≥ (t.size : Int)
  · rw [if_pos h, w64 (by omega), if_pos (by omega), if_pos (by omega), Option.bind_some]
    congr 1
    rw [Bool.eq_iff_iff, beq_iff_eq, decide_eq_true_eq, toList_iff, bytesOf_extract, List.take_of_length_le (by rw [List.length_drop, bytesOf_length]; omega)]
    rw [List.suffix_iff_eq_drop, bytesOf_length, bytesOf_length, show ((s.size : Int) - (t.size : Int)).toNat = s.size - t.size by omega]
    exact eq_comm
  · rw [if_neg h, Option.bind_some]
    congr 1
    symm
    rw [decide_eq_false_iff_not]
    intro e
    have := e.length_le
    rw [bytesOf_length, bytesOf_length] at this
    omega
/-- what the program says of a name under a zone. -/
theorem under_eq (k : Nat) (s z : ByteArray) (hs : s.size ≤ 140737488351232) (hz : z.size ≤ 140737488351232) (h1 : s.size + 2 ≤ k) (h2 : z.size + 2 ≤ k) : name_Under.f k s z = some (underB (bytesOf s) (bytesOf z)) := by
  unfold name_Under.f underB
  rw [name_eq k s hs h1, name_eq k z hz h2]
  simp only [Option.bind_some]
  cases nameB (bytesOf s) with
  | false => rfl
  | true =>
    cases nameB (bytesOf z) with
    | false => rfl
    | true =>
      simp only [if_true, Bool.and_self, Bool.true_and]
      by_cases q1 : z.size = 0
      · have hn : bytesOf z = [] := List.length_eq_zero_iff.1 (by rw [bytesOf_length]; omega)
        rw [if_pos ((toList_nil z).2 q1), decide_eq_true (show isU (bytesOf s) (bytesOf z) from .inl hn)]
      · have hn : bytesOf z ≠ [] := fun e => q1 (by rw [← bytesOf_length, e]; rfl)
        rw [if_neg (fun e => q1 ((toList_nil z).1 e))]
        by_cases q2 : bytesOf s = bytesOf z
        · rw [if_pos ((toList_iff s z).2 q2), decide_eq_true (show isU (bytesOf s) (bytesOf z) from .inr (.inl q2))]
        · rw [if_neg (fun e => q2 ((toList_iff s z).1 e)), if_pos (by omega), suffix_eq _ _ (by omega), Option.bind_some, bytesOf_append]
          congr 1
          rw [Bool.eq_iff_iff, decide_eq_true_eq, decide_eq_true_eq]
          unfold isU
          have e : bytesOf ⟨#[46]⟩ ++ bytesOf z = 46 :: bytesOf z := rfl
          rw [e]
          constructor
          · exact fun h => .inr (.inr h)
          · rintro (h | h | h)
            · exact absurd h hn
            · exact absurd h q2
            · exact h
theorem cutL_sum : ∀ l : List Int, ((cutL l).map (fun p => p.length + 1)).sum = l.length + 1
  | [] => rfl
  | b :: l => by
    have ih := cutL_sum l
    by_cases hb : b = 46
    · subst hb
      rw [cutL_point, List.map_cons, List.sum_cons, ih]
      simp only [List.length_nil, List.length_cons]
      omega
    · rw [cutL_other _ _ hb]
      cases hc : cutL l with
      | nil => exact absurd hc (cutL_ne l)
      | cons q qs =>
        rw [hc] at ih
        simp only [glue, List.map_cons, List.sum_cons, List.length_cons, List.length_append, List.length_nil] at ih ⊢
        omega
theorem label_sum : ∀ L : List (List Int), L.all labelB = true → (L.map (fun p => p.length + 1)).sum ≤ 9 * L.length
  | [] => fun _ => Nat.zero_le _
  | p :: L => fun h => by
    rw [List.all_cons, Bool.and_eq_true] at h
    have ih := label_sum L h.2
    have h1 := h.1
    unfold labelB at h1
    rw [Bool.and_eq_true, decide_eq_true_eq] at h1
    simp only [List.map_cons, List.sum_cons, List.length_cons]
    omega
/-- a name that may be is short. -/
theorem name_short (l : List Int) (h : nameB l = true) : l.length ≤ 72 := by
  unfold nameB at h
  rw [Bool.or_eq_true, Bool.and_eq_true, decide_eq_true_eq, decide_eq_true_eq] at h
  rcases h with h | ⟨h1, h2⟩
  · rw [h]
    exact Nat.zero_le _
  · have := label_sum _ h1
    rw [cutL_sum] at this
    omega
theorem count_index : ∀ L : List UInt8, (Lib.indexByte L 46 = -1 ∧ L.count 46 = 0) ∨ (∃ i : Nat, Lib.indexByte L 46 = i ∧ L.count 46 = (L.drop (i + 1)).count 46 + 1)
  | [] => .inl ⟨rfl, rfl⟩
  | b :: L => by
    by_cases hb : b = 46
    · subst hb
      exact .inr ⟨0, by simp [Lib.indexByte], by simp⟩
    · have hne : (b == 46) = false := by simpa using hb
      have hc : (b :: L).count 46 = L.count 46 := List.count_cons_of_ne hb
      rcases count_index L with ⟨h, h2⟩ | ⟨i, h, h2⟩
      · exact .inl ⟨by simp [Lib.indexByte, hne, h], by rw [hc, h2]⟩
      · refine .inr ⟨i + 1, ?_, by rw [hc, h2]; rfl⟩
        have h4 : ((i : Int) == -1) = false := by
          rw [beq_eq_false_iff_ne]
          omega
        simp [Lib.indexByte, hne, h, h4]
theorem data_drop (s : ByteArray) (i : Nat) : (s.extract i s.size).data.toList = s.data.toList.drop i := by
  rw [ByteArray.data_extract, Array.toList_extract, List.extract_eq_take_drop, List.take_of_length_le (by rw [List.length_drop, data_length]; exact Nat.le_refl _)]
theorem cut_map (m : Nat) : ∀ s : ByteArray, s.data.toList.count 46 = m → (strings_genSplit.cut m s).map bytesOf = cutL (bytesOf s) := by
  induction m with
  | zero =>
    intro s h
    rcases count_index s.data.toList with ⟨h1, _⟩ | ⟨i, _, h2⟩
    · rcases cut_index s.data.toList with ⟨_, h4⟩ | ⟨h3, _, _⟩
      · exact h4.symm
      · omega
    · omega
  | succ m ih =>
    intro s h
    rcases count_index s.data.toList with ⟨_, h2⟩ | ⟨i, h1, h2⟩
    · omega
    · rcases cut_index s.data.toList with ⟨h3, _⟩ | ⟨_, h3, h4⟩
      · omega
      · rw [h1, Int.toNat_natCast] at h4
        have h5 : cutL (bytesOf s) = (bytesOf s).take i :: cutL ((bytesOf s).drop (i + 1)) := h4
        have e1 : bytesOf (s.extract 0 i) = (bytesOf s).take i := by rw [bytesOf_extract, List.drop_zero, Nat.sub_zero]
        have e2 : bytesOf (s.extract (i + 1) s.size) = (bytesOf s).drop (i + 1) := by
          rw [bytesOf_extract, List.take_of_length_le (by rw [List.length_drop, bytesOf_length]; exact Nat.le_refl _)]
        rw [strings_genSplit.cut_hit m s i h1, List.map_cons, ih _ (by rw [data_drop]; omega), h5, e1, e2]
/-- the points and the texts behind them. -/
def pts (L : List (List Int)) : List Int := L.flatMap fun p => 46 :: p
theorem pts_cons (p : List Int) (L : List (List Int)) : pts (p :: L) = 46 :: (p ++ pts L) := by simp [pts]
theorem join_cut : ∀ l : List Int, ∃ q qs, cutL l = q :: qs ∧ q ++ pts qs = l
  | [] => ⟨[], [], rfl, rfl⟩
  | b :: l => by
    obtain ⟨q, qs, h1, h2⟩ := join_cut l
    by_cases hb : b = 46
    · subst hb
      exact ⟨[], cutL l, cutL_point l, by rw [h1, pts_cons, List.nil_append, h2]⟩
    · exact ⟨b :: q, qs, by rw [cutL_other b l hb, h1]; rfl, by rw [List.cons_append, h2]⟩
theorem cutL_letters : ∀ l : List Int, l.all letterB = true → cutL l = [l]
  | [] => fun _ => rfl
  | b :: l => fun h => by
    rw [List.all_cons, Bool.and_eq_true] at h
    have hb : b ≠ 46 := by
      intro e
      rw [e] at h
      exact absurd h.1 (by decide)
    rw [cutL_other b l hb, cutL_letters l h.2]
    rfl
theorem label_name (p : List Int) (h : labelB p = true) : nameB p = true := by
  have h2 := h
  unfold labelB at h
  rw [Bool.and_eq_true] at h
  unfold nameB
  rw [cutL_letters p h.1]
  simp [h2]
theorem labels_none (k : Nat) (s : ByteArray) (hs : s.size ≤ 140737488351232) (hk : s.size + 2 ≤ k) (h : nameB (bytesOf s) = false) : name_Labels.f k s = some [] := by
  unfold name_Labels.f
  by_cases q : s.toList = ([] : List UInt8)
  · rw [if_pos q]
  · rw [if_neg q, name_eq k s hs hk, h]
    rfl
theorem labels_some (k : Nat) (s : ByteArray) (hs : s.size ≤ 140737488351232) (hk : s.size + 2 ≤ k) (h : nameB (bytesOf s) = true) (hz : s.size ≠ 0) :
    ∃ r, name_Labels.f k s = some r ∧ r.map bytesOf = cutL (bytesOf s) := by
  have hsh := name_short _ h
  rw [bytesOf_length] at hsh
  refine ⟨_, ?_, cut_map (s.data.toList.count 46) s rfl⟩
  unfold name_Labels.f
  rw [if_neg (fun e => hz ((toList_nil s).1 e)), name_eq k s hs hk, h, Option.bind_some, if_pos rfl]
  have e : strings_Split.f s ⟨#[46]⟩ = some (strings_genSplit.cut (s.data.toList.count 46) s) := by
    unfold strings_Split.f strings_genSplit.f
    rw [if_pos ⟨rfl, rfl, rfl, by omega⟩]
    rfl
  rw [e]
  rfl
theorem labels_nil (k : Nat) (s : ByteArray) (hz : s.size = 0) : name_Labels.f k s = some [] := by
  unfold name_Labels.f
  rw [if_pos ((toList_nil s).2 hz)]
theorem name_parts (s : ByteArray) (h : nameB (bytesOf s) = true) (hz : s.size ≠ 0) : (cutL (bytesOf s)).all labelB = true ∧ (cutL (bytesOf s)).length ≤ 8 := by
  unfold nameB at h
  rw [Bool.or_eq_true, Bool.and_eq_true, decide_eq_true_eq, decide_eq_true_eq] at h
  rcases h with h | h
  · exact absurd (by rw [← bytesOf_length, h]; rfl) hz
  · exact h
theorem rdOf_get (r : List ByteArray) (i : Nat) (h : i < r.length) : rdOf ByteArray.empty r (i : Int) = r[i] := by
  unfold rdOf
  rw [Int.toNat_natCast, List.getD_eq_getElem?_getD, List.getElem?_eq_getElem h]
  rfl
theorem isU_short (s a b : List Int) (h1 : isU s a) (h2 : isU s b) (hl : b.length ≤ a.length) : isU a b := by
  rcases h2 with h | h | h
  · exact .inl h
  · subst h
    rcases h1 with q | q | q
    · subst q
      exact .inl (List.length_eq_zero_iff.1 (Nat.le_zero.1 hl))
    · exact .inr (.inl q.symm)
    · have := q.length_le
      rw [List.length_cons] at this
      omega
  · rcases h1 with q | q | q
    · subst q
      exact .inl (List.length_eq_zero_iff.1 (Nat.le_zero.1 hl))
    · subst q
      exact .inr (.inr h)
    · have ha : a <:+ s := (List.suffix_cons 46 a).trans q
      by_cases he : a.length = b.length
      · have h3 := List.suffix_of_suffix_length_le q h (by rw [List.length_cons, List.length_cons]; omega)
        have e := h3.eq_of_length (by rw [List.length_cons, List.length_cons]; omega)
        injection e with _ e
        exact .inr (.inl e)
      · exact .inr (.inr (List.suffix_of_suffix_length_le h ha (by rw [List.length_cons]; omega)))
theorem isU_le (a b : List Int) (h : isU a b) : b = [] ∨ a = b ∨ b.length < a.length := by
  rcases h with h | h | h
  · exact .inl h
  · exact .inr (.inl h)
  · have := h.length_le
    rw [List.length_cons] at this
    exact .inr (.inr this)
theorem isU_both (a b : List Int) (h1 : isU a b) (h2 : isU b a) : a = b := by
  have z : ∀ l : List Int, l = [] ↔ l.length = 0 := fun l => List.length_eq_zero_iff.symm
  rcases isU_le a b h1 with q | q | q
  · subst q
    rcases isU_le [] a h2 with q | q | q
    · exact q
    · exact q.symm
    · rw [List.length_nil] at q
      omega
  · exact q
  · rcases isU_le b a h2 with q2 | q2 | q2
    · subst q2
      rw [List.length_nil] at q
      omega
    · exact q2.symm
    · omega
/-- labels, with points between them. -/
def joinL : List (List Int) → List Int
  | [] => []
  | q :: qs => q ++ pts qs
theorem joinL_cons (p : List Int) (L : List (List Int)) (h : L ≠ []) : joinL (p :: L) = p ++ 46 :: joinL L := by
  cases L with
  | nil => exact absurd rfl h
  | cons q qs => rw [joinL, pts_cons, joinL]
theorem cutL_app : ∀ (p X : List Int), p.all letterB = true → cutL (p ++ 46 :: X) = p :: cutL X
  | [], X => fun _ => cutL_point X
  | b :: p, X => fun h => by
    rw [List.all_cons, Bool.and_eq_true] at h
    have hb : b ≠ 46 := by
      intro e
      rw [e] at h
      exact absurd h.1 (by decide)
    rw [List.cons_append, cutL_other _ _ hb, cutL_app p X h.2]
    rfl
theorem label_letters (p : List Int) (h : labelB p = true) : p.all letterB = true := by
  unfold labelB at h
  rw [Bool.and_eq_true] at h
  exact h.1
theorem cutL_join : ∀ L : List (List Int), L ≠ [] → L.all labelB = true → cutL (joinL L) = L
  | [] => fun h _ => absurd rfl h
  | [p] => fun _ h => by
    rw [List.all_cons, Bool.and_eq_true] at h
    have e : joinL [p] = p := by simp [joinL, pts]
    rw [e, cutL_letters p (label_letters p h.1)]
  | p :: q :: L => fun _ h => by
    rw [List.all_cons, Bool.and_eq_true] at h
    rw [joinL_cons p (q :: L) (by simp), cutL_app _ _ (label_letters p h.1), cutL_join (q :: L) (by simp) h.2]
theorem join_name (L : List (List Int)) (h0 : L ≠ []) (h : L.all labelB = true) (h8 : L.length ≤ 8) : nameB (joinL L) = true := by
  unfold nameB
  rw [cutL_join L h0 h, h, decide_eq_true h8]
  simp
theorem join_suffix : ∀ (L : List (List Int)) (m : Nat), 0 < m → m < L.length → (46 :: joinL (L.drop m)) <:+ joinL L
  | [], m => fun _ h => absurd h (Nat.not_lt_zero _)
  | p :: L, 0 => fun h _ => absurd h (Nat.lt_irrefl _)
  | p :: L, 1 => fun _ h => by
    have hL : L ≠ [] := by
      intro e
      rw [e] at h
      simp at h
    rw [joinL_cons p L hL]
    exact ⟨p, rfl⟩
  | p :: L, m + 2 => fun _ h => by
    rw [List.length_cons] at h
    have hL : L ≠ [] := by
      intro e
      rw [e, List.length_nil] at h
      omega
    have ih := join_suffix L (m + 1) (by omega) (by omega)
    rw [joinL_cons p L hL]
    exact ih.trans ((List.suffix_cons 46 _).trans ⟨p, rfl⟩)
theorem join_letters (L : List (List Int)) (h : L.all labelB = true) : ∀ x ∈ joinL L, x = 46 ∨ letterB x = true := by
  have hp : ∀ L : List (List Int), L.all labelB = true → ∀ x ∈ pts L, x = 46 ∨ letterB x = true := by
    intro L
    induction L with
    | nil => intro _ x hx; cases hx
    | cons p L ih =>
      intro h x hx
      rw [List.all_cons, Bool.and_eq_true] at h
      rw [pts_cons, List.mem_cons, List.mem_append] at hx
      rcases hx with hx | hx | hx
      · exact .inl hx
      · exact .inr (List.all_eq_true.1 (label_letters p h.1) x hx)
      · exact ih h.2 x hx
  cases L with
  | nil => intro x hx; cases hx
  | cons p L =>
    intro x hx
    rw [List.all_cons, Bool.and_eq_true] at h
    rw [joinL, List.mem_append] at hx
    rcases hx with hx | hx
    · exact .inr (List.all_eq_true.1 (label_letters p h.1) x hx)
    · exact hp L h.2 x hx
theorem isU_trans (a b c : List Int) (h1 : isU a b) (h2 : isU b c) : isU a c := by
  rcases h2 with q | q | q
  · exact .inl q
  · subst q
    exact h1
  · rcases h1 with r | r | r
    · subst r
      have := q.length_le
      simp at this
    · subst r
      exact .inr (.inr q)
    · exact .inr (.inr (q.trans ((List.suffix_cons 46 b).trans r)))
theorem fold_name (a : ByteArray) (L : List (List Int)) (hL : L.all labelB = true) (hj : joinL L = bytesOf a) (hs : a.size ≤ 140737488351232) : ∃ F, name_Fold.f a = some F ∧ bytesOf F = bytesOf a := by
  refine ⟨_, by unfold name_Fold.f; rw [if_pos hs], ?_⟩
  have e : (bytesOf a).map name_Fold.byte = bytesOf a := by
    conv => rhs; rw [← List.map_id (bytesOf a)]
    apply List.map_congr_left
    intro x hx
    rw [← hj] at hx
    have := join_letters L hL x hx
    unfold letterB at this
    rw [decide_eq_true_eq] at this
    unfold name_Fold.byte
    rw [if_neg (by omega)]
    rfl
  rw [e, bytesOf_strOf _ (bytes_range a)]
theorem under_loop (a b c : ByteArray) (r : List ByteArray) (hall : (r.map bytesOf).all labelB = true) (h8 : r.length ≤ 8) (hj : joinL (r.map bytesOf) = bytesOf a) (ha : nameB (bytesOf a) = true) (hb : nameB (bytesOf b) = true) (hc : nameB (bytesOf c) = true) (m : Nat) : ∀ (k : Nat) (up : ByteArray), m ≤ r.length → 2 * m + 300 ≤ k → bytesOf up = joinL ((r.map bytesOf).drop m) →
    pinfoldlaw2_NameUnder.l0 k a b c r up ((m : Int) - 1) = some true := by
  have sa : a.size ≤ 72 := by have := name_short _ ha; rwa [bytesOf_length] at this
  have sb : b.size ≤ 72 := by have := name_short _ hb; rwa [bytesOf_length] at this
  have sc : c.size ≤ 72 := by have := name_short _ hc; rwa [bytesOf_length] at this
  induction m with
  | zero =>
    intro k up hm hk hu
    obtain ⟨k, rfl⟩ : ∃ j, k = j + 1 := ⟨k - 1, by omega⟩
    rw [List.drop_zero, hj] at hu
    obtain ⟨F, hF, hFb⟩ := fold_name a _ hall hj (by omega)
    rw [pinfoldlaw2_NameUnder.l0, if_neg (by omega), if_pos ((toList_iff up a).2 hu), under_eq k a a (by omega) (by omega) (by omega) (by omega), under_eq k a ⟨#[]⟩ (by omega) (by decide) (by omega) (by show 2 ≤ k; omega), under_eq k a b (by omega) (by omega) (by omega) (by omega), under_eq k b c (by omega) (by omega) (by omega) (by omega), under_eq k a c (by omega) (by omega) (by omega) (by omega), hF]
    have u1 : underB (bytesOf a) (bytesOf a) = true := by
      unfold underB
      rw [ha, decide_eq_true (show isU (bytesOf a) (bytesOf a) from .inr (.inl rfl))]
      rfl
    have u2 : underB (bytesOf a) (bytesOf ⟨#[]⟩) = true := by
      unfold underB
      rw [ha, decide_eq_true (show isU (bytesOf a) (bytesOf ⟨#[]⟩) from .inl rfl)]
      rfl
    rw [u1, u2]
    simp only [Option.bind_some, if_true]
    rw [if_pos ((toList_iff F a).2 hFb)]
    have ue : ∀ x y : ByteArray, nameB (bytesOf x) = true → nameB (bytesOf y) = true → underB (bytesOf x) (bytesOf y) = decide (isU (bytesOf x) (bytesOf y)) := by
      intro x y hx hy
      unfold underB
      rw [hx, hy]
      rfl
    rw [ue a b ha hb, ue b c hb hc, ue a c ha hc]
    by_cases q1 : isU (bytesOf a) (bytesOf b)
    · rw [decide_eq_true q1, if_pos rfl]
      by_cases q2 : isU (bytesOf b) (bytesOf c)
      · rw [decide_eq_true q2, if_pos rfl, decide_eq_true (isU_trans _ _ _ q1 q2)]
      · rw [decide_eq_false q2]
        rfl
    · rw [decide_eq_false q1]
      rfl
  | succ m ih =>
    intro k up hm hk hu
    obtain ⟨k, rfl⟩ : ∃ j, k = j + 2 := ⟨k - 2, by omega⟩
    have hil : m < r.length := by omega
    have hml : (r.map bytesOf).drop m = bytesOf r[m] :: (r.map bytesOf).drop (m + 1) := by
      rw [List.drop_eq_getElem_cons (by rw [List.length_map]; exact hil), List.getElem_map]
    have hlab : ∀ x ∈ r, labelB (bytesOf x) = true := fun x hx => List.all_eq_true.1 hall _ (List.mem_map_of_mem hx)
    have hx1 := hlab r[m] (List.getElem_mem hil)
    have hx2 := hx1
    unfold labelB at hx2
    rw [Bool.and_eq_true, decide_eq_true_eq, bytesOf_length] at hx2
    have hdall : ((r.map bytesOf).drop m).all labelB = true := by
      rw [List.all_eq_true] at hall ⊢
      exact fun x hx => hall x (List.mem_of_mem_drop hx)
    have hname : nameB (joinL ((r.map bytesOf).drop m)) = true := join_name _ (by rw [hml]; simp) hdall (by rw [List.length_drop, List.length_map]; omega)
    have hsh := name_short _ hname
    have hsuf : isU (bytesOf a) (joinL ((r.map bytesOf).drop m)) := by
      rw [← hj]
      by_cases h0 : m = 0
      · subst h0
        rw [List.drop_zero]
        exact .inr (.inl rfl)
      · exact .inr (.inr (join_suffix _ m (by omega) (by rw [List.length_map]; exact hil)))
    -- the round, with the new text
    have hround : ∀ t : ByteArray, bytesOf t = joinL ((r.map bytesOf).drop m) → pinfoldlaw2_NameUnder.j2 (k + 1) a b c r t (m : Int) = some true := by
      intro t ht
      have hts : t.size ≤ 72 := by rw [← bytesOf_length, ht]; exact hsh
      have hrec := ih k t (by omega) (by omega) ht
      rw [pinfoldlaw2_NameUnder.j2, under_eq k a t (by omega) (by omega) (by omega) (by omega), under_eq k t a (by omega) (by omega) (by omega) (by omega), w64 (by omega), hrec, ht]
      have u1 : underB (bytesOf a) (joinL ((r.map bytesOf).drop m)) = true := by
        unfold underB
        rw [ha, hname, decide_eq_true hsuf]
        rfl
      rw [u1]
      simp only [Option.bind_some, if_true]
      by_cases q : t.toList = a.toList
      · rw [if_pos q]
      · rw [if_neg q]
        have u2 : underB (joinL ((r.map bytesOf).drop m)) (bytesOf a) = false := by
          cases hv : underB (joinL ((r.map bytesOf).drop m)) (bytesOf a) with
          | false => rfl
          | true =>
            unfold underB at hv
            rw [Bool.and_eq_true, decide_eq_true_eq] at hv
            have := isU_both _ _ hsuf hv.2
            exact absurd ((toList_iff t a).2 (by rw [ht, this])) q
        rw [u2]
        rfl
    rw [show ((m + 1 : Nat) : Int) - 1 = (m : Int) by omega, pinfoldlaw2_NameUnder.l0, if_pos (by omega), rdOf_get r m hil]
    by_cases hlast : m + 1 = r.length
    · have hnil : (r.map bytesOf).drop (m + 1) = [] := List.drop_eq_nil_of_le (by rw [List.length_map]; omega)
      rw [hnil] at hu hml
      have hup : bytesOf up = [] := hu
      have hz : up.toList = ([] : List UInt8) := (toList_nil up).2 (by rw [← bytesOf_length, hup]; rfl)
      rw [if_pos hz, if_pos (by omega), if_pos (by omega)]
      refine hround _ ?_
      rw [hml]
      simp [joinL, pts]
    · have hne : (r.map bytesOf).drop (m + 1) ≠ [] := by
        intro e
        have := congrArg List.length e
        rw [List.length_drop, List.length_map, List.length_nil] at this
        omega
      have hupn : up.size ≠ 0 := by
        intro e
        have h1 : bytesOf up = [] := List.length_eq_zero_iff.1 (by rw [bytesOf_length]; exact e)
        rw [h1] at hu
        have hil2 : m + 1 < r.length := by omega
        have hx3 := hlab r[m + 1] (List.getElem_mem hil2)
        unfold labelB at hx3
        rw [Bool.and_eq_true, decide_eq_true_eq] at hx3
        rw [List.drop_eq_getElem_cons (by rw [List.length_map]; exact hil2), List.getElem_map, joinL] at hu
        have := congrArg List.length hu
        rw [List.length_append, List.length_nil] at this
        omega
      have hups : up.size ≤ 72 := by
        have h1 : nameB (joinL ((r.map bytesOf).drop (m + 1))) = true := join_name _ hne (by
          rw [List.all_eq_true] at hall ⊢
          exact fun x hx => hall x (List.mem_of_mem_drop hx)) (by rw [List.length_drop, List.length_map]; omega)
        have := name_short _ h1
        rwa [← hu, bytesOf_length] at this
      have hz2 : (r[m] ++ (⟨#[46]⟩ : ByteArray)).size = r[m].size + 1 := by rw [ByteArray.size_append]; rfl
      rw [if_neg (fun e => hupn ((toList_nil up).1 e)), if_pos (by omega), if_pos (by omega), if_pos (by omega), if_pos (by omega)]
      refine hround _ ?_
      rw [hml, joinL_cons _ _ hne, bytesOf_append, bytesOf_append, hu, List.append_assoc]
      rfl
/-- a name is under itself, its parents, the root, and what is under something is under what that is under: for any texts. -/
theorem NameUnder : pinfoldlaw2_NameUnder.Pure := by
  intro a b c sa sb sc
  obtain ⟨k, hk⟩ : ∃ k, a.size + b.size + c.size + 400 = k := ⟨_, rfl⟩
  refine ⟨k + 1 + 30, ?_⟩
  unfold pinfoldlaw2_NameUnder.f
  rw [awake_eq (k + 1), name_eq (k + 1 + 30) a sa (by omega), name_eq (k + 1 + 30) b sb (by omega), name_eq (k + 1 + 30) c sc (by omega)]
  have hbad : (nameB (bytesOf a) && nameB (bytesOf b) && nameB (bytesOf c)) = false → pinfoldlaw2_NameUnder.j0 (k + 30 + 1) a b c true = some true := by
    intro _
    rw [pinfoldlaw2_NameUnder.j0, if_pos rfl, under_eq (k + 30) a b sa sb (by omega) (by omega), name_eq (k + 30) a sa (by omega), name_eq (k + 30) b sb (by omega)]
    simp only [Option.bind_some]
    cases hu : underB (bytesOf a) (bytesOf b) with
    | false => rfl
    | true =>
      unfold underB at hu
      rw [Bool.and_eq_true, Bool.and_eq_true] at hu
      rw [hu.1.1, hu.1.2]
      rfl
  have hj : ∀ x, pinfoldlaw2_NameUnder.j0 (k + 1 + 30) a b c x = pinfoldlaw2_NameUnder.j0 (k + 30 + 1) a b c x := fun x => by rw [show k + 1 + 30 = k + 30 + 1 by omega]
  simp only [Option.bind_some, if_true, hj]
  cases ha : nameB (bytesOf a) with
  | false =>
    rw [if_neg (by decide)]
    exact hbad (by rw [ha]; rfl)
  | true =>
    rw [if_pos rfl]
    cases hb : nameB (bytesOf b) with
    | false =>
      rw [if_neg (by decide)]
      exact hbad (by rw [hb]; simp)
    | true =>
      rw [if_pos rfl]
      cases hc : nameB (bytesOf c) with
      | false => exact hbad (by rw [hc]; simp)
      | true =>
        rw [Bool.not_true, pinfoldlaw2_NameUnder.j0, if_neg (by decide)]
        by_cases hz : a.size = 0
        · rw [labels_nil (k + 30) a hz, Option.bind_some, w64 (by simp)]
          have hn : bytesOf a = [] := List.length_eq_zero_iff.1 (by rw [bytesOf_length]; exact hz)
          have := under_loop a b c [] rfl (by simp) (by rw [hn]; rfl) ha hb hc 0 (k + 30) ⟨#[]⟩ (by simp) (by omega) rfl
          exact this
        · obtain ⟨r, h1, h2⟩ := labels_some (k + 30) a sa (by omega) ha hz
          obtain ⟨p1, p2⟩ := name_parts a ha hz
          have hl : r.length = (cutL (bytesOf a)).length := by rw [← h2, List.length_map]
          rw [h1, Option.bind_some, w64 (by omega)]
          refine under_loop a b c r (by rw [h2]; exact p1) (by omega) ?_ ha hb hc r.length (k + 30) ⟨#[]⟩ (Nat.le_refl _) (by omega) ?_
          · rw [h2]
            obtain ⟨q, qs, e1, e2⟩ := join_cut (bytesOf a)
            rw [e1]
            exact e2
          · rw [List.drop_eq_nil_of_le (by rw [List.length_map]; exact Nat.le_refl _)]
            rfl

end Go.Proofs.YtfkgfjllgiblhaaDoor.Pure
