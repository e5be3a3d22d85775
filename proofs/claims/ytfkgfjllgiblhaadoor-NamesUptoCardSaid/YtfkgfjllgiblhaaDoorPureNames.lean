/- Names: any texts: what the program says of names is what the document says. No condition. -/
import Derived.Test.YtfkgfjllgiblhaaDoorPNamesx4
namespace Go.Proofs.YtfkgfjllgiblhaaDoor.Pure
open Go.RowKit Go.Proofs.YtfkgfjllgiblhaaDoor.PNames Go.Proofs.YtfkgfjllgiblhaaDoorW.PrintWords Go.Proofs.YtfkgfjllgiblhaaDoorW.PrintLast
set_option linter.unusedSimpArgs false
set_option linter.unusedVariables false

/-- the bounds of an int. -/
theorem int_bd {a : Int} (h : (Lit.int .i64 a).wf = true) : -9223372036854775808 ≤ a ∧ a ≤ 9223372036854775807 := by
  simp only [Lit.wf, IntKind.min, IntKind.max, IntKind.signed, IntKind.bits, Bool.and_eq_true, decide_eq_true_eq, if_true] at h
  omega
theorem u64_eq (a : Int) : IntKind.u64.wrap a = a % 18446744073709551616 := by simp [IntKind.wrap, IntKind.bits, IntKind.signed]
theorem w64 {a : Int} (h : -9223372036854775808 ≤ a ∧ a ≤ 9223372036854775807) : wrap64 a = a := by unfold wrap64; omega
/-- the low bits of any int. -/
theorem and_mask (a : Int) (i : Nat) (hi : i ≤ 62) : Go.bits .and .i64 a ((2 ^ i - 1 : Nat) : Int) = a % ((2 ^ i : Nat) : Int) := by
  have hp : 0 < 2 ^ i := Nat.two_pow_pos i
  have hl : 2 ^ i ≤ 2 ^ 62 := Nat.pow_le_pow_right (by decide) hi
  show IntKind.wrap .i64 (((BitVec.ofInt 64 a &&& BitVec.ofInt 64 ((2 ^ i - 1 : Nat) : Int)).toNat : Nat) : Int) = _
  have e : (((BitVec.ofInt 64 a &&& BitVec.ofInt 64 ((2 ^ i - 1 : Nat) : Int)).toNat : Nat) : Int) = a % ((2 ^ i : Nat) : Int) := by
    rw [BitVec.toNat_and, BitVec.ofInt_natCast, BitVec.toNat_ofNat, Nat.mod_eq_of_lt (show 2 ^ i - 1 < 2 ^ 64 by omega), Nat.and_two_pow_sub_one_eq_mod, BitVec.toNat_ofInt]
    rw [Int.natCast_emod, Int.toNat_of_nonneg (Int.emod_nonneg _ (by decide))]
    exact Int.emod_emod_of_dvd a (by
      rw [Int.natCast_dvd_natCast]
      exact Nat.pow_dvd_pow 2 (by omega))
  rw [e, IntKind.wrap_i64]
  have h0 := Int.emod_nonneg a (show ((2 ^ i : Nat) : Int) ≠ 0 by omega)
  have h1 := Int.emod_lt_of_pos a (show 0 < ((2 ^ i : Nat) : Int) by omega)
  omega
theorem and_1023 (a : Int) : Go.bits .and .i64 a 1023 = a % 1024 := and_mask a 10 (by decide)
theorem and_63 (a : Int) : Go.bits .and .i64 a 63 = a % 64 := and_mask a 6 (by decide)
theorem and_255 (a : Int) : Go.bits .and .i64 a 255 = a % 256 := and_mask a 8 (by decide)
theorem and_65535 (a : Int) : Go.bits .and .i64 a 65535 = a % 65536 := and_mask a 16 (by decide)
theorem and_u32 (a : Int) : Go.bits .and .i64 a 4294967295 = a % 4294967296 := and_mask a 32 (by decide)
theorem wraps_i64 (n : Int) (h0 : 0 ≤ n) (h1 : n < 2 ^ 63) : IntKind.i64.wrap n = n := by rw [IntKind.wrap_i64]; omega
theorem or_byte (x b : Int) (hx : 0 ≤ x ∧ x < 281474976710656) (hb : 0 ≤ b ∧ b < 256) : Go.bits .or .i64 (wrap64 (x * 256)) b = x * 256 + b := by
  rw [w64 (by omega)]
  exact bits_join .i64 63 (by decide) wraps_i64 8 (x * 256) b (by omega) (by omega) (by omega) hb.1 (by omega) (by omega)
theorem num_eq (a : Int) : pinfoldlaw0_Num.f a = some a := rfl
theorem bt_bd (s : ByteArray) (i : Int) : 0 ≤ bt s i ∧ bt s i < 256 := by have := bt_range s i; omega
theorem toList_nil (s : ByteArray) : s.toList = ([] : List UInt8) ↔ s.size = 0 := by
  rw [ByteArray.toList_eq, ← data_length, List.length_eq_zero_iff]
theorem drop_cons (s : ByteArray) (i : Nat) (h : i < s.size) : (bytesOf s).drop i = bt s i :: (bytesOf s).drop (i + 1) := by
  have hl : i < (bytesOf s).length := by rw [bytesOf_length]; exact h
  rw [List.drop_eq_getElem_cons hl, ← rd_bytesOf]
  unfold rd
  rw [Int.toNat_natCast, List.getD_eq_getElem?_getD, List.getElem?_eq_getElem hl]
  rfl
theorem drop_end (s : ByteArray) (i : Nat) (h : s.size ≤ i) : (bytesOf s).drop i = [] := List.drop_eq_nil_of_le (by rw [bytesOf_length]; exact h)
theorem bytesOf_extract (s : ByteArray) (a b : Nat) : bytesOf (s.extract a b) = ((bytesOf s).drop a).take (b - a) := by
  unfold bytesOf
  rw [ByteArray.data_extract, Array.toList_extract, List.extract_eq_take_drop, List.map_take, List.map_drop]

/-- may a label have such a byte. -/
def letterB (b : Int) : Bool := decide ((97 ≤ b ∧ b ≤ 122) ∨ (48 ≤ b ∧ b ≤ 57) ∨ b = 45)
/-- may a label be so. -/
def labelB (l : List Int) : Bool := l.all letterB && decide (1 ≤ l.length ∧ l.length ≤ 8)
/-- a text, cut at its points. -/
def glue (p : List Int) : List (List Int) → List (List Int)
  | [] => [p]
  | q :: qs => (p ++ q) :: qs
def cutL : List Int → List (List Int)
  | [] => [[]]
  | b :: l => if b = 46 then [] :: cutL l else glue [b] (cutL l)
/-- may a name be so. -/
def nameB (l : List Int) : Bool := decide (l = []) || ((cutL l).all labelB && decide ((cutL l).length ≤ 8))

theorem cutL_ne : ∀ l, cutL l ≠ []
  | [] => by simp [cutL]
  | b :: l => by
    unfold cutL
    split
    · simp
    · cases cutL l <;> simp [glue]
theorem glue_nil (l : List (List Int)) (h : l ≠ []) : glue [] l = l := by
  cases l with
  | nil => exact absurd rfl h
  | cons q qs => simp [glue]
theorem glue_glue (p q : List Int) (l : List (List Int)) : glue p (glue q l) = glue (p ++ q) l := by
  cases l <;> simp [glue]
theorem cutL_point (l : List Int) : cutL (46 :: l) = [] :: cutL l := by rw [cutL, if_pos rfl]
theorem cutL_other (b : Int) (l : List Int) (h : b ≠ 46) : cutL (b :: l) = glue [b] (cutL l) := by rw [cutL, if_neg h]

theorem letter_eq (b : Int) : name_letter.f b = some (letterB b) := by
  have e : ∀ x : Bool, (x = true ↔ ((97 ≤ b ∧ b ≤ 122) ∨ (48 ≤ b ∧ b ≤ 57) ∨ b = 45)) → some x = some (letterB b) := by
    intro x hx
    congr 1
    rw [Bool.eq_iff_iff, hx]
    simp only [letterB, decide_eq_true_eq]
  unfold name_letter.f
  repeat' split
  all_goals apply e
  all_goals simp only [beq_iff_eq, true_iff]
  all_goals omega

theorem label_loop (s : ByteArray) (hs : s.size ≤ 4611686018427387904) (d : Nat) : ∀ (k i : Nat), i + d = s.size → d < k →
    name_Label.l0 k s (s.size : Int) (i : Int) = some (((bytesOf s).drop i).all letterB && decide (1 ≤ s.size ∧ s.size ≤ 8)) := by
  induction d with
  | zero =>
    intro k i hi hk
    obtain ⟨k, rfl⟩ : ∃ m, k = m + 1 := ⟨k - 1, by omega⟩
    rw [name_Label.l0, if_neg (by omega), drop_end s i (by omega)]
    simp only [List.all_nil, Bool.true_and]
    split
    · congr 1
      rw [Bool.eq_iff_iff]
      simp only [decide_eq_true_eq]
      omega
    · congr 1
      symm
      rw [decide_eq_false_iff_not]
      omega
  | succ d ih =>
    intro k i hi hk
    obtain ⟨k, rfl⟩ : ∃ m, k = m + 1 := ⟨k - 1, by omega⟩
    rw [name_Label.l0, if_pos (by omega), if_pos (by omega), if_pos (by omega), letter_eq, drop_cons s i (by omega)]
    simp only [Option.bind_some, List.all_cons]
    cases letterB (bt s i) with
    | true =>
      rw [if_pos rfl, w64 (by omega)]
      have := ih k (i + 1) (by omega) (by omega)
      rw [show ((i : Int) + 1) = ((i + 1 : Nat) : Int) by omega, this]
      simp
    | false => simp
theorem label_eq (k : Nat) (s : ByteArray) (hs : s.size ≤ 4611686018427387904) (hk : s.size < k) : name_Label.f k s = some (labelB (bytesOf s)) := by
  unfold name_Label.f
  have := label_loop s hs s.size k 0 (by omega) hk
  rw [show ((0 : Nat) : Int) = 0 by rfl] at this
  rw [this]
  unfold labelB
  rw [List.drop_zero, bytesOf_length]

theorem cut_index : ∀ L : List UInt8, (Lib.indexByte L 46 = -1 ∧ cutL (L.map fun b => (b.toNat : Int)) = [L.map fun b => (b.toNat : Int)]) ∨
    (0 ≤ Lib.indexByte L 46 ∧ Lib.indexByte L 46 < (L.length : Int) ∧ cutL (L.map fun b => (b.toNat : Int)) = (L.map fun b => (b.toNat : Int)).take (Lib.indexByte L 46).toNat :: cutL ((L.map fun b => (b.toNat : Int)).drop ((Lib.indexByte L 46).toNat + 1)))
  | [] => .inl ⟨rfl, rfl⟩
  | b :: L => by
    have ih := cut_index L
    by_cases hb : b = 46
    · subst hb
      refine .inr ⟨by simp [Lib.indexByte], by simp [Lib.indexByte], ?_⟩
      have e : Lib.indexByte (46 :: L) 46 = 0 := by simp [Lib.indexByte]
      rw [e]
      exact cutL_point _
    · have hb2 : ((b.toNat : Nat) : Int) ≠ 46 := by
        intro h
        apply hb
        have h2 : b.toNat = 46 := by omega
        exact UInt8.toNat_inj.1 h2
      have hne : (b == 46) = false := by simpa using hb
      rcases ih with ⟨h1, h2⟩ | ⟨h1, h2, h3⟩
      · refine .inl ⟨by simp [Lib.indexByte, hne, h1], ?_⟩
        rw [List.map_cons, cutL_other _ _ hb2, h2]
        rfl
      · have e : Lib.indexByte (b :: L) 46 = Lib.indexByte L 46 + 1 := by
          have h4 : (Lib.indexByte L 46 == -1) = false := by
            rw [beq_eq_false_iff_ne]
            omega
          simp [Lib.indexByte, hne, h4]
        refine .inr ⟨by omega, by rw [e, List.length_cons]; omega, ?_⟩
        rw [e, show (Lib.indexByte L 46 + 1).toNat = (Lib.indexByte L 46).toNat + 1 by omega, List.map_cons, cutL_other _ _ hb2, h3]
        rfl

theorem may_loop (m : Nat) : ∀ (k n : Nat) (s : ByteArray), s.size ≤ m → s.size ≤ 140737488351232 → m + 2 ≤ k → n ≤ 8 →
    name_May.l0 k (n : Int) s true = some ((cutL (bytesOf s)).all labelB && decide (n + (cutL (bytesOf s)).length ≤ 8)) := by
  induction m with
  | zero =>
    intro k n s hm hs hk hn
    obtain ⟨k, rfl⟩ : ∃ j, k = j + 1 := ⟨k - 1, by omega⟩
    have hz : bytesOf s = [] := List.length_eq_zero_iff.1 (by rw [bytesOf_length]; omega)
    rw [name_May.l0, if_pos rfl]
    have hd : s.data.toList = [] := List.length_eq_zero_iff.1 (by rw [data_length]; omega)
    have hc : strings_Cut.f s ⟨#[46]⟩ = some (s, ⟨#[]⟩, false) := by
      unfold strings_Cut.f stringslite_Cut.f
      rw [if_pos ⟨rfl, hs⟩]
      unfold stringslite_Cut.v stringslite_Index.at_
      rw [hd]
      rfl
    rw [hc]
    simp only [Option.bind_some]
    rw [label_eq k s (by omega) (by omega), hz]
    simp [labelB, cutL]
  | succ m ih =>
    intro k n s hm hs hk hn
    obtain ⟨k, rfl⟩ : ∃ j, k = j + 1 := ⟨k - 1, by omega⟩
    rw [name_May.l0, if_pos rfl]
    rcases cut_index s.data.toList with ⟨h1, h2⟩ | ⟨h1, h1', h2⟩
    · have hc : strings_Cut.f s ⟨#[46]⟩ = some (s, ⟨#[]⟩, false) := by
        unfold strings_Cut.f stringslite_Cut.f
        rw [if_pos ⟨rfl, hs⟩]
        unfold stringslite_Cut.v stringslite_Index.at_
        rw [show (⟨#[46]⟩ : ByteArray).data.toList.headD 0 = 46 from rfl, h1, if_neg (by decide)]
      have h2' : cutL (bytesOf s) = [bytesOf s] := h2
      rw [hc, h2']
      simp only [Option.bind_some]
      rw [label_eq k s (by omega) (by omega)]
      simp only [Option.bind_some, List.all_cons, List.all_nil, Bool.and_true, List.length_cons, List.length_nil]
      cases labelB (bytesOf s) with
      | true =>
        rw [if_pos rfl, w64 (by omega)]
        by_cases h8 : (n : Int) + 1 > 8
        · rw [if_pos h8, decide_eq_false (by omega)]
          rfl
        · rw [if_neg h8, decide_eq_true (by omega)]
          obtain ⟨k, rfl⟩ : ∃ j, k = j + 1 := ⟨k - 1, by omega⟩
          rw [name_May.l0, if_neg (by decide)]
          rfl
      | false => simp
    · have hc : strings_Cut.f s ⟨#[46]⟩ = some (s.extract 0 (Lib.indexByte s.data.toList 46).toNat, s.extract ((Lib.indexByte s.data.toList 46).toNat + 1) s.size, true) := by
        unfold strings_Cut.f stringslite_Cut.f
        rw [if_pos ⟨rfl, hs⟩]
        unfold stringslite_Cut.v stringslite_Index.at_
        rw [show (⟨#[46]⟩ : ByteArray).data.toList.headD 0 = 46 from rfl, if_pos h1]
      have h2' : cutL (bytesOf s) = (bytesOf s).take (Lib.indexByte s.data.toList 46).toNat :: cutL ((bytesOf s).drop ((Lib.indexByte s.data.toList 46).toNat + 1)) := h2
      rw [data_length] at h1'
      obtain ⟨i, hi⟩ : ∃ i : Nat, (Lib.indexByte s.data.toList 46).toNat = i := ⟨_, rfl⟩
      rw [hi] at hc h2'
      have hil : i < s.size := by omega
      rw [hc]
      simp only [Option.bind_some]
      have e1 : bytesOf (s.extract 0 i) = (bytesOf s).take i := by rw [bytesOf_extract, List.drop_zero, Nat.sub_zero]
      have e2 : bytesOf (s.extract (i + 1) s.size) = (bytesOf s).drop (i + 1) := by
        rw [bytesOf_extract, List.take_of_length_le (by rw [List.length_drop, bytesOf_length]; omega)]
      have z1 : (s.extract 0 i).size = i := by rw [ByteArray.size_extract]; omega
      have z2 : (s.extract (i + 1) s.size).size = s.size - (i + 1) := by rw [ByteArray.size_extract]; omega
      rw [label_eq k _ (by omega) (by omega), e1, h2']
      simp only [Option.bind_some, List.all_cons, List.length_cons]
      cases labelB ((bytesOf s).take i) with
      | true =>
        rw [if_pos rfl, w64 (by omega)]
        have hp : 0 < (cutL ((bytesOf s).drop (i + 1))).length := List.length_pos_iff.2 (cutL_ne _)
        by_cases h8 : (n : Int) + 1 > 8
        · rw [if_pos h8, decide_eq_false (by omega)]
          simp
        · rw [if_neg h8, show (n : Int) + 1 = ((n + 1 : Nat) : Int) by omega, ih k (n + 1) _ (by omega) (by omega) (by omega) (by omega), e2]
          simp only [Bool.true_and]
          rw [show n + 1 + (cutL ((bytesOf s).drop (i + 1))).length = n + ((cutL ((bytesOf s).drop (i + 1))).length + 1) by omega]
      | false => simp

/-- what the program says of a name. -/
theorem name_eq (k : Nat) (s : ByteArray) (hs : s.size ≤ 140737488351232) (hk : s.size + 2 ≤ k) : name_May.f k s = some (nameB (bytesOf s)) := by
  unfold name_May.f nameB
  by_cases h : s.size = 0
  · have hz : bytesOf s = [] := List.length_eq_zero_iff.1 (by rw [bytesOf_length]; omega)
    have ht : (s.toList != ([] : List UInt8)) = false := by rw [(toList_nil s).2 h]; rfl
    obtain ⟨k, rfl⟩ : ∃ j, k = j + 1 := ⟨k - 1, by omega⟩
    rw [ht, name_May.l0, if_neg (by decide), hz]
    rfl
  · have hz : bytesOf s ≠ [] := fun e => h (by rw [← bytesOf_length, e]; rfl)
    have ht : (s.toList != ([] : List UInt8)) = true := by
      rw [bne_iff_ne]
      exact fun e => h ((toList_nil s).1 e)
    have := may_loop s.size k 0 s (Nat.le_refl _) hs hk (by omega)
    rw [show ((0 : Nat) : Int) = 0 by rfl] at this
    rw [ht, this, decide_eq_false hz, Bool.false_or, Nat.zero_add]
theorem awake_eq (n : Nat) : pinfoldlaw2_awake.f (n + 30) = some true :=
  at_rounds (g := fun k => pinfoldlaw2_awake.f k) pinfoldlaw2_awake.mono (k := 30) (by omega) (by kernel_rfl)
theorem toNat_u8 (x : Int) (h : 0 ≤ x ∧ x < 256) : ((UInt8.ofNat x.toNat).toNat : Int) = x := by
  rw [UInt8.toNat_ofNat']
  omega
theorem bytesOf_strOf : ∀ l : List Int, (∀ x ∈ l, 0 ≤ x ∧ x < 256) → bytesOf (strOfNums l) = l := by
  intro l h
  unfold bytesOf strOfNums
  simp only [List.map_map]
  induction l with
  | nil => rfl
  | cons x l ih =>
    rw [List.map_cons, ih (fun y hy => h y (List.mem_cons_of_mem _ hy))]
    congr 1
    exact toNat_u8 x (h x (List.mem_cons_self ..))
theorem bytesOf_append (s t : ByteArray) : bytesOf (s ++ t) = bytesOf s ++ bytesOf t := by
  unfold bytesOf
  rw [ByteArray.data_append, Array.toList_append, List.map_append]
theorem bytes_range (s : ByteArray) : ∀ x ∈ bytesOf s, 0 ≤ x ∧ x < 256 := by
  intro x hx
  unfold bytesOf at hx
  obtain ⟨b, _, rfl⟩ := List.mem_map.1 hx
  have := b.toNat_lt
  omega
theorem map_u8_inj : ∀ l l' : List UInt8, l.map (fun b => (b.toNat : Int)) = l'.map (fun b => (b.toNat : Int)) → l = l'
  | [], [], _ => rfl
  | [], _ :: _, h => by simp at h
  | _ :: _, [], h => by simp at h
  | a :: l, b :: l', h => by
    rw [List.map_cons, List.map_cons, List.cons.injEq] at h
    have h1 : a.toNat = b.toNat := by omega
    rw [UInt8.toNat_inj.1 h1, map_u8_inj l l' h.2]
theorem toList_iff (s t : ByteArray) : s.toList = t.toList ↔ bytesOf s = bytesOf t := by
  rw [ByteArray.toList_eq, ByteArray.toList_eq]
  constructor
  · intro h
    unfold bytesOf
    rw [h]
  · exact map_u8_inj _ _
theorem bytesOf_inj (s t : ByteArray) (h : bytesOf s = bytesOf t) : s = t := by
  have h1 := (toList_iff s t).2 h
  rw [ByteArray.toList_eq, ByteArray.toList_eq] at h1
  have e : ∀ x : ByteArray, x = ⟨x.data⟩ := fun _ => rfl
  rw [e s, e t, Array.toList_inj.1 h1]
/-- does a name end as a zone is called. -/
def isU (s z : List Int) : Prop := z = [] ∨ s = z ∨ (46 :: z) <:+ s
instance (s z : List Int) : Decidable (isU s z) := by unfold isU; infer_instance
def underB (s z : List Int) : Bool := nameB s && nameB z && decide (isU s z)
theorem suffix_eq (s t : ByteArray) (hs : s.size ≤ 4611686018427387904) : strings_HasSuffix.f s t = some (decide (bytesOf t <:+ bytesOf s)) := by
  unfold strings_HasSuffix.f stringslite_HasSuffix.f
  by_cases h : (s.size : Int) ≥ (t.size : Int)
  · rw [if_pos h, w64 (by omega), if_pos (by omega), if_pos (by omega), Option.bind_some]
    congr 1
    rw [Bool.eq_iff_iff, beq_iff_eq, decide_eq_true_eq, toList_iff, bytesOf_extract, List.take_of_length_le (by rw [List.length_drop, bytesOf_length]; omega)]
    rw [List.suffix_iff_eq_drop, bytesOf_length, bytesOf_length, show ((s.size : Int) - (t.size : Int)).toNat = s.size - t.size by omega]
    exact eq_comm
  · rw [if_neg h, Option.bind_some]
    congr 1
    symm
    rw [decide_eq_false_iff_not]
    intro e
    have := e.length_le
    rw [bytesOf_length, bytesOf_length] at this
    omega
/-- what the program says of a name under a zone. -/
theorem under_eq (k : Nat) (s z : ByteArray) (hs : s.size ≤ 140737488351232) (hz : z.size ≤ 140737488351232) (h1 : s.size + 2 ≤ k) (h2 : z.size + 2 ≤ k) : name_Under.f k s z = some (underB (bytesOf s) (bytesOf z)) := by
  unfold name_Under.f underB
  rw [name_eq k s hs h1, name_eq k z hz h2]
  simp only [Option.bind_some]
  cases nameB (bytesOf s) with
  | false => rfl
  | true =>
    cases nameB (bytesOf z) with
    | false => rfl
    | true =>
      simp only [if_true, Bool.and_self, Bool.true_and]
      by_cases q1 : z.size = 0
      · have hn : bytesOf z = [] := List.length_eq_zero_iff.1 (by rw [bytesOf_length]; omega)
        rw [if_pos ((toList_nil z).2 q1), decide_eq_true (show isU (bytesOf s) (bytesOf z) from .inl hn)]
      · have hn : bytesOf z ≠ [] := fun e => q1 (by rw [← bytesOf_length, e]; rfl)
        rw [if_neg (fun e => q1 ((toList_nil z).1 e))]
        by_cases q2 : bytesOf s = bytesOf z
        · rw [if_pos ((toList_iff s z).2 q2), decide_eq_true (show isU (bytesOf s) (bytesOf z) from .inr (.inl q2))]
        · rw [if_neg (fun e => q2 ((toList_iff s z).1 e)), if_pos (by omega), suffix_eq _ _ (by omega), Option.bind_some, bytesOf_append]
          congr 1
          rw [Bool.eq_iff_iff, decide_eq_true_eq, decide_eq_true_eq]
          unfold isU
          have e : bytesOf ⟨#[46]⟩ ++ bytesOf z = 46 :: bytesOf z := rfl
          rw [e]
          constructor
          · exact fun h => .inr (.inr h)
          · rintro (h | h | h)
            · exact absurd h hn
            · exact absurd h q2
            · exact h
theorem cutL_sum : ∀ l : List Int, ((cutL l).map (fun p => p.length + 1)).sum = l.length + 1
  | [] => rfl
  | b :: l => by
    have ih := cutL_sum l
    by_cases hb : b = 46
    · subst hb
      rw [cutL_point, List.map_cons, List.sum_cons, ih]
      simp only [List.length_nil, List.length_cons]
      omega
    · rw [cutL_other _ _ hb]
      cases hc : cutL l with
      | nil => exact absurd hc (cutL_ne l)
      | cons q qs =>
        rw [hc] at ih
        simp only [glue, List.map_cons, List.sum_cons, List.length_cons, List.length_append, List.length_nil] at ih ⊢
        omega
theorem label_sum : ∀ L : List (List Int), L.all labelB = true → (L.map (fun p => p.length + 1)).sum ≤ 9 * L.length
  | [] => fun _ => Nat.zero_le _
  | p :: L => fun h => by
    rw [List.all_cons, Bool.and_eq_true] at h
    have ih := label_sum L h.2
    have h1 := h.1
    unfold labelB at h1
    rw [Bool.and_eq_true, decide_eq_true_eq] at h1
    simp only [List.map_cons, List.sum_cons, List.length_cons]
    omega
/-- a name that may be is short. -/
theorem name_short (l : List Int) (h : nameB l = true) : l.length ≤ 72 := by
  unfold nameB at h
  rw [Bool.or_eq_true, Bool.and_eq_true, decide_eq_true_eq, decide_eq_true_eq] at h
  rcases h with h | ⟨h1, h2⟩
  · rw [h]
    exact Nat.zero_le _
  · have := label_sum _ h1
    rw [cutL_sum] at this
    omega
theorem count_index : ∀ L : List UInt8, (Lib.indexByte L 46 = -1 ∧ L.count 46 = 0) ∨ (∃ i : Nat, Lib.indexByte L 46 = i ∧ L.count 46 = (L.drop (i + 1)).count 46 + 1)
  | [] => .inl ⟨rfl, rfl⟩
  | b :: L => by
    by_cases hb : b = 46
    · subst hb
      exact .inr ⟨0, by simp [Lib.indexByte], by simp⟩
    · have hne : (b == 46) = false := by simpa using hb
      have hc : (b :: L).count 46 = L.count 46 := List.count_cons_of_ne hb
      rcases count_index L with ⟨h, h2⟩ | ⟨i, h, h2⟩
      · exact .inl ⟨by simp [Lib.indexByte, hne, h], by rw [hc, h2]⟩
      · refine .inr ⟨i + 1, ?_, by rw [hc, h2]; rfl⟩
        have h4 : ((i : Int) == -1) = false := by
          rw [beq_eq_false_iff_ne]
          omega
        simp [Lib.indexByte, hne, h, h4]
theorem data_drop (s : ByteArray) (i : Nat) : (s.extract i s.size).data.toList = s.data.toList.drop i := by
  rw [ByteArray.data_extract, Array.toList_extract, List.extract_eq_take_drop, List.take_of_length_le (by rw [List.length_drop, data_length]; exact Nat.le_refl _)]
theorem cut_map (m : Nat) : ∀ s : ByteArray, s.data.toList.count 46 = m → (strings_genSplit.cut m s).map bytesOf = cutL (bytesOf s) := by
  induction m with
  | zero =>
    intro s h
    rcases count_index s.data.toList with ⟨h1, _⟩ | ⟨i, _, h2⟩
    · rcases cut_index s.data.toList with ⟨_, h4⟩ | ⟨h3, _, _⟩
      · exact h4.symm
      · omega
    · omega
  | succ m ih =>
    intro s h
    rcases count_index s.data.toList with ⟨_, h2⟩ | ⟨i, h1, h2⟩
    · omega
    · rcases cut_index s.data.toList with ⟨h3, _⟩ | ⟨_, h3, h4⟩
      · omega
      · rw [h1, Int.toNat_natCast] at h4
        have h5 : cutL (bytesOf s) = (bytesOf s).take i :: cutL ((bytesOf s).drop (i + 1)) := h4
        have e1 : bytesOf (s.extract 0 i) = (bytesOf s).take i := by rw [bytesOf_extract, List.drop_zero, Nat.sub_zero]
        have e2 : bytesOf (s.extract (i + 1) s.size) = (bytesOf s).drop (i + 1) := by
          rw [bytesOf_extract, List.take_of_length_le (by rw [List.length_drop, bytesOf_length]; exact Nat.le_refl _)]
        rw [strings_genSplit.cut_hit m s i h1, List.map_cons, ih _ (by rw [data_drop]; omega), h5, e1, e2]
/-- the points and the texts behind them. -/
def pts (L : List (List Int)) : List Int := L.flatMap fun p => 46 :: p
theorem pts_cons (p : List Int) (L : List (List Int)) : pts (p :: L) = 46 :: (p ++ pts L) := by simp [pts]
theorem join_cut : ∀ l : List Int, ∃ q qs, cutL l = q :: qs ∧ q ++ pts qs = l
  | [] => ⟨[], [], rfl, rfl⟩
  | b :: l => by
    obtain ⟨q, qs, h1, h2⟩ := join_cut l
    by_cases hb : b = 46
    · subst hb
      exact ⟨[], cutL l, cutL_point l, by rw [h1, pts_cons, List.nil_append, h2]⟩
    · exact ⟨b :: q, qs, by rw [cutL_other b l hb, h1]; rfl, by rw [List.cons_append, h2]⟩
theorem cutL_letters : ∀ l : List Int, l.all letterB = true → cutL l = [l]
  | [] => fun _ => rfl
  | b :: l => fun h => by
    rw [List.all_cons, Bool.and_eq_true] at h
    have hb : b ≠ 46 := by
      intro e
      rw [e] at h
      exact absurd h.1 (by decide)
    rw [cutL_other b l hb, cutL_letters l h.2]
    rfl
theorem label_name (p : List Int) (h : labelB p = true) : nameB p = true := by
  have h2 := h
  unfold labelB at h
  rw [Bool.and_eq_true] at h
  unfold nameB
  rw [cutL_letters p h.1]
  simp [h2]
theorem labels_none (k : Nat) (s : ByteArray) (hs : s.size ≤ 140737488351232) (hk : s.size + 2 ≤ k) (h : nameB (bytesOf s) = false) : name_Labels.f k s = some [] := by
  unfold name_Labels.f
  by_cases q : s.toList = ([] : List UInt8)
  · rw [if_pos q]
  · rw [if_neg q, name_eq k s hs hk, h]
    rfl
theorem labels_some (k : Nat) (s : ByteArray) (hs : s.size ≤ 140737488351232) (hk : s.size + 2 ≤ k) (h : nameB (bytesOf s) = true) (hz : s.size ≠ 0) :
    ∃ r, name_Labels.f k s = some r ∧ r.map bytesOf = cutL (bytesOf s) := by
  have hsh := name_short _ h
  rw [bytesOf_length] at hsh
  refine ⟨_, ?_, cut_map (s.data.toList.count 46) s rfl⟩
  unfold name_Labels.f
  rw [if_neg (fun e => hz ((toList_nil s).1 e)), name_eq k s hs hk, h, Option.bind_some, if_pos rfl]
  have e : strings_Split.f s ⟨#[46]⟩ = some (strings_genSplit.cut (s.data.toList.count 46) s) := by
    unfold strings_Split.f strings_genSplit.f
    rw [if_pos ⟨rfl, rfl, rfl, by omega⟩]
    rfl
  rw [e]
  rfl
theorem labels_nil (k : Nat) (s : ByteArray) (hz : s.size = 0) : name_Labels.f k s = some [] := by
  unfold name_Labels.f
  rw [if_pos ((toList_nil s).2 hz)]
theorem name_parts (s : ByteArray) (h : nameB (bytesOf s) = true) (hz : s.size ≠ 0) : (cutL (bytesOf s)).all labelB = true ∧ (cutL (bytesOf s)).length ≤ 8 := by
  unfold nameB at h
  rw [Bool.or_eq_true, Bool.and_eq_true, decide_eq_true_eq, decide_eq_true_eq] at h
  rcases h with h | h
  · exact absurd (by rw [← bytesOf_length, h]; rfl) hz
  · exact h
theorem rdOf_get (r : List ByteArray) (i : Nat) (h : i < r.length) : rdOf ByteArray.empty r (i : Int) = r[i] := by
  unfold rdOf
  rw [Int.toNat_natCast, List.getD_eq_getElem?_getD, List.getElem?_eq_getElem h]
  rfl
theorem cutL_len : ∀ l, (cutL l).length ≤ l.length + 1
  | [] => by simp [cutL]
  | b :: l => by
    have ih := cutL_len l
    have hn := cutL_ne l
    unfold cutL
    split
    · simp only [List.length_cons]; omega
    · cases hc : cutL l with
      | nil => exact absurd hc hn
      | cons q qs =>
        rw [hc] at ih
        simp only [glue, List.length_cons] at ih ⊢
        omega
theorem extract_end (s : ByteArray) (a b : Nat) (h : b ≤ a) : bytesOf (s.extract a b) = [] := by
  rw [bytesOf_extract, show b - a = 0 by omega, List.take_zero]
theorem extract_next (s : ByteArray) (a b : Nat) (h : a ≤ b) (hb : b < s.size) : bytesOf (s.extract a (b + 1)) = bytesOf (s.extract a b) ++ [bt s b] := by
  rw [bytesOf_extract, bytesOf_extract, show b + 1 - a = (b - a) + 1 by omega, List.take_succ_eq_append_getElem (by rw [List.length_drop, bytesOf_length]; omega)]
  congr 1
  have := drop_cons s b hb
  rw [show b = a + (b - a) by omega, ← List.drop_drop] at this
  rw [List.drop_eq_getElem_cons (by rw [List.length_drop, bytesOf_length]; omega)] at this
  rw [List.cons.injEq] at this
  rw [this.1, show a + (b - a) = b by omega]

theorem reflabel_loop (s : ByteArray) (hs : s.size ≤ 4611686018427387904) (d : Nat) : ∀ (k i : Nat), i + d = s.size → d < k →
    pinfoldref1_labelMay.l0 k s (i : Int) = some (((bytesOf s).drop i).all letterB && decide (1 ≤ s.size ∧ s.size ≤ 8)) := by
  have key : ∀ (x : Option Bool) (b : Int), (if b < 97 then (if b < 48 then (if b = 45 then x else some false) else (if b > 57 then (if b = 45 then x else some false) else x)) else (if b > 122 then (if b < 48 then (if b = 45 then x else some false) else (if b > 57 then (if b = 45 then x else some false) else x)) else x)) = if letterB b = true then x else some false := by
    intro x b
    unfold letterB
    simp only [decide_eq_true_eq]
    repeat' split
    all_goals first
      | rfl
      | (exfalso; omega)
  induction d with
  | zero =>
    intro k i hi hk
    obtain ⟨k, rfl⟩ : ∃ m, k = m + 1 := ⟨k - 1, by omega⟩
    rw [pinfoldref1_labelMay.l0, if_neg (by omega), drop_end s i (by omega)]
    simp only [List.all_nil, Bool.true_and]
    split
    · congr 1
      rw [Bool.eq_iff_iff]
      simp only [decide_eq_true_eq]
      omega
    · congr 1
      symm
      rw [decide_eq_false_iff_not]
      omega
  | succ d ih =>
    intro k i hi hk
    obtain ⟨k, rfl⟩ : ∃ m, k = m + 1 := ⟨k - 1, by omega⟩
    rw [pinfoldref1_labelMay.l0, if_pos (by omega), if_pos (by omega), key, drop_cons s i (by omega)]
    simp only [List.all_cons]
    cases letterB (bt s i) with
    | true =>
      rw [if_pos rfl, w64 (by omega)]
      have := ih k (i + 1) (by omega) (by omega)
      rw [show ((i : Int) + 1) = ((i + 1 : Nat) : Int) by omega, this]
      simp
    | false => simp
theorem reflabel_eq (k : Nat) (s : ByteArray) (hs : s.size ≤ 4611686018427387904) (hk : s.size < k) : pinfoldref1_labelMay.f k s = some (labelB (bytesOf s)) := by
  unfold pinfoldref1_labelMay.f
  have := reflabel_loop s hs s.size k 0 (by omega) hk
  rw [show ((0 : Nat) : Int) = 0 by rfl] at this
  rw [this]
  unfold labelB
  rw [List.drop_zero, bytesOf_length]

theorem parts_loop (s : ByteArray) (hs : s.size ≤ 140737488351232) (d : Nat) : ∀ (k i f : Nat) (out : List ByteArray), i + d = s.size → d + 2 ≤ k → f ≤ i → out.length + d + 1 ≤ 8796093022208 →
    ∃ r, pinfoldref1_parts.l0 k s out (f : Int) (i : Int) = some (out ++ r) ∧ r.map bytesOf = glue (bytesOf (s.extract f i)) (cutL ((bytesOf s).drop i)) ∧ ∀ x ∈ r, x.size ≤ s.size := by
  induction d with
  | zero =>
    intro k i f out hi hk hf ho
    obtain ⟨k, rfl⟩ : ∃ m, k = m + 2 := ⟨k - 2, by omega⟩
    refine ⟨[s.extract f i], ?_, ?_, ?_⟩
    · rw [pinfoldref1_parts.l0, if_pos (by omega), if_pos (by omega), if_pos (by omega), if_pos (by omega), if_pos (by omega), w64 (by omega), pinfoldref1_parts.l0, if_neg (by omega), Int.toNat_natCast, Int.toNat_natCast]
    · rw [drop_end s i (by omega)]
      simp [cutL, glue]
    · intro x hx
      rw [List.mem_singleton.1 hx, ByteArray.size_extract]
      omega
  | succ d ih =>
    intro k i f out hi hk hf ho
    obtain ⟨k, rfl⟩ : ∃ m, k = m + 1 := ⟨k - 1, by omega⟩
    rw [pinfoldref1_parts.l0, if_pos (by omega), if_neg (by omega), if_pos (by omega), if_pos (by omega), drop_cons s i (by omega)]
    by_cases hp : bt s i = 46
    · obtain ⟨r, h1, h2, h3⟩ := ih k (i + 1) (i + 1) (out ++ [s.extract f i]) (by omega) (by omega) (by omega) (by rw [List.length_append, List.length_singleton]; omega)
      refine ⟨s.extract f i :: r, ?_, ?_, ?_⟩
      · rw [if_pos hp, if_pos (by omega), if_pos (by omega), if_pos (by omega), w64 (by omega), Int.toNat_natCast, Int.toNat_natCast, show ((i : Int) + 1) = ((i + 1 : Nat) : Int) by omega, h1, List.append_assoc]
        rfl
      · rw [extract_end s (i + 1) (i + 1) (Nat.le_refl _), glue_nil _ (cutL_ne _)] at h2
        rw [List.map_cons, h2, hp, cutL_point]
        simp [glue]
      · intro x hx
        rcases List.mem_cons.1 hx with rfl | hx
        · rw [ByteArray.size_extract]
          omega
        · exact h3 x hx
    · obtain ⟨r, h1, h2, h3⟩ := ih k (i + 1) f out (by omega) (by omega) (by omega) (by omega)
      refine ⟨r, ?_, ?_, h3⟩
      · rw [if_neg hp, w64 (by omega), show ((i : Int) + 1) = ((i + 1 : Nat) : Int) by omega, h1]
      · rw [h2, cutL_other _ _ hp, extract_next s f i hf (by omega), glue_glue]
theorem parts_eq (k : Nat) (s : ByteArray) (hs : s.size ≤ 8796093022000) (hk : s.size + 2 ≤ k) :
    ∃ r, pinfoldref1_parts.f k s = some r ∧ r.map bytesOf = cutL (bytesOf s) ∧ ∀ x ∈ r, x.size ≤ s.size := by
  obtain ⟨r, h1, h2, h3⟩ := parts_loop s (by omega) s.size k 0 0 [] (by omega) hk (by omega) (by simp only [List.length_nil]; omega)
  refine ⟨r, ?_, ?_, h3⟩
  · unfold pinfoldref1_parts.f
    rw [show ((0 : Nat) : Int) = 0 by rfl, List.nil_append] at h1
    exact h1
  · rw [h2, extract_end s 0 0 (Nat.le_refl _), glue_nil _ (cutL_ne _), List.drop_zero]

theorem refname_loop (r : List ByteArray) (m : Nat) (hr : ∀ x ∈ r, x.size ≤ m) (hm : m ≤ 140737488351232) (hl : r.length ≤ 140737488351232) (d : Nat) : ∀ (k i : Nat), i + d = r.length → d + m + 2 ≤ k →
    pinfoldref1_NameMay.l0 k r (i : Int) = some (((r.map bytesOf).drop i).all labelB && decide (r.length ≤ 8)) := by
  induction d with
  | zero =>
    intro k i hi hk
    obtain ⟨k, rfl⟩ : ∃ j, k = j + 1 := ⟨k - 1, by omega⟩
    rw [pinfoldref1_NameMay.l0, if_neg (by omega), List.drop_eq_nil_of_le (by rw [List.length_map]; omega), List.all_nil, Bool.true_and]
    congr 1
    rw [Bool.eq_iff_iff]
    simp only [decide_eq_true_eq]
    omega
  | succ d ih =>
    intro k i hi hk
    obtain ⟨k, rfl⟩ : ∃ j, k = j + 1 := ⟨k - 1, by omega⟩
    have hil : i < r.length := by omega
    have e : rdOf ByteArray.empty r (i : Int) = r[i] := by
      unfold rdOf
      rw [Int.toNat_natCast, List.getD_eq_getElem?_getD, List.getElem?_eq_getElem hil]
      rfl
    have hx := hr r[i] (List.getElem_mem hil)
    rw [pinfoldref1_NameMay.l0, if_pos (by omega), if_pos (by omega), e, reflabel_eq k r[i] (by omega) (by omega), List.drop_eq_getElem_cons (by rw [List.length_map]; exact hil), List.all_cons, List.getElem_map]
    simp only [Option.bind_some]
    cases labelB (bytesOf r[i]) with
    | true =>
      rw [if_pos rfl, w64 (by omega), show ((i : Int) + 1) = ((i + 1 : Nat) : Int) by omega, ih k (i + 1) (by omega) (by omega), Bool.true_and]
    | false => rfl
/-- what the document says of a name. -/
theorem refname_eq (k : Nat) (s : ByteArray) (hs : s.size ≤ 8796093022000) (hk : 2 * s.size + 10 ≤ k) : pinfoldref1_NameMay.f k s = some (nameB (bytesOf s)) := by
  unfold pinfoldref1_NameMay.f nameB
  by_cases h : s.size = 0
  · have hz : bytesOf s = [] := List.length_eq_zero_iff.1 (by rw [bytesOf_length]; omega)
    rw [if_pos ((toList_nil s).2 h), hz]
    rfl
  · have hz : bytesOf s ≠ [] := fun e => h (by rw [← bytesOf_length, e]; rfl)
    obtain ⟨r, h1, h2, h3⟩ := parts_eq k s hs (by omega)
    have hl : r.length = (cutL (bytesOf s)).length := by rw [← h2, List.length_map]
    have hc := cutL_len (bytesOf s)
    rw [bytesOf_length] at hc
    have := refname_loop r s.size h3 (by omega) (by omega) r.length k 0 (by omega) (by omega)
    rw [show ((0 : Nat) : Int) = 0 by rfl] at this
    rw [if_neg (fun e => h ((toList_nil s).1 e)), h1, Option.bind_some, this, List.drop_zero, h2, decide_eq_false hz, Bool.false_or, hl]
theorem name_point (z : List Int) : nameB (46 :: z) = false := by
  unfold nameB
  rw [cutL_point, List.all_cons, decide_eq_false (by simp)]
  rfl
/-- what the document says of a name under a zone. -/
theorem refunder_eq (k : Nat) (s z : ByteArray) (hs : s.size ≤ 1048576) (hz : z.size ≤ 1048576) (h1 : 2 * s.size + 10 ≤ k) (h2 : 2 * z.size + 10 ≤ k) : pinfoldref1_Under.f k s z = some (underB (bytesOf s) (bytesOf z)) := by
  unfold pinfoldref1_Under.f underB
  rw [refname_eq k s (by omega) h1, refname_eq k z (by omega) h2]
  simp only [Option.bind_some]
  cases hns : nameB (bytesOf s) with
  | false => rfl
  | true =>
    cases nameB (bytesOf z) with
    | false => rfl
    | true =>
      simp only [if_true, Bool.and_self, Bool.true_and]
      by_cases q1 : z.size = 0
      · have hn : bytesOf z = [] := List.length_eq_zero_iff.1 (by rw [bytesOf_length]; omega)
        rw [if_pos ((toList_nil z).2 q1), decide_eq_true (show isU (bytesOf s) (bytesOf z) from .inl hn)]
      · have hn : bytesOf z ≠ [] := fun e => q1 (by rw [← bytesOf_length, e]; rfl)
        rw [if_neg (fun e => q1 ((toList_nil z).1 e))]
        by_cases q2 : bytesOf s = bytesOf z
        · rw [if_pos ((toList_iff s z).2 q2), decide_eq_true (show isU (bytesOf s) (bytesOf z) from .inr (.inl q2))]
        · rw [if_neg (fun e => q2 ((toList_iff s z).1 e)), w64 (show -9223372036854775808 ≤ (s.size : Int) - (z.size : Int) ∧ (s.size : Int) - (z.size : Int) ≤ 9223372036854775807 by omega)]
          have hu : isU (bytesOf s) (bytesOf z) ↔ (46 :: bytesOf z) <:+ bytesOf s := by
            unfold isU
            constructor
            · rintro (h | h | h)
              · exact absurd h hn
              · exact absurd h q2
              · exact h
            · exact fun h => .inr (.inr h)
          by_cases hd : (s.size : Int) - (z.size : Int) > 1
          · obtain ⟨d, hd2⟩ : ∃ d : Nat, s.size = z.size + (d + 1) := ⟨s.size - z.size - 1, by omega⟩
            have e1 : (s.size : Int) - (z.size : Int) = ((d + 1 : Nat) : Int) := by omega
            rw [if_pos hd, e1, if_pos (by omega), if_pos (by omega), Int.toNat_natCast, w64 (by omega), show ((d + 1 : Nat) : Int) - 1 = (d : Int) by omega]
            have e2 : (bytesOf s).drop d = bt s d :: (bytesOf s).drop (d + 1) := drop_cons s d (by omega)
            have e3 : bytesOf (s.extract (d + 1) s.size) = (bytesOf s).drop (d + 1) := by
              rw [bytesOf_extract, List.take_of_length_le (by rw [List.length_drop, bytesOf_length]; omega)]
            have hiff : isU (bytesOf s) (bytesOf z) ↔ bt s d = 46 ∧ (bytesOf s).drop (d + 1) = bytesOf z := by
              rw [hu, List.suffix_iff_eq_drop, List.length_cons, bytesOf_length, bytesOf_length, show s.size - (z.size + 1) = d by omega, e2, List.cons.injEq]
              constructor
              · exact fun h => ⟨h.1.symm, h.2.symm⟩
              · exact fun h => ⟨h.1.symm, h.2.symm⟩
            by_cases q3 : (bytesOf s).drop (d + 1) = bytesOf z
            · rw [if_pos ((toList_iff _ _).2 (by rw [e3, q3])), if_pos (by omega), if_pos (by omega)]
              congr 1
              rw [Bool.eq_iff_iff, beq_iff_eq, decide_eq_true_eq, hiff]
              exact ⟨fun h => ⟨h, q3⟩, fun h => h.1⟩
            · rw [if_neg (fun e => q3 (by rw [← e3]; exact (toList_iff _ _).1 e)), decide_eq_false (fun h => q3 (hiff.1 h).2)]
          · rw [if_neg hd, decide_eq_false ?_]
            rw [hu]
            intro h
            have hl := h.length_le
            rw [List.length_cons, bytesOf_length, bytesOf_length] at hl
            have e := h.eq_of_length (by rw [List.length_cons, bytesOf_length, bytesOf_length]; omega)
            rw [← e, name_point] at hns
            cases hns
theorem reflabels_eq (k : Nat) (s : ByteArray) (hs : s.size ≤ 1048576) (hk : 2 * s.size + 10 ≤ k) :
    ∃ r, pinfoldref1_Labels.f k s = some r ∧ ((nameB (bytesOf s) = false ∨ s.size = 0) → r = []) ∧ (nameB (bytesOf s) = true → s.size ≠ 0 → r.map bytesOf = cutL (bytesOf s)) := by
  unfold pinfoldref1_Labels.f
  by_cases hz : s.size = 0
  · exact ⟨[], by rw [if_pos ((toList_nil s).2 hz)], fun _ => rfl, fun _ h => absurd hz h⟩
  · rw [if_neg (fun e => hz ((toList_nil s).1 e)), refname_eq k s (by omega) hk, Option.bind_some]
    cases hn : nameB (bytesOf s) with
    | false => exact ⟨[], rfl, fun _ => rfl, fun h => by cases h⟩
    | true =>
      obtain ⟨r, h1, h2, _⟩ := parts_eq k s (by omega) (by omega)
      refine ⟨r, by rw [if_pos rfl, h1]; rfl, fun h => ?_, fun _ _ => h2⟩
      rcases h with h | h
      · cases h
      · exact absurd h hz
theorem sameT_loop (xs ys : List ByteArray) (h : xs.map bytesOf = ys.map bytesOf) (hl : xs.length ≤ 1048576) (d : Nat) : ∀ (k i : Nat), i + d = xs.length → d + 1 ≤ k → pinfoldlaw0_SameTexts.l0 k xs ys (i : Int) = some true := by
  have hll : xs.length = ys.length := by have := congrArg List.length h; rwa [List.length_map, List.length_map] at this
  induction d with
  | zero =>
    intro k i hi hk
    obtain ⟨k, rfl⟩ : ∃ j, k = j + 1 := ⟨k - 1, by omega⟩
    rw [pinfoldlaw0_SameTexts.l0, if_neg (by omega)]
  | succ d ih =>
    intro k i hi hk
    obtain ⟨k, rfl⟩ : ∃ j, k = j + 1 := ⟨k - 1, by omega⟩
    have h1 : i < xs.length := by omega
    have h2 : i < ys.length := by omega
    have e : bytesOf xs[i] = bytesOf ys[i] := by
      have h3 : (xs.map bytesOf)[i]? = (ys.map bytesOf)[i]? := by rw [h]
      rw [List.getElem?_map, List.getElem?_map, List.getElem?_eq_getElem h1, List.getElem?_eq_getElem h2] at h3
      exact Option.some.inj h3
    rw [pinfoldlaw0_SameTexts.l0, if_pos (by omega), if_pos (by omega), if_pos (by omega), rdOf_get xs i h1, rdOf_get ys i h2, if_pos ((toList_iff _ _).2 e), w64 (by omega), show ((i : Int) + 1) = ((i + 1 : Nat) : Int) by omega]
    exact ih k (i + 1) (by omega) (by omega)
theorem sameT_eq (k : Nat) (xs ys : List ByteArray) (h : xs.map bytesOf = ys.map bytesOf) (hl : xs.length ≤ 1048576) (hk : xs.length + 1 ≤ k) : pinfoldlaw0_SameTexts.f k xs ys = some true := by
  have hll : xs.length = ys.length := by have := congrArg List.length h; rwa [List.length_map, List.length_map] at this
  unfold pinfoldlaw0_SameTexts.f
  rw [if_pos (by omega)]
  exact sameT_loop xs ys h hl xs.length k 0 (by omega) hk
theorem spoil_loop (n : Nat) (hn : n ≤ 1048576) (d : Nat) : ∀ (k i : Nat) (xs : List ByteArray), xs.length = n → i + d = n → d + 1 ≤ k → (∀ j, i ≤ j → (h : j < xs.length) → xs[j].size ≤ 1048576) → ∃ r, pinfoldlaw0_SpoilTexts.l0 k xs (i : Int) = some r := by
  induction d with
  | zero =>
    intro k i xs hl hi hk _
    obtain ⟨k, rfl⟩ : ∃ j, k = j + 1 := ⟨k - 1, by omega⟩
    exact ⟨xs, by rw [pinfoldlaw0_SpoilTexts.l0, if_neg (by omega)]⟩
  | succ d ih =>
    intro k i xs hl hi hk hx
    obtain ⟨k, rfl⟩ : ∃ j, k = j + 1 := ⟨k - 1, by omega⟩
    have h1 : i < xs.length := by omega
    have h2 := hx i (Nat.le_refl _) h1
    rw [pinfoldlaw0_SpoilTexts.l0, if_pos (by omega), if_pos (by omega), rdOf_get xs i h1, if_pos (by omega), w64 (by omega), show ((i : Int) + 1) = ((i + 1 : Nat) : Int) by omega, Int.toNat_natCast]
    refine ih k (i + 1) _ (by rw [List.length_set]; exact hl) (by omega) (by omega) ?_
    intro j hj hjl
    rw [List.getElem_set_ne (by omega)]
    rw [List.length_set] at hjl
    exact hx j (by omega) hjl
theorem both_labels (k : Nat) (s : ByteArray) (hs : s.size ≤ 1048576) (hk : 2 * s.size + 10 ≤ k) :
    ∃ xs ys, name_Labels.f k s = some xs ∧ pinfoldref1_Labels.f k s = some ys ∧ xs.map bytesOf = ys.map bytesOf ∧ xs.length ≤ 8 ∧ ∀ x ∈ xs, x.size ≤ 8 := by
  obtain ⟨ys, h1, h2, h3⟩ := reflabels_eq k s hs hk
  cases hn : nameB (bytesOf s) with
  | false => exact ⟨[], ys, labels_none k s (by omega) (by omega) hn, h1, by rw [h2 (.inl hn)], by decide, fun x hx => by cases hx⟩
  | true =>
    by_cases hz : s.size = 0
    · exact ⟨[], ys, labels_nil k s hz, h1, by rw [h2 (.inr hz)], by decide, fun x hx => by cases hx⟩
    · obtain ⟨xs, e1, e2⟩ := labels_some k s (by omega) (by omega) hn hz
      obtain ⟨p1, p2⟩ := name_parts s hn hz
      refine ⟨xs, ys, e1, h1, by rw [e2, h3 hn hz], by rw [← e2, List.length_map] at p2; exact p2, fun x hx => ?_⟩
      rw [← e2, List.all_eq_true] at p1
      have := p1 _ (List.mem_map_of_mem hx)
      unfold labelB at this
      rw [Bool.and_eq_true, decide_eq_true_eq, bytesOf_length] at this
      exact this.2.2
/-- any texts: what the program says of names is what the document says. -/
theorem Names : pinfoldlaw2_Names.Pure := by
  intro s z hs hz
  obtain ⟨k, hk⟩ : ∃ k, 2 * s.size + 2 * z.size + 100 = k := ⟨_, rfl⟩
  refine ⟨k + 30 + 1, ?_⟩
  unfold pinfoldlaw2_Names.f
  obtain ⟨xs, ys, e1, e2, e3, e4, e5⟩ := both_labels (k + 30 + 1) s hs (by omega)
  obtain ⟨xs2, ys2, f1, f2, f3, f4, _⟩ := both_labels (k + 30) s hs (by omega)
  have g1 : name_Fold.f s = some (strOfNums ((bytesOf s).map name_Fold.byte)) := by unfold name_Fold.f; rw [if_pos (by omega)]
  have g2 : pinfoldref1_Fold.f s = some (strOfNums ((bytesOf s).map name_Fold.byte)) := by unfold pinfoldref1_Fold.f; rw [if_pos (by omega)]; rfl
  rw [e1, name_eq (k + 30 + 1) s (by omega) (by omega), refname_eq (k + 30 + 1) s (by omega) (by omega), g1, g2, e2, under_eq (k + 30 + 1) s z (by omega) (by omega) (by omega) (by omega), refunder_eq (k + 30 + 1) s z hs hz (by omega) (by omega)]
  simp only [Option.bind_some, bne_self_eq_false, Bool.false_eq_true, if_false, if_true]
  rw [sameT_eq (k + 30 + 1) xs ys e3 (by omega) (by omega)]
  simp only [Option.bind_some, if_true]
  obtain ⟨q, hq⟩ := spoil_loop xs.length (by omega) xs.length (k + 30) 0 xs rfl (by omega) (by omega) (fun j _ hj => by
    have := e5 xs[j] (List.getElem_mem hj)
    omega)
  rw [pinfoldlaw2_Names.j0, if_neg (by decide)]
  have hq2 : pinfoldlaw0_SpoilTexts.f (k + 30) xs = some q := hq
  rw [hq2, f1, f2, awake_eq k]
  simp only [Option.bind_some]
  rw [sameT_eq (k + 30) xs2 ys2 f3 (by omega) (by omega)]
  rfl

end Go.Proofs.YtfkgfjllgiblhaaDoor.Pure
