/- TableOf: the first Live one that is offered or bound to a client is told, none else. No condition. -/
import Derived.Test.YtfkgfjllgiblhaaPTableOfx6
namespace Go.Proofs.Ytfkgfjllgiblhaa.Pure
open Go.RowKit Go.Proofs.Ytfkgfjllgiblhaa.PTableOf Go.Proofs.YtfkgfjllgiblhaaW.PrintWords Go.Proofs.YtfkgfjllgiblhaaW.PrintLast
set_option linter.unusedSimpArgs false
set_option linter.unusedVariables false

/-- the bounds of an int. -/
theorem int_bd {a : Int} (h : (Lit.int .i64 a).wf = true) : -9223372036854775808 ≤ a ∧ a ≤ 9223372036854775807 := by
  simp only [Lit.wf, IntKind.min, IntKind.max, IntKind.signed, IntKind.bits, Bool.and_eq_true, decide_eq_true_eq, if_true] at h
  omega
theorem u64_eq (a : Int) : IntKind.u64.wrap a = a % 18446744073709551616 := by simp [IntKind.wrap, IntKind.bits, IntKind.signed]
theorem w64 {a : Int} (h : -9223372036854775808 ≤ a ∧ a ≤ 9223372036854775807) : wrap64 a = a := by unfold wrap64; omega
/-- the low bits of any int. -/
theorem and_mask (a : Int) (i : Nat) (hi : i ≤ 62) : Go.bits .and .i64 a ((2 ^ i - 1 : Nat) : Int) = a % ((2 ^ i : Nat) : Int) := by
  have hp : 0 < 2 ^ i := Nat.two_pow_pos i
  have hl : 2 ^ i ≤ 2 ^ 62 := Nat.pow_le_pow_right (by decide) hi
  show IntKind.wrap .i64 (((BitVec.ofInt 64 a &&& BitVec.ofInt 64 ((2 ^ i - 1 : Nat) : Int)).toNat : Nat) : Int) = _
  have e : (((BitVec.ofInt 64 a &&& BitVec.ofInt 64 ((2 ^ i - 1 : Nat) : Int)).toNat : Nat) : Int) = a % ((2 ^ i : Nat) : Int) := by
    rw [BitVec.toNat_and, BitVec.ofInt_natCast, BitVec.toNat_ofNat, Nat.mod_eq_of_lt (show 2 ^ i - 1 < 2 ^ 64 by omega), Nat.and_two_pow_sub_one_eq_mod, BitVec.toNat_ofInt]
    rw [Int.natCast_emod, Int.toNat_of_nonneg (Int.emod_nonneg _ (by decide))]
    exact Int.emod_emod_of_dvd a (by
      rw [Int.natCast_dvd_natCast]
      exact Nat.pow_dvd_pow 2 (by omega))
  rw [e, IntKind.wrap_i64]
  have h0 := Int.emod_nonneg a (show ((2 ^ i : Nat) : Int) ≠ 0 by omega)
  have h1 := Int.emod_lt_of_pos a (show 0 < ((2 ^ i : Nat) : Int) by omega)
  omega
theorem and_1023 (a : Int) : Go.bits .and .i64 a 1023 = a % 1024 := and_mask a 10 (by decide)
theorem and_63 (a : Int) : Go.bits .and .i64 a 63 = a % 64 := and_mask a 6 (by decide)
theorem and_255 (a : Int) : Go.bits .and .i64 a 255 = a % 256 := and_mask a 8 (by decide)
theorem and_65535 (a : Int) : Go.bits .and .i64 a 65535 = a % 65536 := and_mask a 16 (by decide)
theorem and_u32 (a : Int) : Go.bits .and .i64 a 4294967295 = a % 4294967296 := and_mask a 32 (by decide)
theorem wraps_i64 (n : Int) (h0 : 0 ≤ n) (h1 : n < 2 ^ 63) : IntKind.i64.wrap n = n := by rw [IntKind.wrap_i64]; omega
theorem or_byte (x b : Int) (hx : 0 ≤ x ∧ x < 281474976710656) (hb : 0 ≤ b ∧ b < 256) : Go.bits .or .i64 (wrap64 (x * 256)) b = x * 256 + b := by
  rw [w64 (by omega)]
  exact bits_join .i64 63 (by decide) wraps_i64 8 (x * 256) b (by omega) (by omega) (by omega) hb.1 (by omega) (by omega)
theorem num_eq (a : Int) : pinfoldlaw0_Num.f a = some a := rfl
theorem bt_bd (s : ByteArray) (i : Int) : 0 ≤ bt s i ∧ bt s i < 256 := by have := bt_range s i; omega
theorem toList_nil (s : ByteArray) : s.toList = ([] : List UInt8) ↔ s.size = 0 := by
  rw [ByteArray.toList_eq, ← data_length, List.length_eq_zero_iff]
theorem drop_cons (s : ByteArray) (i : Nat) (h : i < s.size) : (bytesOf s).drop i = bt s i :: (bytesOf s).drop (i + 1) := by
  have hl : i < (bytesOf s).length := by rw [bytesOf_length]; exact h
  rw [List.drop_eq_getElem_cons hl, ← rd_bytesOf]
  unfold rd
  rw [Int.toNat_natCast, List.getD_eq_getElem?_getD, List.getElem?_eq_getElem hl]
  rfl
theorem drop_end (s : ByteArray) (i : Nat) (h : s.size ≤ i) : (bytesOf s).drop i = [] := List.drop_eq_nil_of_le (by rw [bytesOf_length]; exact h)
theorem bytesOf_extract (s : ByteArray) (a b : Nat) : bytesOf (s.extract a b) = ((bytesOf s).drop a).take (b - a) := by
  unfold bytesOf
  rw [ByteArray.data_extract, Array.toList_extract, List.extract_eq_take_drop, List.map_take, List.map_drop]

/-- may a label have such a byte. -/
def letterB (b : Int) : Bool := decide ((97 ≤ b ∧ b ≤ 122) ∨ (48 ≤ b ∧ b ≤ 57) ∨ b = 45)
/-- may a label be so. -/
def labelB (l : List Int) : Bool := l.all letterB && decide (1 ≤ l.length ∧ l.length ≤ 8)
/-- a text, cut at its points. -/
def glue (p : List Int) : List (List Int) → List (List Int)
  | [] => [p]
  | q :: qs => (p ++ q) :: qs
def cutL : List Int → List (List Int)
  | [] => [[]]
  | b :: l => if b = 46 then [] :: cutL l else glue [b] (cutL l)
/-- may a name be so. -/
def nameB (l : List Int) : Bool := decide (l = []) || ((cutL l).all labelB && decide ((cutL l).length ≤ 8))

theorem cutL_ne : ∀ l, cutL l ≠ []
  | [] => by simp [cutL]
  | b :: l => by
    unfold cutL
    split
    · simp
    · cases cutL l <;> simp [glue]
theorem glue_nil (l : List (List Int)) (h : l ≠ []) : glue [] l = l := by
  cases l with
  | nil => exact absurd rfl h
  | cons q qs => simp [glue]
theorem glue_glue (p q : List Int) (l : List (List Int)) : glue p (glue q l) = glue (p ++ q) l := by
  cases l <;> simp [glue]
theorem cutL_point (l : List Int) : cutL (46 :: l) = [] :: cutL l := by rw [cutL, if_pos rfl]
theorem cutL_other (b : Int) (l : List Int) (h : b ≠ 46) : cutL (b :: l) = glue [b] (cutL l) := by rw [cutL, if_neg h]

theorem letter_eq (b : Int) : name_letter.f b = some (letterB b) := by
  have e : ∀ x : Bool, (x = true ↔ ((97 ≤ b ∧ b ≤ 122) ∨ (48 ≤ b ∧ b ≤ 57) ∨ b = 45)) → some x = some (letterB b) := by
    intro x hx
    congr 1
    rw [Bool.eq_iff_iff, hx]
    simp only [letterB, decide_eq_true_eq]
  unfold name_letter.f
  repeat' split
  all_goals apply e
  all_goals simp only [beq_iff_eq, true_iff]
  all_goals omega

theorem label_loop (s : ByteArray) (hs : s.size ≤ 4611686018427387904) (d : Nat) : ∀ (k i : Nat), i + d = s.size → d < k →
    name_Label.l0 k s (s.size : Int) (i : Int) = some (((bytesOf s).drop i).all letterB && decide (1 ≤ s.size ∧ s.size ≤ 8)) := by
  induction d with
  | zero =>
    intro k i hi hk
    obtain ⟨k, rfl⟩ : ∃ m, k = m + 1 := ⟨k - 1, by omega⟩
    rw [name_Label.l0, if_neg (by omega), drop_end s i (by omega)]
    simp only [List.all_nil, Bool.true_and]
    split
    · congr 1
      rw [Bool.eq_iff_iff]
      simp only [decide_eq_true_eq]
      omega
    · congr 1
      symm
      rw [decide_eq_false_iff_not]
      omega
  | succ d ih =>
    intro k i hi hk
    obtain ⟨k, rfl⟩ : ∃ m, k = m + 1 := ⟨k - 1, by omega⟩
    rw [name_Label.l0, if_pos (by omega), if_pos (by omega), if_pos (by omega), letter_eq, drop_cons s i (by omega)]
    simp only [Option.bind_some, List.all_cons]
    cases letterB (bt s i) with
    | true =>
      rw [if_pos rfl, w64 (by omega)]
      have := ih k (i + 1) (by omega) (by omega)
      rw [show ((i : Int) + 1) = ((i + 1 : Nat) : Int) by omega, this]
      simp
    | false => simp
theorem label_eq (k : Nat) (s : ByteArray) (hs : s.size ≤ 4611686018427387904) (hk : s.size < k) : name_Label.f k s = some (labelB (bytesOf s)) := by
  unfold name_Label.f
  have := label_loop s hs s.size k 0 (by omega) hk
  rw [show ((0 : Nat) : Int) = 0 by rfl] at this
  rw [this]
  unfold labelB
  rw [List.drop_zero, bytesOf_length]

theorem cut_index : ∀ L : List UInt8, (Lib.indexByte L 46 = -1 ∧ cutL (L.map fun b => (b.toNat : Int)) = [L.map fun b => (b.toNat : Int)]) ∨
    (0 ≤ Lib.indexByte L 46 ∧ Lib.indexByte L 46 < (L.length : Int) ∧ cutL (L.map fun b => (b.toNat : Int)) = (L.map fun b => (b.toNat : Int)).take (Lib.indexByte L 46).toNat :: cutL ((L.map fun b => (b.toNat : Int)).drop ((Lib.indexByte L 46).toNat + 1)))
  | [] => .inl ⟨rfl, rfl⟩
  | b :: L => by
    have ih := cut_index L
    by_cases hb : b = 46
    · subst hb
      refine .inr ⟨by simp [Lib.indexByte], by simp [Lib.indexByte], ?_⟩
      have e : Lib.indexByte (46 :: L) 46 = 0 := by simp [Lib.indexByte]
      rw [e]
      exact cutL_point _
    · have hb2 : ((b.toNat : Nat) : Int) ≠ 46 := by
        intro h
        apply hb
        have h2 : b.toNat = 46 := by omega
        exact UInt8.toNat_inj.1 h2
      have hne : (b == 46) = false := by simpa using hb
      rcases ih with ⟨h1, h2⟩ | ⟨h1, h2, h3⟩
      · refine .inl ⟨by simp [Lib.indexByte, hne, h1], ?_⟩
        rw [List.map_cons, cutL_other _ _ hb2, h2]
        rfl
      · have e : Lib.indexByte (b :: L) 46 = Lib.indexByte L 46 + 1 := by
          have h4 : (Lib.indexByte L 46 == -1) = false := by
            rw [beq_eq_false_iff_ne]
            omega
          simp [Lib.indexByte, hne, h4]
        refine .inr ⟨by omega, by rw [e, List.length_cons]; omega, ?_⟩
        rw [e, show (Lib.indexByte L 46 + 1).toNat = (Lib.indexByte L 46).toNat + 1 by omega, List.map_cons, cutL_other _ _ hb2, h3]
        rfl

theorem may_loop (m : Nat) : ∀ (k n : Nat) (s : ByteArray), s.size ≤ m → s.size ≤ 140737488351232 → m + 2 ≤ k → n ≤ 8 →
    name_May.l0 k (n : Int) s true = some ((cutL (bytesOf s)).all labelB && decide (n + (cutL (bytesOf s)).length ≤ 8)) := by
  induction m with
  | zero =>
    intro k n s hm hs hk hn
    obtain ⟨k, rfl⟩ : ∃ j, k = j + 1 := ⟨k - 1, by omega⟩
    have hz : bytesOf s = [] := List.length_eq_zero_iff.1 (by rw [bytesOf_length]; omega)
    rw [name_May.l0, if_pos rfl]
    have hd : s.data.toList = [] := List.length_eq_zero_iff.1 (by rw [data_length]; omega)
    have hc : strings_Cut.f s ⟨#[46]⟩ = some (s, ⟨#[]⟩, false) := by
      unfold strings_Cut.f stringslite_Cut.f
      rw [if_pos ⟨rfl, hs⟩]
      unfold stringslite_Cut.v stringslite_Index.at_
      rw [hd]
      rfl
    rw [hc]
    simp only [Option.bind_some]
    rw [label_eq k s (by omega) (by omega), hz]
    simp [labelB, cutL]
  | succ m ih =>
    intro k n s hm hs hk hn
    obtain ⟨k, rfl⟩ : ∃ j, k = j + 1 := ⟨k - 1, by omega⟩
    rw [name_May.l0, if_pos rfl]
    rcases cut_index s.data.toList with ⟨h1, h2⟩ | ⟨h1, h1', h2⟩
    · have hc : strings_Cut.f s ⟨#[46]⟩ = some (s, ⟨#[]⟩, false) := by
        unfold strings_Cut.f stringslite_Cut.f
        rw [if_pos ⟨rfl, hs⟩]
        unfold stringslite_Cut.v stringslite_Index.at_
        rw [show (⟨#[46]⟩ : ByteArray).data.toList.headD 0 = 46 from rfl, h1, if_neg (by decide)]
      have h2' : cutL (bytesOf s) = [bytesOf s] := h2
      rw [hc, h2']
      simp only [Option.bind_some]
      rw [label_eq k s (by omega) (by omega)]
      simp only [Option.bind_some, List.all_cons, List.all_nil, Bool.and_true, List.length_cons, List.length_nil]
      cases labelB (bytesOf s) with
      | true =>
        rw [if_pos rfl, w64 (by omega)]
        by_cases h8 : (n : Int) + 1 > 8
        · rw [if_pos h8, decide_eq_false (by omega)]
          rfl
        · rw [if_neg h8, decide_eq_true (by omega)]
          obtain ⟨k, rfl⟩ : ∃ j, k = j + 1 := ⟨k - 1, by omega⟩
          rw [name_May.l0, if_neg (by decide)]
          rfl
      | false => simp
    · have hc : strings_Cut.f s ⟨#[46]⟩ = some (s.extract 0 (Lib.indexByte s.data.toList 46).toNat, s.extract ((Lib.indexByte s.data.toList 46).toNat + 1) s.size, true) := by
        unfold strings_Cut.f stringslite_Cut.f
        rw [if_pos ⟨rfl, hs⟩]
        unfold stringslite_Cut.v stringslite_Index.at_
        rw [show (⟨#[46]⟩ : ByteArray).data.toList.headD 0 = 46 from rfl, if_pos h1]
      have h2' : cutL (bytesOf s) = (bytesOf s).take (Lib.indexByte s.data.toList 46).toNat :: cutL ((bytesOf s).drop ((Lib.indexByte s.data.toList 46).toNat + 1)) := h2
      rw [data_length] at h1'
      obtain ⟨i, hi⟩ : ∃ i : Nat, (Lib.indexByte s.data.toList 46).toNat = i := ⟨_, rfl⟩
      rw [hi] at hc h2'
      have hil : i < s.size := by omega
      rw [hc]
      simp only [Option.bind_some]
      have e1 : bytesOf (s.extract 0 i) = (bytesOf s).take i := by rw [bytesOf_extract, List.drop_zero, Nat.sub_zero]
      have e2 : bytesOf (s.extract (i + 1) s.size) = (bytesOf s).drop (i + 1) := by
        rw [bytesOf_extract, List.take_of_length_le (by rw [List.length_drop, bytesOf_length]; omega)]
      have z1 : (s.extract 0 i).size = i := by rw [ByteArray.size_extract]; omega
      have z2 : (s.extract (i + 1) s.size).size = s.size - (i + 1) := by rw [ByteArray.size_extract]; omega
      rw [label_eq k _ (by omega) (by omega), e1, h2']
      simp only [Option.bind_some, List.all_cons, List.length_cons]
      cases labelB ((bytesOf s).take i) with
      | true =>
        rw [if_pos rfl, w64 (by omega)]
        have hp : 0 < (cutL ((bytesOf s).drop (i + 1))).length := List.length_pos_iff.2 (cutL_ne _)
        by_cases h8 : (n : Int) + 1 > 8
        · rw [if_pos h8, decide_eq_false (by omega)]
          simp
        · rw [if_neg h8, show (n : Int) + 1 = ((n + 1 : Nat) : Int) by omega, ih k (n + 1) _ (by omega) (by omega) (by omega) (by omega), e2]
          simp only [Bool.true_and]
          rw [show n + 1 + (cutL ((bytesOf s).drop (i + 1))).length = n + ((cutL ((bytesOf s).drop (i + 1))).length + 1) by omega]
      | false => simp

/-- what the program says of a name. -/
theorem name_eq (k : Nat) (s : ByteArray) (hs : s.size ≤ 140737488351232) (hk : s.size + 2 ≤ k) : name_May.f k s = some (nameB (bytesOf s)) := by
  unfold name_May.f nameB
  by_cases h : s.size = 0
  · have hz : bytesOf s = [] := List.length_eq_zero_iff.1 (by rw [bytesOf_length]; omega)
    have ht : (s.toList != ([] : List UInt8)) = false := by rw [(toList_nil s).2 h]; rfl
    obtain ⟨k, rfl⟩ : ∃ j, k = j + 1 := ⟨k - 1, by omega⟩
    rw [ht, name_May.l0, if_neg (by decide), hz]
    rfl
  · have hz : bytesOf s ≠ [] := fun e => h (by rw [← bytesOf_length, e]; rfl)
    have ht : (s.toList != ([] : List UInt8)) = true := by
      rw [bne_iff_ne]
      exact fun e => h ((toList_nil s).1 e)
    have := may_loop s.size k 0 s (Nat.le_refl _) hs hk (by omega)
    rw [show ((0 : Nat) : Int) = 0 by rfl] at this
    rw [ht, this, decide_eq_false hz, Bool.false_or, Nat.zero_add]
/-- may a lease's state be so. -/
def stateB (st : Int) (cl nm : ByteArray) (won : Bool) : Bool :=
  if st = 0 ∨ st = 3 then decide (nm.size = 0) && !won else if st = 1 then decide (cl.size ≠ 0) && decide (nm.size = 0) && !won else if st = 2 then decide (cl.size ≠ 0) && (decide (nm.size ≠ 0) || !won) else false
/-- may a lease be. -/
def leaseB (h st : Int) (cl : ByteArray) (un : Int) (nm : ByteArray) (won : Bool) : Bool :=
  decide (2 ≤ h ∧ h ≤ 254) && stateB st cl nm won && decide (cl.size ≤ 16) && decide (0 ≤ un ∧ un ≤ 1099511627776) && nameB (bytesOf nm)
/-- does a lease hold. -/
def liveB (h st : Int) (cl : ByteArray) (un : Int) (nm : ByteArray) (won : Bool) (now : Int) : Bool := leaseB h st cl un nm won && decide (st ≠ 0) && decide (un > now)

theorem state_eq (k : Nat) (h st : Int) (cl : ByteArray) (un : Int) (nm : ByteArray) (won : Bool) : lease_state_r.f (k + 1) h st cl un nm won = some (stateB st cl nm won) := by
  have hj : ∀ b : Bool, b = decide (st = 0 ∨ st = 3) → lease_state.j0 (k + 1) st b h st cl un nm won = some (stateB st cl nm won, h, st, cl, un, nm, won) := by
    intro b hb
    subst hb
    rw [lease_state.j0]
    simp only [toList_nil]
    unfold stateB
    by_cases h0 : st = 0 ∨ st = 3
    · rw [if_pos (decide_eq_true h0), if_pos h0]
      by_cases hn : nm.size = 0
      · rw [if_pos hn, decide_eq_true hn, Bool.true_and]
      · rw [if_neg hn, decide_eq_false hn, Bool.false_and]
    · rw [if_neg (by simpa using h0), if_neg h0]
      by_cases h1 : st = 1
      · rw [if_pos h1, if_pos h1]
        by_cases hc : cl.size = 0
        · rw [if_pos hc, decide_eq_false (fun e => e hc)]
          rfl
        · rw [if_neg hc, decide_eq_true hc]
          by_cases hn : nm.size = 0
          · rw [if_pos hn, decide_eq_true hn]
            rfl
          · rw [if_neg hn, decide_eq_false hn]
            rfl
      · rw [if_neg h1, if_neg h1]
        by_cases h2 : st = 2
        · rw [if_pos h2, if_pos h2]
          by_cases hc : cl.size = 0
          · rw [if_pos hc, decide_eq_false (fun e => e hc)]
            rfl
          · rw [if_neg hc, decide_eq_true hc]
            by_cases hn : nm.size = 0
            · rw [if_pos hn, decide_eq_false (fun e => e hn)]
              rfl
            · rw [if_neg hn, decide_eq_true hn]
              rfl
        · rw [if_neg h2, if_neg h2]
  unfold lease_state_r.f lease_state.f
  by_cases h0 : st = 0
  · rw [if_pos h0, hj (st == 0) (by rw [Bool.eq_iff_iff]; simp only [beq_iff_eq, decide_eq_true_eq]; omega)]
    simp only [Option.bind_some, if_true]
  · rw [if_neg h0, hj (st == 3) (by rw [Bool.eq_iff_iff]; simp only [beq_iff_eq, decide_eq_true_eq]; omega)]
    simp only [Option.bind_some, if_true]

theorem time_eq (t : Int) : lease_Time.f t = some (decide (0 ≤ t ∧ t ≤ 1099511627776)) := by
  unfold lease_Time.f
  split
  · congr 1
    rw [Bool.eq_iff_iff]
    simp only [decide_eq_true_eq]
    omega
  · congr 1
    symm
    rw [decide_eq_false_iff_not]
    omega

/-- what the program says of a lease. -/
theorem lease_eq (k : Nat) (h st : Int) (cl : ByteArray) (un : Int) (nm : ByteArray) (won : Bool) (hs : nm.size ≤ 140737488351232) (hk : nm.size + 2 ≤ k) :
    lease_May.f k h st cl un nm won = some (leaseB h st cl un nm won) := by
  obtain ⟨k, rfl⟩ : ∃ j, k = j + 1 := ⟨k - 1, by omega⟩
  unfold lease_May.f leaseB
  rw [state_eq, time_eq, name_eq (k + 1) nm hs hk]
  simp only [Option.bind_some]
  by_cases h1 : h ≥ 2
  · rw [if_pos h1]
    by_cases h2 : h ≤ 254
    · rw [if_pos h2, decide_eq_true (show 2 ≤ h ∧ h ≤ 254 from ⟨h1, h2⟩)]
      cases stateB st cl nm won with
      | true =>
        rw [if_pos rfl]
        by_cases h3 : (cl.size : Int) ≤ 16
        · rw [if_pos h3, decide_eq_true (show cl.size ≤ 16 by omega)]
          by_cases h4 : 0 ≤ un ∧ un ≤ 1099511627776
          · rw [decide_eq_true h4, if_pos rfl]
            rfl
          · rw [decide_eq_false h4]
            rfl
        · rw [if_neg h3, decide_eq_false (show ¬ cl.size ≤ 16 by omega)]
          rfl
      | false => rfl
    · rw [if_neg h2, decide_eq_false (show ¬ (2 ≤ h ∧ h ≤ 254) from fun e => h2 e.2)]
      rfl
  · rw [if_neg h1, decide_eq_false (show ¬ (2 ≤ h ∧ h ≤ 254) from fun e => h1 e.1)]
    rfl
theorem live_eq (k : Nat) (h st : Int) (cl : ByteArray) (un : Int) (nm : ByteArray) (won : Bool) (now : Int) (hs : nm.size ≤ 140737488351232) (hk : nm.size + 2 ≤ k) :
    lease_Live.f k h st cl un nm won now = some (liveB h st cl un nm won now) := by
  unfold lease_Live.f liveB
  rw [lease_eq k h st cl un nm won hs hk]
  simp only [Option.bind_some]
  cases leaseB h st cl un nm won with
  | true =>
    rw [if_pos rfl]
    by_cases h0 : st = 0
    · rw [if_pos h0, decide_eq_false (fun e => e h0)]
      rfl
    · rw [if_neg h0, decide_eq_true h0]
      rfl
  | false => rfl
/-- may a lease be: as one piece. -/
def mayL (x : S24) : Bool := leaseB x.f0 x.f1 x.f2 x.f3 x.f4 x.f5
def liveL (x : S24) (now : Int) : Bool := liveB x.f0 x.f1 x.f2 x.f3 x.f4 x.f5 now
/-- does the lease at a place stand well there. -/
def tabAt (ls : List S24) (i : Nat) : Bool := mayL (rd_T24 ls i) && (decide (i = 0) || decide ((rd_T24 ls (i - 1 : Nat)).f0 < (rd_T24 ls i).f0))
def tabB (ls : List S24) : Bool := (List.range' 0 ls.length).all (tabAt ls) && decide (ls.length ≤ 8)
def smallL (ls : List S24) (m : Nat) : Prop := ∀ i : Nat, (rd_T24 ls i).f4.size ≤ m

theorem rdL_get (ls : List S24) (i : Nat) (h : i < ls.length) : rd_T24 ls i = ls[i] := by
  unfold rd_T24
  rw [Int.toNat_natCast, List.getD_eq_getElem?_getD, List.getElem?_eq_getElem h]
  rfl
theorem rdL_map (f : S24 → S24) (ls : List S24) (i : Nat) (h : i < ls.length) : rd_T24 (ls.map f) i = f (rd_T24 ls i) := by
  rw [rdL_get _ _ (by rw [List.length_map]; exact h), rdL_get _ _ h, List.getElem_map]
theorem rdL_out (ls : List S24) (i : Nat) (h : ls.length ≤ i) : rd_T24 ls i = z24 := by
  unfold rd_T24
  rw [Int.toNat_natCast, List.getD_eq_getElem?_getD, List.getElem?_eq_none h]
  rfl
theorem smallL_of (ls : List S24) (m : Nat) (h : ∀ x ∈ ls, x.f4.size ≤ m) : smallL ls m := by
  intro i
  by_cases hi : i < ls.length
  · rw [rdL_get _ _ hi]
    exact h _ (List.getElem_mem hi)
  · rw [rdL_out _ _ (by omega)]
    exact Nat.zero_le _

theorem table_loop (ls : List S24) (m : Nat) (hm : m ≤ 140737488351232) (hs : smallL ls m) (hl : ls.length ≤ 140737488351232) (d : Nat) : ∀ (k i : Nat), i + d = ls.length → 2 * d + m + 4 ≤ k →
    table_May.l0 k ls ls (ls.length : Int) (i : Int) = some ((List.range' i d).all (tabAt ls) && decide (ls.length ≤ 8)) := by
  induction d with
  | zero =>
    intro k i hi hk
    obtain ⟨k, rfl⟩ : ∃ j, k = j + 1 := ⟨k - 1, by omega⟩
    rw [table_May.l0, if_neg (by omega)]
    simp only [List.range'_zero, List.all_nil, Bool.true_and]
    congr 1
    rw [Bool.eq_iff_iff]
    simp only [decide_eq_true_eq]
    omega
  | succ d ih =>
    intro k i hi hk
    obtain ⟨k, rfl⟩ : ∃ j, k = j + 2 := ⟨k - 2, by omega⟩
    have hsi := hs i
    rw [table_May.l0, if_pos (by omega), if_pos (by omega), if_pos (by omega), lease_eq (k + 1) _ _ _ _ _ _ (by omega) (by omega), List.range'_succ, List.all_cons]
    simp only [Option.bind_some]
    have e : leaseB (rd_T24 ls i).f0 (rd_T24 ls i).f1 (rd_T24 ls i).f2 (rd_T24 ls i).f3 (rd_T24 ls i).f4 (rd_T24 ls i).f5 = mayL (rd_T24 ls i) := rfl
    rw [e]
    have hrec := ih k (i + 1) (by omega) (by omega)
    have hgo : ∀ b, table_May.j1 (k + 1) ls ls (ls.length : Int) (i : Int) b = if b = true then some false else some ((List.range' (i + 1) d).all (tabAt ls) && decide (ls.length ≤ 8)) := by
      intro b
      rw [table_May.j1, w64 (show -9223372036854775808 ≤ (i : Int) + 1 ∧ (i : Int) + 1 ≤ 9223372036854775807 by omega), show ((i : Int) + 1) = ((i + 1 : Nat) : Int) by omega, hrec]
    rw [hgo, hgo, hgo]
    generalize (List.range' (i + 1) d).all (tabAt ls) = q
    unfold tabAt
    cases hM : mayL (rd_T24 ls i) with
    | false => simp
    | true =>
      rw [if_pos rfl]
      by_cases h0 : i = 0
      · rw [if_neg (by omega), decide_eq_true h0]
        simp
      · rw [if_pos (by omega), w64 (show -9223372036854775808 ≤ (i : Int) - 1 ∧ (i : Int) - 1 ≤ 9223372036854775807 by omega), show ((i : Int) - 1) = ((i - 1 : Nat) : Int) by omega, if_pos (by omega), if_pos (by omega), decide_eq_false h0]
        by_cases hh : (rd_T24 ls (i - 1 : Nat)).f0 < (rd_T24 ls i).f0
        · rw [if_neg (by simp; omega), decide_eq_true hh]
          simp
        · rw [if_pos (by simp; omega), decide_eq_false hh]
          simp
theorem table_eq (k : Nat) (ls : List S24) (m : Nat) (hm : m ≤ 140737488351232) (hs : smallL ls m) (hl : ls.length ≤ 140737488351232) (hk : 2 * ls.length + m + 4 ≤ k) : table_May.f k ls = some (tabB ls) := by
  unfold table_May.f tabB
  have := table_loop ls m hm hs hl ls.length k 0 (by omega) hk
  rw [show ((0 : Nat) : Int) = 0 by rfl] at this
  exact this

/-- does a lease hold for a client. -/
def holdsL (a : ByteArray) (now : Int) (x : S24) : Bool := liveL x now && (decide (x.f1 ≠ 3) && (x.f2.toList == a.toList))
theorem holds_eq (k : Nat) (x : S24) (a : ByteArray) (now : Int) (hs : x.f4.size ≤ 140737488351232) (hk : x.f4.size + 2 ≤ k) : lease_Holds_r.f k x.f0 x.f1 x.f2 x.f3 x.f4 x.f5 a now = some (holdsL a now x) := by
  unfold lease_Holds_r.f lease_Holds.f holdsL liveL
  rw [live_eq k _ _ _ _ _ _ now hs hk]
  simp only [Option.bind_some]
  cases liveB x.f0 x.f1 x.f2 x.f3 x.f4 x.f5 now with
  | true =>
    rw [if_pos rfl]
    by_cases h3 : x.f1 = 3
    · rw [if_pos h3, decide_eq_false (fun e => e h3)]
      simp
    · rw [if_neg h3, decide_eq_true h3]
      simp
  | false => simp
theorem and_3 (a : Int) : Go.bits .and .i64 a 3 = a % 4 := and_mask a 2 (by decide)
theorem and_15 (a : Int) : Go.bits .and .i64 a 15 = a % 16 := and_mask a 4 (by decide)
theorem awake_eq (n : Nat) : pinfoldlaw13_awake.f (n + 20) = some true :=
  at_rounds (g := fun k => pinfoldlaw13_awake.f k) pinfoldlaw13_awake.mono (k := 20) (by omega) (by kernel_rfl)
/-- the lease of a place. -/
def mkL (l0 : List Int) (j : Nat) : S24 := ⟨10 + (j : Int), rd l0 (j : Int) % 4, if Go.bits .and .i64 (rd l0 (j : Int)) 64 = 64 then ⟨#[98]⟩ else ⟨#[97]⟩, rd l0 (j : Int) / 4 % 16, ⟨#[]⟩, false⟩
def rowsL (l0 : List Int) (n : Nat) : List S24 := (List.range n).map (mkL l0)
theorem rowsL_length (l0 : List Int) (n : Nat) : (rowsL l0 n).length = n := by
  unfold rowsL
  rw [List.length_map, List.length_range]
theorem rowsL_succ (l0 : List Int) (n : Nat) : rowsL l0 (n + 1) = rowsL l0 n ++ [mkL l0 n] := by
  unfold rowsL
  rw [List.range_succ, List.map_append]
  rfl
theorem rowsL_get (l0 : List Int) (n i : Nat) (h : i < n) : rd_T24 (rowsL l0 n) (i : Int) = mkL l0 i := by
  rw [rdL_get _ _ (by rw [rowsL_length]; exact h)]
  unfold rowsL
  rw [List.getElem_map, List.getElem_range]
theorem rowsL_mem (l0 : List Int) (n : Nat) (x : S24) (h : x ∈ rowsL l0 n) : ∃ j, j < n ∧ x = mkL l0 j := by
  unfold rowsL at h
  obtain ⟨j, hj, rfl⟩ := List.mem_map.1 h
  exact ⟨j, List.mem_range.1 hj, rfl⟩
theorem ab_size (c : Prop) [Decidable c] : (if c then (⟨#[98]⟩ : ByteArray) else ⟨#[97]⟩).size = 1 := by
  by_cases h : c
  · rw [if_pos h]; rfl
  · rw [if_neg h]; rfl
theorem mkL_may (l0 : List Int) (j : Nat) (h : j < 8) : mayL (mkL l0 j) = true := by
  have s0 := Int.emod_nonneg (rd l0 (j : Int)) (show (4 : Int) ≠ 0 by decide)
  have s1 := Int.emod_lt_of_pos (rd l0 (j : Int)) (show (0 : Int) < 4 by decide)
  have u0 := Int.emod_nonneg (rd l0 (j : Int) / 4) (show (16 : Int) ≠ 0 by decide)
  have u1 := Int.emod_lt_of_pos (rd l0 (j : Int) / 4) (show (0 : Int) < 16 by decide)
  have hc := ab_size (Go.bits .and .i64 (rd l0 (j : Int)) 64 = 64)
  have hst : stateB (rd l0 (j : Int) % 4) (if Go.bits .and .i64 (rd l0 (j : Int)) 64 = 64 then (⟨#[98]⟩ : ByteArray) else ⟨#[97]⟩) ⟨#[]⟩ false = true := by
    unfold stateB
    rw [hc]
    generalize rd l0 (j : Int) % 4 = s at s0 s1
    have : s = 0 ∨ s = 1 ∨ s = 2 ∨ s = 3 := by omega
    rcases this with rfl | rfl | rfl | rfl <;> rfl
  show leaseB (10 + (j : Int)) (rd l0 (j : Int) % 4) (if Go.bits .and .i64 (rd l0 (j : Int)) 64 = 64 then (⟨#[98]⟩ : ByteArray) else ⟨#[97]⟩) (rd l0 (j : Int) / 4 % 16) ⟨#[]⟩ false = true
  unfold leaseB
  rw [hst, hc, decide_eq_true (show 2 ≤ 10 + (j : Int) ∧ 10 + (j : Int) ≤ 254 by omega), decide_eq_true (show 0 ≤ rd l0 (j : Int) / 4 % 16 ∧ rd l0 (j : Int) / 4 % 16 ≤ 1099511627776 by omega)]
  decide
theorem mkL_holds (l0 : List Int) (j : Nat) (h : j < 8) (t : Int) : holdsL ⟨#[97]⟩ t (mkL l0 j) = decide ((mkL l0 j).f2.toList = ([97] : List UInt8) ∧ ((mkL l0 j).f1 = 1 ∨ (mkL l0 j).f1 = 2) ∧ t < (mkL l0 j).f3) := by
  have hm : leaseB (mkL l0 j).f0 (mkL l0 j).f1 (mkL l0 j).f2 (mkL l0 j).f3 (mkL l0 j).f4 (mkL l0 j).f5 = true := mkL_may l0 j h
  have s0 := Int.emod_nonneg (rd l0 (j : Int)) (show (4 : Int) ≠ 0 by decide)
  have s1 := Int.emod_lt_of_pos (rd l0 (j : Int)) (show (0 : Int) < 4 by decide)
  have e1 : (mkL l0 j).f1 = rd l0 (j : Int) % 4 := rfl
  have e2 : ((⟨#[97]⟩ : ByteArray).toList) = ([97] : List UInt8) := by rw [ByteArray.toList_eq]
  rw [← e1] at s0 s1
  unfold holdsL liveL liveB
  rw [hm, Bool.eq_iff_iff, e2]
  simp only [Bool.true_and, Bool.and_eq_true, decide_eq_true_eq, beq_iff_eq]
  constructor
  · rintro ⟨⟨h0, h1⟩, h3, hc⟩
    exact ⟨hc, by omega, h1⟩
  · rintro ⟨hc, h12, h1⟩
    exact ⟨⟨by omega, h1⟩, by omega, hc⟩
theorem tab_rows (l0 : List Int) (n : Nat) (hn : n ≤ 8) : tabB (rowsL l0 n) = true := by
  unfold tabB
  rw [rowsL_length, decide_eq_true hn, Bool.and_true, List.all_eq_true]
  intro i hi
  have hi2 : i < n := by
    have := List.mem_range'.1 hi
    omega
  unfold tabAt
  rw [rowsL_get l0 n i hi2, mkL_may l0 i (by omega), Bool.true_and]
  by_cases h0 : i = 0
  · rw [decide_eq_true h0]
    rfl
  · rw [rowsL_get l0 n (i - 1) (by omega), Bool.or_eq_true]
    right
    apply decide_eq_true
    show 10 + ((i - 1 : Nat) : Int) < 10 + (i : Int)
    omega
theorem idx_snoc (p : S24 → Bool) (l : List S24) (y : S24) : table_at.idx p (l ++ [y]) = if table_at.idx p l < 0 then (if p y = true then (l.length : Int) else -1) else table_at.idx p l := by
  unfold table_at.idx
  rw [List.findIdx?_append]
  cases e : l.findIdx? p with
  | some i =>
    simp only [Option.some_or]
    rw [if_neg (by omega)]
  | none =>
    simp only [Option.none_or]
    rw [if_pos (by decide)]
    by_cases hy : p y = true
    · rw [if_pos hy]
      simp [List.findIdx?_cons, hy]
    · rw [if_neg hy]
      simp [List.findIdx?_cons, hy]
theorem of_eq (k : Nat) (l0 : List Int) (n : Nat) (t : Int) (hn : n ≤ 8) (hk : 20 ≤ k) :
    table_Of.f k (rowsL l0 n) ⟨#[97]⟩ t = some (if table_at.idx (holdsL ⟨#[97]⟩ t) (rowsL l0 n) < 0 then (0, 0, (⟨#[]⟩ : ByteArray), 0, (⟨#[]⟩ : ByteArray), false, false) else
      ((rd_T24 (rowsL l0 n) (table_at.idx (holdsL ⟨#[97]⟩ t) (rowsL l0 n))).f0, (rd_T24 (rowsL l0 n) (table_at.idx (holdsL ⟨#[97]⟩ t) (rowsL l0 n))).f1, (rd_T24 (rowsL l0 n) (table_at.idx (holdsL ⟨#[97]⟩ t) (rowsL l0 n))).f2, (rd_T24 (rowsL l0 n) (table_at.idx (holdsL ⟨#[97]⟩ t) (rowsL l0 n))).f3, (rd_T24 (rowsL l0 n) (table_at.idx (holdsL ⟨#[97]⟩ t) (rowsL l0 n))).f4, (rd_T24 (rowsL l0 n) (table_at.idx (holdsL ⟨#[97]⟩ t) (rowsL l0 n))).f5, true)) := by
  have hh : ∀ x ∈ rowsL l0 n, lease_Holds_r.f k x.f0 x.f1 x.f2 x.f3 x.f4 x.f5 ⟨#[97]⟩ t = some (holdsL ⟨#[97]⟩ t x) := fun x hx => by
    obtain ⟨j, _, rfl⟩ := rowsL_mem l0 n x hx
    exact holds_eq k _ _ t (by show (0 : Nat) ≤ _; omega) (by show 0 + 2 ≤ k; omega)
  have e : table_at.idx (table_Of.p k ⟨#[97]⟩ t) (rowsL l0 n) = table_at.idx (holdsL ⟨#[97]⟩ t) (rowsL l0 n) := table_at.idx_congr _ _ _ (fun x hx => by
    unfold table_Of.p
    rw [hh x hx]
    rfl)
  have hsm : smallL (rowsL l0 n) 0 := smallL_of _ _ (fun x hx => by
    obtain ⟨j, _, rfl⟩ := rowsL_mem l0 n x hx
    exact Nat.le_refl _)
  unfold table_Of.f
  rw [if_pos (by rw [rowsL_length]; omega), if_pos (fun x hx => by rw [hh x hx]; rfl), e]
  by_cases hi : table_at.idx (holdsL ⟨#[97]⟩ t) (rowsL l0 n) < 0
  · rw [if_pos hi, if_pos hi]
  · rw [if_neg hi, if_neg hi, table_eq k _ 0 (by omega) hsm (by rw [rowsL_length]; omega) (by rw [rowsL_length]; omega), tab_rows l0 n hn]
    rfl
theorem end_eq (k : Nat) (l0 : List Int) (n : Nat) (t x8 : Int) (hn : n ≤ 8) (hk : 20 ≤ k) :
    pinfoldlaw13_TableOf.j1 (k + 1) l0 t (rowsL l0 n) (table_at.idx (holdsL ⟨#[97]⟩ t) (rowsL l0 n)) x8 false = some true := by
  rw [pinfoldlaw13_TableOf.j1, if_neg (by decide), of_eq k l0 n t hn hk]
  have hlt := (table_at.idx_lt (holdsL ⟨#[97]⟩ t) (rowsL l0 n)).1
  generalize table_at.idx (holdsL ⟨#[97]⟩ t) (rowsL l0 n) = i at hlt
  simp only [Option.bind_some]
  by_cases hi : i < 0
  · rw [if_pos hi]
    simp only
    rw [if_pos (by rw [decide_eq_false (by omega)]; rfl), if_neg (by decide), if_pos (by
      have e0 : ((⟨#[]⟩ : ByteArray).toList) = ([] : List UInt8) := (toList_nil _).2 rfl
      rw [e0]
      rfl)]
    rfl
  · rw [if_neg hi]
    simp only
    rw [if_pos (by rw [decide_eq_true (by omega)]; rfl), if_pos (by trivial), if_pos (by omega), if_pos hlt, if_pos (by simp)]
    rfl
theorem loop_eq (l0 : List Int) (hl : l0.length ≤ 4611686018427387904) (t : Int) (N : Nat) (hN : N = min l0.length 8) (d : Nat) : ∀ (k i : Nat), i + d = N → 4 * d + 24 ≤ k →
    pinfoldlaw13_TableOf.l0 k l0 t (rowsL l0 i) (table_at.idx (holdsL ⟨#[97]⟩ t) (rowsL l0 i)) (i : Int) = some true := by
  induction d with
  | zero =>
    intro k i hi hk
    obtain ⟨k, rfl⟩ : ∃ m, k = m + 2 := ⟨k - 2, by omega⟩
    rw [pinfoldlaw13_TableOf.l0]
    by_cases h : (i : Int) < (l0.length : Int)
    · rw [if_pos h, decide_eq_false (by omega)]
      exact end_eq k l0 i t _ (by omega) (by omega)
    · rw [if_neg h]
      exact end_eq k l0 i t _ (by omega) (by omega)
  | succ d ih =>
    intro k i hi hk
    obtain ⟨k, rfl⟩ : ∃ m, k = m + 4 := ⟨k - 4, by omega⟩
    have ih' := ih k (i + 1) (by omega) (by omega)
    rw [rowsL_succ, idx_snoc, rowsL_length, mkL_holds l0 i (by omega) t] at ih'
    rw [pinfoldlaw13_TableOf.l0, if_pos (by omega), decide_eq_true (by omega), pinfoldlaw13_TableOf.j1, if_pos rfl, if_pos (by omega), if_pos (by omega), and_3, and_15, w64 (show -9223372036854775808 ≤ 10 + (i : Int) ∧ 10 + (i : Int) ≤ 9223372036854775807 by omega)]
    have hmk : ∀ (k : Nat) (b : ByteArray), (mkL l0 i).f2 = b → pinfoldlaw13_TableOf.j2 (k + 2) l0 t (rowsL l0 i) (table_at.idx (holdsL ⟨#[97]⟩ t) (rowsL l0 i)) (i : Int) (10 + (i : Int)) (rd l0 (i : Int) % 4) b (rd l0 (i : Int) / 4 % 16) ⟨#[]⟩ false = pinfoldlaw13_TableOf.l0 k l0 t (rowsL l0 i ++ [mkL l0 i]) (if table_at.idx (holdsL ⟨#[97]⟩ t) (rowsL l0 i) < 0 then (if decide ((mkL l0 i).f2.toList = ([97] : List UInt8) ∧ ((mkL l0 i).f1 = 1 ∨ (mkL l0 i).f1 = 2) ∧ t < (mkL l0 i).f3) = true then (i : Int) else -1) else table_at.idx (holdsL ⟨#[97]⟩ t) (rowsL l0 i)) ((i + 1 : Nat) : Int) := by
      intro k b hb
      have hx : (⟨10 + (i : Int), rd l0 (i : Int) % 4, b, rd l0 (i : Int) / 4 % 16, ⟨#[]⟩, false⟩ : S24) = mkL l0 i := by
        rw [← hb]
        rfl
      have h1 : (mkL l0 i).f1 = rd l0 (i : Int) % 4 := rfl
      have h3 : (mkL l0 i).f3 = rd l0 (i : Int) / 4 % 16 := rfl
      have hlen : (rowsL l0 i).length < 2199023255552 := by rw [rowsL_length]; omega
      have hi1 : wrap64 ((i : Int) + 1) = ((i + 1 : Nat) : Int) := by rw [w64 (by omega)]; omega
      have hge := (table_at.idx_lt (holdsL ⟨#[97]⟩ t) (rowsL l0 i)).2
      have yes : ∀ k, pinfoldlaw13_TableOf.j3 (k + 1) l0 t (rowsL l0 i) (table_at.idx (holdsL ⟨#[97]⟩ t) (rowsL l0 i)) (i : Int) true (10 + (i : Int)) (rd l0 (i : Int) % 4) b (rd l0 (i : Int) / 4 % 16) ⟨#[]⟩ false = pinfoldlaw13_TableOf.l0 k l0 t (rowsL l0 i ++ [mkL l0 i]) (i : Int) ((i + 1 : Nat) : Int) := fun k => by
        rw [pinfoldlaw13_TableOf.j3, if_pos rfl, if_pos hlen, hx, hi1]
      have no : ∀ k, pinfoldlaw13_TableOf.j3 (k + 1) l0 t (rowsL l0 i) (table_at.idx (holdsL ⟨#[97]⟩ t) (rowsL l0 i)) (i : Int) false (10 + (i : Int)) (rd l0 (i : Int) % 4) b (rd l0 (i : Int) / 4 % 16) ⟨#[]⟩ false = pinfoldlaw13_TableOf.l0 k l0 t (rowsL l0 i ++ [mkL l0 i]) (table_at.idx (holdsL ⟨#[97]⟩ t) (rowsL l0 i)) ((i + 1 : Nat) : Int) := fun k => by
        rw [pinfoldlaw13_TableOf.j3, if_neg (by decide), if_pos hlen, hx, hi1]
      rw [pinfoldlaw13_TableOf.j2, hb, h1, h3]
      by_cases hw : table_at.idx (holdsL ⟨#[97]⟩ t) (rowsL l0 i) < 0
      · have hw1 : table_at.idx (holdsL ⟨#[97]⟩ t) (rowsL l0 i) = -1 := by omega
        rw [if_pos hw, if_pos hw]
        by_cases hc : b.toList = ([97] : List UInt8)
        · rw [if_pos hc]
          by_cases hu : t < rd l0 (i : Int) / 4 % 16
          · rw [decide_eq_true (show rd l0 (i : Int) / 4 % 16 > t from hu)]
            by_cases s1 : rd l0 (i : Int) % 4 = 1
            · rw [if_pos s1, yes, if_pos (decide_eq_true ⟨hc, Or.inl s1, hu⟩)]
            · rw [if_neg s1]
              by_cases s2 : rd l0 (i : Int) % 4 = 2
              · rw [if_pos s2, yes, if_pos (decide_eq_true ⟨hc, Or.inr s2, hu⟩)]
              · rw [if_neg s2, no, if_neg (fun e => by have := (of_decide_eq_true e).2.1; omega), hw1]
          · rw [decide_eq_false (show ¬ rd l0 (i : Int) / 4 % 16 > t from hu)]
            by_cases s1 : rd l0 (i : Int) % 4 = 1
            · rw [if_pos s1, no, if_neg (fun e => hu (of_decide_eq_true e).2.2), hw1]
            · rw [if_neg s1]
              by_cases s2 : rd l0 (i : Int) % 4 = 2
              · rw [if_pos s2, no, if_neg (fun e => hu (of_decide_eq_true e).2.2), hw1]
              · rw [if_neg s2, no, if_neg (fun e => hu (of_decide_eq_true e).2.2), hw1]
        · rw [if_neg hc, no, if_neg (fun e => hc (of_decide_eq_true e).1), hw1]
      · rw [if_neg hw, if_neg hw, no]
    by_cases h64 : Go.bits .and .i64 (rd l0 (i : Int)) 64 = 64
    · rw [if_pos h64, hmk k _ (by show (if _ then _ else _) = _; rw [if_pos h64])]
      exact ih'
    · rw [if_neg h64, hmk k _ (by show (if _ then _ else _) = _; rw [if_neg h64])]
      exact ih'
/-- the first Live one that is offered or bound to a client is told, none else. -/
theorem TableOf : pinfoldlaw13_TableOf.Pure := by
  intro l0 a1 h0 _
  refine ⟨100, ?_⟩
  have hll : l0.length ≤ 4611686018427387904 := by
    have h2 := h0.1
    have h3 : Try.prog.bytesOf 3 = 8 := by kernel_rfl
    rw [h3] at h2
    omega
  unfold pinfoldlaw13_TableOf.f
  rw [awake_eq 80, and_15]
  simp only [Option.bind_some, if_true]
  exact loop_eq l0 hll (a1 % 16) _ rfl (min l0.length 8) 100 0 (by omega) (by omega)

end Go.Proofs.Ytfkgfjllgiblhaa.Pure
