/- Sweeps: any leases at any time: the program sweeps as the document does, and what it was given stays. No condition. -/
import Derived.Test.YtpfanafggmkejaaPSweepsx9
namespace Go.Proofs.Ytpfanafggmkejaa.Pure
open Go.RowKit Go.Proofs.Ytpfanafggmkejaa.PSweeps Go.Proofs.YtpfanafggmkejaaW.PrintWords Go.Proofs.YtpfanafggmkejaaW.PrintLast
set_option linter.unusedSimpArgs false
set_option linter.unusedVariables false

/-- the bounds of an int. -/
theorem int_bd {a : Int} (h : (Lit.int .i64 a).wf = true) : -9223372036854775808 ≤ a ∧ a ≤ 9223372036854775807 := by
  simp only [Lit.wf, IntKind.min, IntKind.max, IntKind.signed, IntKind.bits, Bool.and_eq_true, decide_eq_true_eq, if_true] at h
  omega
theorem u64_eq (a : Int) : IntKind.u64.wrap a = a % 18446744073709551616 := by simp [IntKind.wrap, IntKind.bits, IntKind.signed]
theorem w64 {a : Int} (h : -9223372036854775808 ≤ a ∧ a ≤ 9223372036854775807) : wrap64 a = a := by unfold wrap64; omega
/-- the low bits of any int. -/
theorem and_mask (a : Int) (i : Nat) (hi : i ≤ 62) : Go.bits .and .i64 a ((2 ^ i - 1 : Nat) : Int) = a % ((2 ^ i : Nat) : Int) := by
  have hp : 0 < 2 ^ i := Nat.two_pow_pos i
  have hl : 2 ^ i ≤ 2 ^ 62 := Nat.pow_le_pow_right (by decide) hi
  show IntKind.wrap .i64 (((BitVec.ofInt 64 a &&& BitVec.ofInt 64 ((2 ^ i - 1 : Nat) : Int)).toNat : Nat) : Int) = _
  have e : (((BitVec.ofInt 64 a &&& BitVec.ofInt 64 ((2 ^ i - 1 : Nat) : Int)).toNat : Nat) : Int) = a % ((2 ^ i : Nat) : Int) := by
    rw [BitVec.toNat_and, BitVec.ofInt_natCast, BitVec.toNat_ofNat, Nat.mod_eq_of_lt (show 2 ^ i - 1 < 2 ^ 64 by omega), Nat.and_two_pow_sub_one_eq_mod, BitVec.toNat_ofInt]
    rw [Int.natCast_emod, Int.toNat_of_nonneg (Int.emod_nonneg _ (by decide))]
    exact Int.emod_emod_of_dvd a (by
      rw [Int.natCast_dvd_natCast]
      exact Nat.pow_dvd_pow 2 (by omega))
  rw [e, IntKind.wrap_i64]
  have h0 := Int.emod_nonneg a (show ((2 ^ i : Nat) : Int) ≠ 0 by omega)
  have h1 := Int.emod_lt_of_pos a (show 0 < ((2 ^ i : Nat) : Int) by omega)
  omega
theorem and_1023 (a : Int) : Go.bits .and .i64 a 1023 = a % 1024 := and_mask a 10 (by decide)
theorem and_63 (a : Int) : Go.bits .and .i64 a 63 = a % 64 := and_mask a 6 (by decide)
theorem and_255 (a : Int) : Go.bits .and .i64 a 255 = a % 256 := and_mask a 8 (by decide)
theorem and_65535 (a : Int) : Go.bits .and .i64 a 65535 = a % 65536 := and_mask a 16 (by decide)
theorem and_u32 (a : Int) : Go.bits .and .i64 a 4294967295 = a % 4294967296 := and_mask a 32 (by decide)
theorem wraps_i64 (n : Int) (h0 : 0 ≤ n) (h1 : n < 2 ^ 63) : IntKind.i64.wrap n = n := by rw [IntKind.wrap_i64]; omega
theorem or_byte (x b : Int) (hx : 0 ≤ x ∧ x < 281474976710656) (hb : 0 ≤ b ∧ b < 256) : Go.bits .or .i64 (wrap64 (x * 256)) b = x * 256 + b := by
  rw [w64 (by omega)]
  exact bits_join .i64 63 (by decide) wraps_i64 8 (x * 256) b (by omega) (by omega) (by omega) hb.1 (by omega) (by omega)
theorem num_eq (a : Int) : pinfoldlaw0_Num.f a = some a := rfl
theorem bt_bd (s : ByteArray) (i : Int) : 0 ≤ bt s i ∧ bt s i < 256 := by have := bt_range s i; omega
theorem toList_nil (s : ByteArray) : s.toList = ([] : List UInt8) ↔ s.size = 0 := by
  rw [ByteArray.toList_eq, ← data_length, List.length_eq_zero_iff]
theorem drop_cons (s : ByteArray) (i : Nat) (h : i < s.size) : (bytesOf s).drop i = bt s i :: (bytesOf s).drop (i + 1) := by
  have hl : i < (bytesOf s).length := by rw [bytesOf_length]; exact h
  rw [List.drop_eq_getElem_cons hl, ← rd_bytesOf]
  unfold rd
  rw [Int.toNat_natCast, List.getD_eq_getElem?_getD, List.getElem?_eq_getElem hl]
  rfl
theorem drop_end (s : ByteArray) (i : Nat) (h : s.size ≤ i) : (bytesOf s).drop i = [] := List.drop_eq_nil_of_le (by rw [bytesOf_length]; exact h)
theorem bytesOf_extract (s : ByteArray) (a b : Nat) : bytesOf (s.extract a b) = ((bytesOf s).drop a).take (b - a) := by
  unfold bytesOf
  rw [ByteArray.data_extract, Array.toList_extract, List.extract_eq_take_drop, List.map_take, List.map_drop]

/-- may a label have such a byte. -/
def letterB (b : Int) : Bool := decide ((97 ≤ b ∧ b ≤ 122) ∨ (48 ≤ b ∧ b ≤ 57) ∨ b = 45)
/-- may a label be so. -/
def labelB (l : List Int) : Bool := l.all letterB && decide (1 ≤ l.length ∧ l.length ≤ 8)
/-- a text, cut at its points. -/
def glue (p : List Int) : List (List Int) → List (List Int)
  | [] => [p]
  | q :: qs => (p ++ q) :: qs
def cutL : List Int → List (List Int)
  | [] => [[]]
  | b :: l => if b = 46 then [] :: cutL l else glue [b] (cutL l)
/-- may a name be so. -/
def nameB (l : List Int) : Bool := decide (l = []) || ((cutL l).all labelB && decide ((cutL l).length ≤ 8))

theorem cutL_ne : ∀ l, cutL l ≠ []
  | [] => by simp [cutL]
  | b :: l => by
    unfold cutL
    split
    · simp
    · cases cutL l <;> simp [glue]
theorem glue_nil (l : List (List Int)) (h : l ≠ []) : glue [] l = l := by
  cases l with
  | nil => exact absurd rfl h
  | cons q qs => simp [glue]
theorem glue_glue (p q : List Int) (l : List (List Int)) : glue p (glue q l) = glue (p ++ q) l := by
  cases l <;> simp [glue]
theorem cutL_point (l : List Int) : cutL (46 :: l) = [] :: cutL l := by rw [cutL, if_pos rfl]
theorem cutL_other (b : Int) (l : List Int) (h : b ≠ 46) : cutL (b :: l) = glue [b] (cutL l) := by rw [cutL, if_neg h]

theorem letter_eq (b : Int) : name_letter.f b = some (letterB b) := by
  have e : ∀ x : Bool, (x = true ↔ ((97 ≤ b ∧ b ≤ 122) ∨ (48 ≤ b ∧ b ≤ 57) ∨ b = 45)) → some x = some (letterB b) := by
    intro x hx
    congr 1
    rw [Bool.eq_iff_iff, hx]
    simp only [letterB, decide_eq_true_eq]
  unfold name_letter.f
  repeat' split
  all_goals apply e
  all_goals simp only [beq_iff_eq, true_iff]
  all_goals omega

theorem label_loop (s : ByteArray) (hs : s.size ≤ 4611686018427387904) (d : Nat) : ∀ (k i : Nat), i + d = s.size → d < k →
    name_Label.l0 k s (s.size : Int) (i : Int) = some (((bytesOf s).drop i).all letterB && decide (1 ≤ s.size ∧ s.size ≤ 8)) := by
  induction d with
  | zero =>
    intro k i hi hk
    obtain ⟨k, rfl⟩ : ∃ m, k = m + 1 := ⟨k - 1, by omega⟩
    rw [name_Label.l0, if_neg (by omega), drop_end s i (by omega)]
    simp only [List.all_nil, Bool.true_and]
    split
    · congr 1
      rw [Bool.eq_iff_iff]
      simp only [decide_eq_true_eq]
      omega
    · congr 1
      symm
      rw [decide_eq_false_iff_not]
      omega
  | succ d ih =>
    intro k i hi hk
    obtain ⟨k, rfl⟩ : ∃ m, k = m + 1 := ⟨k - 1, by omega⟩
    rw [name_Label.l0, if_pos (by omega), if_pos (by omega), if_pos (by omega), letter_eq, drop_cons s i (by omega)]
    simp only [Option.bind_some, List.all_cons]
    cases letterB (bt s i) with
    | true =>
      rw [if_pos rfl, w64 (by omega)]
      have := ih k (i + 1) (by omega) (by omega)
      rw [show ((i : Int) + 1) = ((i + 1 : Nat) : Int) by omega, this]
      simp
    | false => simp
theorem label_eq (k : Nat) (s : ByteArray) (hs : s.size ≤ 4611686018427387904) (hk : s.size < k) : name_Label.f k s = some (labelB (bytesOf s)) := by
  unfold name_Label.f
  have := label_loop s hs s.size k 0 (by omega) hk
  rw [show ((0 : Nat) : Int) = 0 by rfl] at this
  rw [this]
  unfold labelB
  rw [List.drop_zero, bytesOf_length]

theorem cut_index : ∀ L : List UInt8, (Lib.indexByte L 46 = -1 ∧ cutL (L.map fun b => (b.toNat : Int)) = [L.map fun b => (b.toNat : Int)]) ∨
    (0 ≤ Lib.indexByte L 46 ∧ Lib.indexByte L 46 < (L.length : Int) ∧ cutL (L.map fun b => (b.toNat : Int)) = (L.map fun b => (b.toNat : Int)).take (Lib.indexByte L 46).toNat :: cutL ((L.map fun b => (b.toNat : Int)).drop ((Lib.indexByte L 46).toNat + 1)))
  | [] => .inl ⟨rfl, rfl⟩
  | b :: L => by
    have ih := cut_index L
    by_cases hb : b = 46
    · subst hb
      refine .inr ⟨by simp [Lib.indexByte], by simp [Lib.indexByte], ?_⟩
      have e : Lib.indexByte (46 :: L) 46 = 0 := by simp [Lib.indexByte]
      rw [e]
      exact cutL_point _
    · have hb2 : ((b.toNat : Nat) : Int) ≠ 46 := by
        intro h
        apply hb
        have h2 : b.toNat = 46 := by omega
        exact UInt8.toNat_inj.1 h2
      have hne : (b == 46) = false := by simpa using hb
      rcases ih with ⟨h1, h2⟩ | ⟨h1, h2, h3⟩
      · refine .inl ⟨by simp [Lib.indexByte, hne, h1], ?_⟩
        rw [List.map_cons, cutL_other _ _ hb2, h2]
        rfl
      · have e : Lib.indexByte (b :: L) 46 = Lib.indexByte L 46 + 1 := by
          have h4 : (Lib.indexByte L 46 == -1) = false := by
            rw [beq_eq_false_iff_ne]
            omega
          simp [Lib.indexByte, hne, h4]
        refine .inr ⟨by omega, by rw [e, List.length_cons]; omega, ?_⟩
        rw [e, show (Lib.indexByte L 46 + 1).toNat = (Lib.indexByte L 46).toNat + 1 by omega, List.map_cons, cutL_other _ _ hb2, h3]
        rfl

theorem may_loop (m : Nat) : ∀ (k n : Nat) (s : ByteArray), s.size ≤ m → s.size ≤ 140737488351232 → m + 2 ≤ k → n ≤ 8 →
    name_May.l0 k (n : Int) s true = some ((cutL (bytesOf s)).all labelB && decide (n + (cutL (bytesOf s)).length ≤ 8)) := by
  induction m with
  | zero =>
    intro k n s hm hs hk hn
    obtain ⟨k, rfl⟩ : ∃ j, k = j + 1 := ⟨k - 1, by omega⟩
    have hz : bytesOf s = [] := List.length_eq_zero_iff.1 (by rw [bytesOf_length]; omega)
    rw [name_May.l0, if_pos rfl]
    have hd : s.data.toList = [] := List.length_eq_zero_iff.1 (by rw [data_length]; omega)
    have hc : strings_Cut.f s ⟨#[46]⟩ = some (s, ⟨#[]⟩, false) := by
      unfold strings_Cut.f stringslite_Cut.f
      rw [if_pos ⟨rfl, hs⟩]
      unfold stringslite_Cut.v stringslite_Index.at_
      rw [hd]
      rfl
    rw [hc]
    simp only [Option.bind_some]
    rw [label_eq k s (by omega) (by omega), hz]
    simp [labelB, cutL]
  | succ m ih =>
    intro k n s hm hs hk hn
    obtain ⟨k, rfl⟩ : ∃ j, k = j + 1 := ⟨k - 1, by omega⟩
    rw [name_May.l0, if_pos rfl]
    rcases cut_index s.data.toList with ⟨h1, h2⟩ | ⟨h1, h1', h2⟩
    · have hc : strings_Cut.f s ⟨#[46]⟩ = some (s, ⟨#[]⟩, false) := by
        unfold strings_Cut.f stringslite_Cut.f
        rw [if_pos ⟨rfl, hs⟩]
        unfold stringslite_Cut.v stringslite_Index.at_
        rw [show (⟨#[46]⟩ : ByteArray).data.toList.headD 0 = 46 from rfl, h1, if_neg (by decide)]
      have h2' : cutL (bytesOf s) = [bytesOf s] := h2
      rw [hc, h2']
      simp only [Option.bind_some]
      rw [label_eq k s (by omega) (by omega)]
      simp only [Option.bind_some, List.all_cons, List.all_nil, Bool.and_true, List.length_cons, List.length_nil]
      cases labelB (bytesOf s) with
      | true =>
        rw [if_pos rfl, w64 (by omega)]
        by_cases h8 : (n : Int) + 1 > 8
        · rw [if_pos h8, decide_eq_false (by omega)]
          rfl
        · rw [if_neg h8, decide_eq_true (by omega)]
          obtain ⟨k, rfl⟩ : ∃ j, k = j + 1 := ⟨k - 1, by omega⟩
          rw [name_May.l0, if_neg (by decide)]
          rfl
      | false => simp
    · have hc : strings_Cut.f s ⟨#[46]⟩ = some (s.extract 0 (Lib.indexByte s.data.toList 46).toNat, s.extract ((Lib.indexByte s.data.toList 46).toNat + 1) s.size, true) := by
        unfold strings_Cut.f stringslite_Cut.f
        rw [if_pos ⟨rfl, hs⟩]
        unfold stringslite_Cut.v stringslite_Index.at_
        rw [show (⟨#[46]⟩ : ByteArray).data.toList.headD 0 = 46 from rfl, if_pos h1]
      have h2' : cutL (bytesOf s) = (bytesOf s).take (Lib.indexByte s.data.toList 46).toNat :: cutL ((bytesOf s).drop ((Lib.indexByte s.data.toList 46).toNat + 1)) := h2
      rw [data_length] at h1'
      obtain ⟨i, hi⟩ : ∃ i : Nat, (Lib.indexByte s.data.toList 46).toNat = i := ⟨_, rfl⟩
      rw [hi] at hc h2'
      have hil : i < s.size := by omega
      rw [hc]
      simp only [Option.bind_some]
      have e1 : bytesOf (s.extract 0 i) = (bytesOf s).take i := by rw [bytesOf_extract, List.drop_zero, Nat.sub_zero]
      have e2 : bytesOf (s.extract (i + 1) s.size) = (bytesOf s).drop (i + 1) := by
        rw [bytesOf_extract, List.take_of_length_le (by rw [List.length_drop, bytesOf_length]; omega)]
      have z1 : (s.extract 0 i).size = i := by rw [ByteArray.size_extract]; omega
      have z2 : (s.extract (i + 1) s.size).size = s.size - (i + 1) := by rw [ByteArray.size_extract]; omega
      rw [label_eq k _ (by omega) (by omega), e1, h2']
      simp only [Option.bind_some, List.all_cons, List.length_cons]
      cases labelB ((bytesOf s).take i) with
      | true =>
        rw [if_pos rfl, w64 (by omega)]
        have hp : 0 < (cutL ((bytesOf s).drop (i + 1))).length := List.length_pos_iff.2 (cutL_ne _)
        by_cases h8 : (n : Int) + 1 > 8
        · rw [if_pos h8, decide_eq_false (by omega)]
          simp
        · rw [if_neg h8, show (n : Int) + 1 = ((n + 1 : Nat) : Int) by omega, ih k (n + 1) _ (by omega) (by omega) (by omega) (by omega), e2]
          simp only [Bool.true_and]
          rw [show n + 1 + (cutL ((bytesOf s).drop (i + 1))).length = n + ((cutL ((bytesOf s).drop (i + 1))).length + 1) by omega]
      | false => simp

/-- what the program says of a name. -/
theorem name_eq (k : Nat) (s : ByteArray) (hs : s.size ≤ 140737488351232) (hk : s.size + 2 ≤ k) : name_May.f k s = some (nameB (bytesOf s)) := by
  unfold name_May.f nameB
  by_cases h : s.size = 0
  · have hz : bytesOf s = [] := List.length_eq_zero_iff.1 (by rw [bytesOf_length]; omega)
    have ht : (s.toList != ([] : List UInt8)) = false := by rw [(toList_nil s).2 h]; rfl
    obtain ⟨k, rfl⟩ : ∃ j, k = j + 1 := ⟨k - 1, by omega⟩
    rw [ht, name_May.l0, if_neg (by decide), hz]
    rfl
  · have hz : bytesOf s ≠ [] := fun e => h (by rw [← bytesOf_length, e]; rfl)
    have ht : (s.toList != ([] : List UInt8)) = true := by
      rw [bne_iff_ne]
      exact fun e => h ((toList_nil s).1 e)
    have := may_loop s.size k 0 s (Nat.le_refl _) hs hk (by omega)
    rw [show ((0 : Nat) : Int) = 0 by rfl] at this
    rw [ht, this, decide_eq_false hz, Bool.false_or, Nat.zero_add]
/-- may a lease's state be so. -/
def stateB (st : Int) (cl nm : ByteArray) (won : Bool) : Bool :=
  if st = 0 ∨ st = 3 then decide (nm.size = 0) && !won else if st = 1 then decide (cl.size ≠ 0) && decide (nm.size = 0) && !won else if st = 2 then decide (cl.size ≠ 0) && (decide (nm.size ≠ 0) || !won) else false
/-- may a lease be. -/
def leaseB (h st : Int) (cl : ByteArray) (un : Int) (nm : ByteArray) (won : Bool) : Bool :=
  decide (2 ≤ h ∧ h ≤ 254) && stateB st cl nm won && decide (cl.size ≤ 16) && decide (0 ≤ un ∧ un ≤ 1099511627776) && nameB (bytesOf nm)
/-- does a lease hold. -/
def liveB (h st : Int) (cl : ByteArray) (un : Int) (nm : ByteArray) (won : Bool) (now : Int) : Bool := leaseB h st cl un nm won && decide (st ≠ 0) && decide (un > now)

theorem state_eq (k : Nat) (h st : Int) (cl : ByteArray) (un : Int) (nm : ByteArray) (won : Bool) : lease_state_r.f (k + 1) h st cl un nm won = some (stateB st cl nm won) := by
  have hj : ∀ b : Bool, b = decide (st = 0 ∨ st = 3) → lease_state.j0 (k + 1) st b h st cl un nm won = some (stateB st cl nm won, h, st, cl, un, nm, won) := by
    intro b hb
    subst hb
    rw [lease_state.j0]
    simp only [toList_nil]
    unfold stateB
    by_cases h0 : st = 0 ∨ st = 3
    · rw [if_pos (decide_eq_true h0), if_pos h0]
      by_cases hn : nm.size = 0
      · rw [if_pos hn, decide_eq_true hn, Bool.true_and]
      · rw [if_neg hn, decide_eq_false hn, Bool.false_and]
    · rw [if_neg (by simpa using h0), if_neg h0]
      by_cases h1 : st = 1
      · rw [if_pos h1, if_pos h1]
        by_cases hc : cl.size = 0
        · rw [if_pos hc, decide_eq_false (fun e => e hc)]
          rfl
        · rw [if_neg hc, decide_eq_true hc]
          by_cases hn : nm.size = 0
          · rw [if_pos hn, decide_eq_true hn]
            rfl
          · rw [if_neg hn, decide_eq_false hn]
            rfl
      · rw [if_neg h1, if_neg h1]
        by_cases h2 : st = 2
        · rw [if_pos h2, if_pos h2]
          by_cases hc : cl.size = 0
          · rw [if_pos hc, decide_eq_false (fun e => e hc)]
            rfl
          · rw [if_neg hc, decide_eq_true hc]
            by_cases hn : nm.size = 0
            · rw [if_pos hn, decide_eq_false (fun e => e hn)]
              rfl
            · rw [if_neg hn, decide_eq_true hn]
              rfl
        · rw [if_neg h2, if_neg h2]
  unfold lease_state_r.f lease_state.f
  by_cases h0 : st = 0
  · rw [if_pos h0, hj (st == 0) (by rw [Bool.eq_iff_iff]; simp only [beq_iff_eq, decide_eq_true_eq]; omega)]
    simp only [Option.bind_some, if_true]
  · rw [if_neg h0, hj (st == 3) (by rw [Bool.eq_iff_iff]; simp only [beq_iff_eq, decide_eq_true_eq]; omega)]
    simp only [Option.bind_some, if_true]

theorem time_eq (t : Int) : lease_Time.f t = some (decide (0 ≤ t ∧ t ≤ 1099511627776)) := by
  unfold lease_Time.f
  split
  · congr 1
    rw [Bool.eq_iff_iff]
    simp only [decide_eq_true_eq]
    omega
  · congr 1
    symm
    rw [decide_eq_false_iff_not]
    omega

/-- what the program says of a lease. -/
theorem lease_eq (k : Nat) (h st : Int) (cl : ByteArray) (un : Int) (nm : ByteArray) (won : Bool) (hs : nm.size ≤ 140737488351232) (hk : nm.size + 2 ≤ k) :
    lease_May.f k h st cl un nm won = some (leaseB h st cl un nm won) := by
  obtain ⟨k, rfl⟩ : ∃ j, k = j + 1 := ⟨k - 1, by omega⟩
  unfold lease_May.f leaseB
  rw [state_eq, time_eq, name_eq (k + 1) nm hs hk]
  simp only [Option.bind_some]
  by_cases h1 : h ≥ 2
  · rw [if_pos h1]
    by_cases h2 : h ≤ 254
    · rw [if_pos h2, decide_eq_true (show 2 ≤ h ∧ h ≤ 254 from ⟨h1, h2⟩)]
      cases stateB st cl nm won with
      | true =>
        rw [if_pos rfl]
        by_cases h3 : (cl.size : Int) ≤ 16
        · rw [if_pos h3, decide_eq_true (show cl.size ≤ 16 by omega)]
          by_cases h4 : 0 ≤ un ∧ un ≤ 1099511627776
          · rw [decide_eq_true h4, if_pos rfl]
            rfl
          · rw [decide_eq_false h4]
            rfl
        · rw [if_neg h3, decide_eq_false (show ¬ cl.size ≤ 16 by omega)]
          rfl
      | false => rfl
    · rw [if_neg h2, decide_eq_false (show ¬ (2 ≤ h ∧ h ≤ 254) from fun e => h2 e.2)]
      rfl
  · rw [if_neg h1, decide_eq_false (show ¬ (2 ≤ h ∧ h ≤ 254) from fun e => h1 e.1)]
    rfl
theorem live_eq (k : Nat) (h st : Int) (cl : ByteArray) (un : Int) (nm : ByteArray) (won : Bool) (now : Int) (hs : nm.size ≤ 140737488351232) (hk : nm.size + 2 ≤ k) :
    lease_Live.f k h st cl un nm won now = some (liveB h st cl un nm won now) := by
  unfold lease_Live.f liveB
  rw [lease_eq k h st cl un nm won hs hk]
  simp only [Option.bind_some]
  cases leaseB h st cl un nm won with
  | true =>
    rw [if_pos rfl]
    by_cases h0 : st = 0
    · rw [if_pos h0, decide_eq_false (fun e => e h0)]
      rfl
    · rw [if_neg h0, decide_eq_true h0]
      rfl
  | false => rfl
/-- may a lease be: as one piece. -/
def mayL (x : S23) : Bool := leaseB x.f0 x.f1 x.f2 x.f3 x.f4 x.f5
def liveL (x : S23) (now : Int) : Bool := liveB x.f0 x.f1 x.f2 x.f3 x.f4 x.f5 now
/-- a lease, freed. -/
def freedL (x : S23) : S23 := ⟨x.f0, 0, x.f2, x.f3, ⟨#[]⟩, false⟩
def sweptL (now : Int) (x : S23) : S23 := if liveL x now = true then x else freedL x
/-- does the lease at a place stand well there. -/
def tabAt (ls : List S23) (i : Nat) : Bool := mayL (rd_T23 ls i) && (decide (i = 0) || decide ((rd_T23 ls (i - 1 : Nat)).f0 < (rd_T23 ls i).f0))
def tabB (ls : List S23) : Bool := (List.range' 0 ls.length).all (tabAt ls) && decide (ls.length ≤ 8)
def timeB (t : Int) : Bool := decide (0 ≤ t ∧ t ≤ 1099511627776)
def sweepV (ls : List S23) (now : Int) : List S23 × Int := if (tabB ls && timeB now) = true then (ls.map (sweptL now), 0) else ([], 1900)
def smallL (ls : List S23) (m : Nat) : Prop := ∀ i : Nat, (rd_T23 ls i).f4.size ≤ m

theorem rdL_get (ls : List S23) (i : Nat) (h : i < ls.length) : rd_T23 ls i = ls[i] := by
  unfold rd_T23
  rw [Int.toNat_natCast, List.getD_eq_getElem?_getD, List.getElem?_eq_getElem h]
  rfl
theorem rdL_map (f : S23 → S23) (ls : List S23) (i : Nat) (h : i < ls.length) : rd_T23 (ls.map f) i = f (rd_T23 ls i) := by
  rw [rdL_get _ _ (by rw [List.length_map]; exact h), rdL_get _ _ h, List.getElem_map]
theorem rdL_out (ls : List S23) (i : Nat) (h : ls.length ≤ i) : rd_T23 ls i = z23 := by
  unfold rd_T23
  rw [Int.toNat_natCast, List.getD_eq_getElem?_getD, List.getElem?_eq_none h]
  rfl
theorem smallL_of (ls : List S23) (m : Nat) (h : ∀ x ∈ ls, x.f4.size ≤ m) : smallL ls m := by
  intro i
  by_cases hi : i < ls.length
  · rw [rdL_get _ _ hi]
    exact h _ (List.getElem_mem hi)
  · rw [rdL_out _ _ (by omega)]
    exact Nat.zero_le _

theorem table_loop (ls : List S23) (m : Nat) (hm : m ≤ 140737488351232) (hs : smallL ls m) (hl : ls.length ≤ 140737488351232) (d : Nat) : ∀ (k i : Nat), i + d = ls.length → d + m + 3 ≤ k →
    table_May.l0 k ls ls (ls.length : Int) (i : Int) = some ((List.range' i d).all (tabAt ls) && decide (ls.length ≤ 8)) := by
  induction d with
  | zero =>
    intro k i hi hk
    obtain ⟨k, rfl⟩ : ∃ j, k = j + 1 := ⟨k - 1, by omega⟩
    rw [table_May.l0, if_neg (by omega)]
    simp only [List.range'_zero, List.all_nil, Bool.true_and]
    congr 1
    rw [Bool.eq_iff_iff]
    simp only [decide_eq_true_eq]
    omega
  | succ d ih =>
    intro k i hi hk
    obtain ⟨k, rfl⟩ : ∃ j, k = j + 1 := ⟨k - 1, by omega⟩
    have hsi := hs i
    rw [table_May.l0, if_pos (by omega), if_pos (by omega), if_pos (by omega), lease_eq k _ _ _ _ _ _ (by omega) (by omega), List.range'_succ, List.all_cons]
    simp only [Option.bind_some]
    have e : leaseB (rd_T23 ls i).f0 (rd_T23 ls i).f1 (rd_T23 ls i).f2 (rd_T23 ls i).f3 (rd_T23 ls i).f4 (rd_T23 ls i).f5 = mayL (rd_T23 ls i) := rfl
    rw [e]
    have hrec := ih k (i + 1) (by omega) (by omega)
    unfold tabAt at hrec ⊢
    cases hM : mayL (rd_T23 ls i) with
    | false => simp
    | true =>
      rw [if_pos rfl, w64 (show -9223372036854775808 ≤ (i : Int) + 1 ∧ (i : Int) + 1 ≤ 9223372036854775807 by omega), show ((i : Int) + 1) = ((i + 1 : Nat) : Int) by omega, hrec]
      by_cases h0 : i = 0
      · rw [if_neg (by omega), decide_eq_true h0]
        simp
      · rw [if_pos (by omega), w64 (show -9223372036854775808 ≤ (i : Int) - 1 ∧ (i : Int) - 1 ≤ 9223372036854775807 by omega), show ((i : Int) - 1) = ((i - 1 : Nat) : Int) by omega, if_pos (by omega), if_pos (by omega), decide_eq_false h0]
        by_cases hh : (rd_T23 ls (i - 1 : Nat)).f0 < (rd_T23 ls i).f0
        · rw [if_neg (by omega), decide_eq_true hh]
          simp
        · rw [if_pos (by omega), decide_eq_false hh]
          simp
theorem table_eq (k : Nat) (ls : List S23) (m : Nat) (hm : m ≤ 140737488351232) (hs : smallL ls m) (hl : ls.length ≤ 140737488351232) (hk : ls.length + m + 3 ≤ k) : table_May.f k ls = some (tabB ls) := by
  unfold table_May.f tabB
  have := table_loop ls m hm hs hl ls.length k 0 (by omega) hk
  rw [show ((0 : Nat) : Int) = 0 by rfl] at this
  exact this

theorem sweep_loop (ls : List S23) (now : Int) (m : Nat) (hm : m ≤ 140737488351232) (hs : smallL ls m) (hl : ls.length ≤ 1048576) (d : Nat) : ∀ (k i : Nat) (out : List S23), i + d = ls.length → d + m + 3 ≤ k → out.length ≤ i →
    sweep_Sweep.l0 k now out ls (ls.length : Int) (i : Int) = some (out ++ (ls.drop i).map (sweptL now), 0) := by
  induction d with
  | zero =>
    intro k i out hi hk ho
    obtain ⟨k, rfl⟩ : ∃ j, k = j + 1 := ⟨k - 1, by omega⟩
    rw [sweep_Sweep.l0, if_neg (by omega), List.drop_eq_nil_of_le (by omega)]
    simp
  | succ d ih =>
    intro k i out hi hk ho
    obtain ⟨k, rfl⟩ : ∃ j, k = j + 1 := ⟨k - 1, by omega⟩
    have hsi := hs i
    have hil : i < ls.length := by omega
    rw [sweep_Sweep.l0, if_pos (by omega), if_pos (by omega), if_pos (by omega), live_eq k _ _ _ _ _ _ _ (by omega) (by omega), List.drop_eq_getElem_cons hil, List.map_cons]
    simp only [Option.bind_some, lease_Freed.f]
    have e : liveB (rd_T23 ls i).f0 (rd_T23 ls i).f1 (rd_T23 ls i).f2 (rd_T23 ls i).f3 (rd_T23 ls i).f4 (rd_T23 ls i).f5 now = liveL (rd_T23 ls i) now := rfl
    rw [e, if_pos (show out.length < 2199023255552 by omega), if_pos (show out.length < 2199023255552 by omega), w64 (show -9223372036854775808 ≤ (i : Int) + 1 ∧ (i : Int) + 1 ≤ 9223372036854775807 by omega), show ((i : Int) + 1) = ((i + 1 : Nat) : Int) by omega]
    rw [ih k (i + 1) _ (by omega) (by omega) (by rw [List.length_append, List.length_singleton]; omega), ih k (i + 1) _ (by omega) (by omega) (by rw [List.length_append, List.length_singleton]; omega)]
    rw [List.append_assoc, List.append_assoc, rdL_get ls i hil]
    unfold sweptL
    by_cases hL : liveL ls[i] now = true
    · rw [if_pos hL, if_pos hL]
      rfl
    · rw [if_neg hL, if_neg hL]
      rfl
theorem tabB_iff (ls : List S23) : tabB ls = true ↔ (∀ i, i < ls.length → tabAt ls i = true) ∧ ls.length ≤ 8 := by
  unfold tabB
  rw [Bool.and_eq_true, List.all_eq_true, decide_eq_true_eq]
  constructor
  · rintro ⟨h, h8⟩
    refine ⟨fun i hi => h i ?_, h8⟩
    rw [List.mem_range'_1]
    omega
  · rintro ⟨h, h8⟩
    refine ⟨fun i hi => h i ?_, h8⟩
    rw [List.mem_range'_1] at hi
    omega
/-- what the program's sweep gives. -/
theorem sweep_eq (k : Nat) (ls : List S23) (now : Int) (m : Nat) (hm : m ≤ 140737488351232) (hs : smallL ls m) (hl : ls.length ≤ 140737488351232) (hk : ls.length + m + 4 ≤ k) : sweep_Sweep.f k ls now = some (sweepV ls now) := by
  unfold sweep_Sweep.f sweepV
  rw [table_eq k ls m hm hs (by omega) (by omega), time_eq, Option.bind_some, Option.bind_some]
  obtain ⟨k, rfl⟩ : ∃ j, k = j + 1 := ⟨k - 1, by omega⟩
  have e : decide (0 ≤ now ∧ now ≤ 1099511627776) = timeB now := rfl
  rw [e, sweep_Sweep.j0, sweep_Sweep.j0]
  cases hT : tabB ls with
  | false => rfl
  | true =>
    cases timeB now with
    | false => rfl
    | true =>
      have h8 := ((tabB_iff ls).1 hT).2
      have := sweep_loop ls now m hm hs (by omega) ls.length k 0 [] (by omega) (by omega) (by simp)
      rw [show ((0 : Nat) : Int) = 0 by rfl, List.nil_append, List.drop_zero] at this
      simp only [Bool.not_true, Bool.false_eq_true, if_false, if_true, Bool.and_true, this]

theorem may_freed (x : S23) (h : mayL x = true) : mayL (freedL x) = true := by
  unfold mayL leaseB at h ⊢
  simp only [Bool.and_eq_true, decide_eq_true_eq] at h ⊢
  obtain ⟨⟨⟨⟨h1, h2⟩, h3⟩, h4⟩, h5⟩ := h
  exact ⟨⟨⟨⟨h1, rfl⟩, h3⟩, h4⟩, rfl⟩
theorem may_swept (now : Int) (x : S23) (h : mayL x = true) : mayL (sweptL now x) = true := by
  unfold sweptL
  split
  · exact h
  · exact may_freed x h
theorem swept_host (now : Int) (x : S23) : (sweptL now x).f0 = x.f0 := by
  unfold sweptL
  split <;> rfl
theorem cutL_sum : ∀ l : List Int, ((cutL l).map (fun p => p.length + 1)).sum = l.length + 1
  | [] => rfl
  | b :: l => by
    have ih := cutL_sum l
    by_cases hb : b = 46
    · subst hb
      rw [cutL_point, List.map_cons, List.sum_cons, ih]
      simp only [List.length_nil, List.length_cons]
      omega
    · rw [cutL_other _ _ hb]
      cases hc : cutL l with
      | nil => exact absurd hc (cutL_ne l)
      | cons q qs =>
        rw [hc] at ih
        simp only [glue, List.map_cons, List.sum_cons, List.length_cons, List.length_append, List.length_nil] at ih ⊢
        omega
theorem label_sum : ∀ L : List (List Int), L.all labelB = true → (L.map (fun p => p.length + 1)).sum ≤ 9 * L.length
  | [] => fun _ => Nat.zero_le _
  | p :: L => fun h => by
    rw [List.all_cons, Bool.and_eq_true] at h
    have ih := label_sum L h.2
    have h1 := h.1
    unfold labelB at h1
    rw [Bool.and_eq_true, decide_eq_true_eq] at h1
    simp only [List.map_cons, List.sum_cons, List.length_cons]
    omega
/-- a name that may be is short. -/
theorem name_short (l : List Int) (h : nameB l = true) : l.length ≤ 72 := by
  unfold nameB at h
  rw [Bool.or_eq_true, Bool.and_eq_true, decide_eq_true_eq, decide_eq_true_eq] at h
  rcases h with h | ⟨h1, h2⟩
  · rw [h]
    exact Nat.zero_le _
  · have := label_sum _ h1
    rw [cutL_sum] at this
    omega
theorem may_short (x : S23) (h : mayL x = true) : x.f4.size ≤ 72 := by
  unfold mayL leaseB at h
  rw [Bool.and_eq_true] at h
  have := name_short _ h.2
  rwa [bytesOf_length] at this
theorem tab_short (ls : List S23) (h : tabB ls = true) : ∀ x ∈ ls, x.f4.size ≤ 72 := by
  intro x hx
  obtain ⟨i, hi, rfl⟩ := List.getElem_of_mem hx
  have := ((tabB_iff ls).1 h).1 i hi
  unfold tabAt at this
  rw [Bool.and_eq_true, rdL_get _ _ hi] at this
  exact may_short _ this.1
theorem tab_swept (now : Int) (ls : List S23) (h : tabB ls = true) : tabB (ls.map (sweptL now)) = true := by
  rw [tabB_iff] at h ⊢
  refine ⟨fun i hi => ?_, by rw [List.length_map]; exact h.2⟩
  rw [List.length_map] at hi
  have := h.1 i hi
  unfold tabAt at this ⊢
  rw [rdL_map _ _ _ hi]
  by_cases h0 : i = 0
  · subst h0
    simp only [Bool.and_eq_true] at this ⊢
    exact ⟨may_swept now _ this.1, by simp⟩
  · rw [rdL_map _ _ (i - 1) (by omega), swept_host, swept_host]
    simp only [Bool.and_eq_true] at this ⊢
    exact ⟨may_swept now _ this.1, this.2⟩
theorem live_freed (x : S23) (now : Int) : liveL (freedL x) now = false := by
  unfold liveL liveB freedL
  simp
theorem swept_freed (x : S23) (now : Int) : sweptL now (freedL x) = freedL x := by
  unfold sweptL
  rw [live_freed, if_neg (by decide)]
  rfl
theorem swept_later (now t : Int) (h : now ≤ t) (x : S23) : sweptL t (sweptL now x) = sweptL t x := by
  by_cases hL : liveL x now = true
  · have e : sweptL now x = x := by unfold sweptL; rw [if_pos hL]
    rw [e]
  · have e : sweptL now x = freedL x := by unfold sweptL; rw [if_neg hL]
    have hn : ¬ liveL x t = true := by
      intro h2
      apply hL
      unfold liveL liveB at h2 ⊢
      simp only [Bool.and_eq_true, decide_eq_true_eq] at h2 ⊢
      exact ⟨h2.1, by omega⟩
    rw [e, swept_freed]
    unfold sweptL
    rw [if_neg hn]
theorem swept_small (now : Int) (ls : List S23) (m : Nat) (h : ∀ x ∈ ls, x.f4.size ≤ m) : ∀ x ∈ ls.map (sweptL now), x.f4.size ≤ m := by
  intro x hx
  obtain ⟨y, hy, rfl⟩ := List.mem_map.1 hx
  unfold sweptL
  split
  · exact h y hy
  · exact Nat.zero_le _

theorem same_loop (ls : List S23) (hl : ls.length ≤ 1048576) (d : Nat) : ∀ (k i : Nat), i + d = ls.length → d + 1 ≤ k → pinfoldlaw0_SameLeases.l0 k ls ls (i : Int) = some true := by
  induction d with
  | zero =>
    intro k i hi hk
    obtain ⟨k, rfl⟩ : ∃ j, k = j + 1 := ⟨k - 1, by omega⟩
    rw [pinfoldlaw0_SameLeases.l0, if_neg (by omega)]
  | succ d ih =>
    intro k i hi hk
    obtain ⟨k, rfl⟩ : ∃ j, k = j + 1 := ⟨k - 1, by omega⟩
    rw [pinfoldlaw0_SameLeases.l0, if_pos (by omega), if_pos (by omega), if_pos (by omega)]
    simp only [beq_self_eq_true, Bool.not_true, Bool.or_self, Bool.false_eq_true, if_false]
    rw [w64 (by omega), show ((i : Int) + 1) = ((i + 1 : Nat) : Int) by omega]
    exact ih k (i + 1) (by omega) (by omega)
theorem same_eq (k : Nat) (ls : List S23) (hl : ls.length ≤ 1048576) (hk : ls.length + 1 ≤ k) : pinfoldlaw0_SameLeases.f k ls ls = some true := by
  unfold pinfoldlaw0_SameLeases.f
  rw [if_pos rfl]
  exact same_loop ls hl ls.length k 0 (by omega) hk
theorem cutL_len : ∀ l, (cutL l).length ≤ l.length + 1
  | [] => by simp [cutL]
  | b :: l => by
    have ih := cutL_len l
    have hn := cutL_ne l
    unfold cutL
    split
    · simp only [List.length_cons]; omega
    · cases hc : cutL l with
      | nil => exact absurd hc hn
      | cons q qs =>
        rw [hc] at ih
        simp only [glue, List.length_cons] at ih ⊢
        omega
theorem extract_end (s : ByteArray) (a b : Nat) (h : b ≤ a) : bytesOf (s.extract a b) = [] := by
  rw [bytesOf_extract, show b - a = 0 by omega, List.take_zero]
theorem extract_next (s : ByteArray) (a b : Nat) (h : a ≤ b) (hb : b < s.size) : bytesOf (s.extract a (b + 1)) = bytesOf (s.extract a b) ++ [bt s b] := by
  rw [bytesOf_extract, bytesOf_extract, show b + 1 - a = (b - a) + 1 by omega, List.take_succ_eq_append_getElem (by rw [List.length_drop, bytesOf_length]; omega)]
  congr 1
  have := drop_cons s b hb
  rw [show b = a + (b - a) by omega, ← List.drop_drop] at this
  rw [List.drop_eq_getElem_cons (by rw [List.length_drop, bytesOf_length]; omega)] at this
  rw [List.cons.injEq] at this
  rw [this.1, show a + (b - a) = b by omega]

theorem reflabel_loop (s : ByteArray) (hs : s.size ≤ 4611686018427387904) (d : Nat) : ∀ (k i : Nat), i + d = s.size → d < k →
    pinfoldref1_labelMay.l0 k s (i : Int) = some (((bytesOf s).drop i).all letterB && decide (1 ≤ s.size ∧ s.size ≤ 8)) := by
  have key : ∀ (x : Option Bool) (b : Int), (if b < 97 then (if b < 48 then (if b = 45 then x else some false) else (if b > 57 then (if b = 45 then x else some false) else x)) else (if b > 122 then (if b < 48 then (if b = 45 then x else some false) else (if b > 57 then (if b = 45 then x else some false) else x)) else x)) = if letterB b = true then x else some false := by
    intro x b
    unfold letterB
    simp only [decide_eq_true_eq]
    repeat' split
    all_goals first
      | rfl
      | (exfalso; omega)
  induction d with
  | zero =>
    intro k i hi hk
    obtain ⟨k, rfl⟩ : ∃ m, k = m + 1 := ⟨k - 1, by omega⟩
    rw [pinfoldref1_labelMay.l0, if_neg (by omega), drop_end s i (by omega)]
    simp only [List.all_nil, Bool.true_and]
    split
    · congr 1
      rw [Bool.eq_iff_iff]
      simp only [decide_eq_true_eq]
      omega
    · congr 1
      symm
      rw [decide_eq_false_iff_not]
      omega
  | succ d ih =>
    intro k i hi hk
    obtain ⟨k, rfl⟩ : ∃ m, k = m + 1 := ⟨k - 1, by omega⟩
    rw [pinfoldref1_labelMay.l0, if_pos (by omega), if_pos (by omega), key, drop_cons s i (by omega)]
    simp only [List.all_cons]
    cases letterB (bt s i) with
    | true =>
      rw [if_pos rfl, w64 (by omega)]
      have := ih k (i + 1) (by omega) (by omega)
      rw [show ((i : Int) + 1) = ((i + 1 : Nat) : Int) by omega, this]
      simp
    | false => simp
theorem reflabel_eq (k : Nat) (s : ByteArray) (hs : s.size ≤ 4611686018427387904) (hk : s.size < k) : pinfoldref1_labelMay.f k s = some (labelB (bytesOf s)) := by
  unfold pinfoldref1_labelMay.f
  have := reflabel_loop s hs s.size k 0 (by omega) hk
  rw [show ((0 : Nat) : Int) = 0 by rfl] at this
  rw [this]
  unfold labelB
  rw [List.drop_zero, bytesOf_length]

theorem parts_loop (s : ByteArray) (hs : s.size ≤ 140737488351232) (d : Nat) : ∀ (k i f : Nat) (out : List ByteArray), i + d = s.size → d + 2 ≤ k → f ≤ i → out.length + d + 1 ≤ 8796093022208 →
    ∃ r, pinfoldref1_parts.l0 k s out (f : Int) (i : Int) = some (out ++ r) ∧ r.map bytesOf = glue (bytesOf (s.extract f i)) (cutL ((bytesOf s).drop i)) ∧ ∀ x ∈ r, x.size ≤ s.size := by
  induction d with
  | zero =>
    intro k i f out hi hk hf ho
    obtain ⟨k, rfl⟩ : ∃ m, k = m + 2 := ⟨k - 2, by omega⟩
    refine ⟨[s.extract f i], ?_, ?_, ?_⟩
    · rw [pinfoldref1_parts.l0, if_pos (by omega), if_pos (by omega), if_pos (by omega), if_pos (by omega), if_pos (by omega), w64 (by omega), pinfoldref1_parts.l0, if_neg (by omega), Int.toNat_natCast, Int.toNat_natCast]
    · rw [drop_end s i (by omega)]
      simp [cutL, glue]
    · intro x hx
      rw [List.mem_singleton.1 hx, ByteArray.size_extract]
      omega
  | succ d ih =>
    intro k i f out hi hk hf ho
    obtain ⟨k, rfl⟩ : ∃ m, k = m + 1 := ⟨k - 1, by omega⟩
    rw [pinfoldref1_parts.l0, if_pos (by omega), if_neg (by omega), if_pos (by omega), if_pos (by omega), drop_cons s i (by omega)]
    by_cases hp : bt s i = 46
    · obtain ⟨r, h1, h2, h3⟩ := ih k (i + 1) (i + 1) (out ++ [s.extract f i]) (by omega) (by omega) (by omega) (by rw [List.length_append, List.length_singleton]; omega)
      refine ⟨s.extract f i :: r, ?_, ?_, ?_⟩
      · rw [if_pos hp, if_pos (by omega), if_pos (by omega), if_pos (by omega), w64 (by omega), Int.toNat_natCast, Int.toNat_natCast, show ((i : Int) + 1) = ((i + 1 : Nat) : Int) by omega, h1, List.append_assoc]
        rfl
      · rw [extract_end s (i + 1) (i + 1) (Nat.le_refl _), glue_nil _ (cutL_ne _)] at h2
        rw [List.map_cons, h2, hp, cutL_point]
        simp [glue]
      · intro x hx
        rcases List.mem_cons.1 hx with rfl | hx
        · rw [ByteArray.size_extract]
          omega
        · exact h3 x hx
    · obtain ⟨r, h1, h2, h3⟩ := ih k (i + 1) f out (by omega) (by omega) (by omega) (by omega)
      refine ⟨r, ?_, ?_, h3⟩
      · rw [if_neg hp, w64 (by omega), show ((i : Int) + 1) = ((i + 1 : Nat) : Int) by omega, h1]
      · rw [h2, cutL_other _ _ hp, extract_next s f i hf (by omega), glue_glue]
theorem parts_eq (k : Nat) (s : ByteArray) (hs : s.size ≤ 8796093022000) (hk : s.size + 2 ≤ k) :
    ∃ r, pinfoldref1_parts.f k s = some r ∧ r.map bytesOf = cutL (bytesOf s) ∧ ∀ x ∈ r, x.size ≤ s.size := by
  obtain ⟨r, h1, h2, h3⟩ := parts_loop s (by omega) s.size k 0 0 [] (by omega) hk (by omega) (by simp only [List.length_nil]; omega)
  refine ⟨r, ?_, ?_, h3⟩
  · unfold pinfoldref1_parts.f
    rw [show ((0 : Nat) : Int) = 0 by rfl, List.nil_append] at h1
    exact h1
  · rw [h2, extract_end s 0 0 (Nat.le_refl _), glue_nil _ (cutL_ne _), List.drop_zero]

theorem refname_loop (r : List ByteArray) (m : Nat) (hr : ∀ x ∈ r, x.size ≤ m) (hm : m ≤ 140737488351232) (hl : r.length ≤ 140737488351232) (d : Nat) : ∀ (k i : Nat), i + d = r.length → d + m + 2 ≤ k →
    pinfoldref1_NameMay.l0 k r (i : Int) = some (((r.map bytesOf).drop i).all labelB && decide (r.length ≤ 8)) := by
  induction d with
  | zero =>
    intro k i hi hk
    obtain ⟨k, rfl⟩ : ∃ j, k = j + 1 := ⟨k - 1, by omega⟩
    rw [pinfoldref1_NameMay.l0, if_neg (by omega), List.drop_eq_nil_of_le (by rw [List.length_map]; omega), List.all_nil, Bool.true_and]
    congr 1
    rw [Bool.eq_iff_iff]
    simp only [decide_eq_true_eq]
    omega
  | succ d ih =>
    intro k i hi hk
    obtain ⟨k, rfl⟩ : ∃ j, k = j + 1 := ⟨k - 1, by omega⟩
    have hil : i < r.length := by omega
    have e : rdOf ByteArray.empty r (i : Int) = r[i] := by
      unfold rdOf
      rw [Int.toNat_natCast, List.getD_eq_getElem?_getD, List.getElem?_eq_getElem hil]
      rfl
    have hx := hr r[i] (List.getElem_mem hil)
    rw [pinfoldref1_NameMay.l0, if_pos (by omega), if_pos (by omega), e, reflabel_eq k r[i] (by omega) (by omega), List.drop_eq_getElem_cons (by rw [List.length_map]; exact hil), List.all_cons, List.getElem_map]
    simp only [Option.bind_some]
    cases labelB (bytesOf r[i]) with
    | true =>
      rw [if_pos rfl, w64 (by omega), show ((i : Int) + 1) = ((i + 1 : Nat) : Int) by omega, ih k (i + 1) (by omega) (by omega), Bool.true_and]
    | false => rfl
/-- what the document says of a name. -/
theorem refname_eq (k : Nat) (s : ByteArray) (hs : s.size ≤ 8796093022000) (hk : 2 * s.size + 10 ≤ k) : pinfoldref1_NameMay.f k s = some (nameB (bytesOf s)) := by
  unfold pinfoldref1_NameMay.f nameB
  by_cases h : s.size = 0
  · have hz : bytesOf s = [] := List.length_eq_zero_iff.1 (by rw [bytesOf_length]; omega)
    rw [if_pos ((toList_nil s).2 h), hz]
    rfl
  · have hz : bytesOf s ≠ [] := fun e => h (by rw [← bytesOf_length, e]; rfl)
    obtain ⟨r, h1, h2, h3⟩ := parts_eq k s hs (by omega)
    have hl : r.length = (cutL (bytesOf s)).length := by rw [← h2, List.length_map]
    have hc := cutL_len (bytesOf s)
    rw [bytesOf_length] at hc
    have := refname_loop r s.size h3 (by omega) (by omega) r.length k 0 (by omega) (by omega)
    rw [show ((0 : Nat) : Int) = 0 by rfl] at this
    rw [if_neg (fun e => h ((toList_nil s).1 e)), h1, Option.bind_some, this, List.drop_zero, h2, decide_eq_false hz, Bool.false_or, hl]
theorem ne_empty (s : ByteArray) : (s.toList != ([] : List UInt8)) = decide (s.size ≠ 0) := by
  rw [Bool.eq_iff_iff, bne_iff_ne, decide_eq_true_eq, ne_eq, toList_nil]
/-- what the document says of a lease. -/
theorem reflease_eq (k : Nat) (h st : Int) (cl : ByteArray) (un : Int) (nm : ByteArray) (won : Bool) (hs : nm.size ≤ 8796093022000) (hk : 2 * nm.size + 10 ≤ k) :
    pinfoldref11_LeaseMay.f k h st cl un nm won = some (leaseB h st cl un nm won) := by
  obtain ⟨k, rfl⟩ : ∃ j, k = j + 1 := ⟨k - 1, by omega⟩
  unfold pinfoldref11_LeaseMay.f
  have hj : ∀ b : Bool, pinfoldref11_LeaseMay.j0 (k + 1) b h st cl un nm won = if b = true then some false else (if st = 1 then some (decide (cl.size ≠ 0) && decide (nm.size = 0) && !won) else if st = 2 then some (decide (cl.size ≠ 0) && (decide (nm.size ≠ 0) || !won)) else some (decide (nm.size = 0) && !won)) := by
    intro b
    rw [pinfoldref11_LeaseMay.j0]
    simp only [toList_nil, ne_empty]
    cases b with
    | true => rfl
    | false =>
      by_cases h1 : st = 1
      · have h2 : st ≠ 2 := by omega
        by_cases hc : cl.size = 0 <;> by_cases hn : nm.size = 0 <;> cases won <;> simp [h1, hc, hn]
      · by_cases h2 : st = 2
        · by_cases hc : cl.size = 0 <;> by_cases hn : nm.size = 0 <;> cases won <;> simp [h2, hc, hn]
        · by_cases hn : nm.size = 0 <;> cases won <;> simp [h1, h2, hn]
  simp only [hj]
  rw [refname_eq (k + 1) nm hs hk]
  unfold leaseB stateB
  by_cases q1 : 2 ≤ h ∧ h ≤ 254
  · rw [decide_eq_true q1, if_neg (by omega), if_neg (by omega)]
    by_cases q2 : 0 ≤ st ∧ st ≤ 3
    · rw [if_neg (by omega), if_neg (by omega)]
      by_cases q3 : cl.size ≤ 16
      · rw [if_neg (by omega), decide_eq_true q3]
        by_cases q4 : 0 ≤ un ∧ un ≤ 1099511627776
        · rw [if_neg (by omega), if_neg (by omega), decide_eq_true q4, Option.bind_some]
          cases nameB (bytesOf nm) with
          | true =>
            simp only [Bool.not_true, Bool.false_eq_true, if_false, Bool.and_true, Bool.true_and]
            by_cases h1 : st = 1
            · rw [if_pos h1, if_neg (by omega), if_pos h1]
            · rw [if_neg h1]
              by_cases h2 : st = 2
              · rw [if_pos h2, if_neg (by omega), if_neg h1, if_pos h2]
              · rw [if_neg h2, if_pos (by omega)]
          | false => simp
        · rw [decide_eq_false q4]
          by_cases q5 : un < 0
          · rw [if_pos q5]
            simp
          · rw [if_neg q5, if_pos (by omega)]
            simp
      · rw [if_pos (by omega), decide_eq_false q3]
        simp
    · have q6 : (if st = 0 ∨ st = 3 then decide (nm.size = 0) && !won else if st = 1 then decide (cl.size ≠ 0) && decide (nm.size = 0) && !won else if st = 2 then decide (cl.size ≠ 0) && (decide (nm.size ≠ 0) || !won) else false) = false := by
        rw [if_neg (show ¬ (st = 0 ∨ st = 3) by omega), if_neg (show ¬ st = 1 by omega), if_neg (show ¬ st = 2 by omega)]
      rw [q6]
      by_cases q5 : st < 0
      · rw [if_pos q5]
        simp
      · rw [if_neg q5, if_pos (by omega)]
        simp
  · rw [decide_eq_false q1]
    by_cases q5 : h < 2
    · rw [if_pos q5]
      simp
    · rw [if_neg q5, if_pos (by omega)]
      simp
theorem reflive_eq (k : Nat) (h st : Int) (cl : ByteArray) (un : Int) (nm : ByteArray) (won : Bool) (now : Int) (hs : nm.size ≤ 8796093022000) (hk : 2 * nm.size + 10 ≤ k) :
    pinfoldref11_Live.f k h st cl un nm won now = some (liveB h st cl un nm won now) := by
  unfold pinfoldref11_Live.f liveB
  rw [reflease_eq k h st cl un nm won hs hk]
  simp only [Option.bind_some]
  cases leaseB h st cl un nm won with
  | true =>
    rw [if_pos rfl]
    by_cases h0 : st = 0
    · rw [if_pos h0, decide_eq_false (fun e => e h0)]
      rfl
    · rw [if_neg h0, decide_eq_true h0]
      rfl
  | false => rfl
theorem reftable_loop (ls : List S23) (m : Nat) (hm : m ≤ 1048576) (hs : smallL ls m) (hl : ls.length ≤ 1048576) (d : Nat) : ∀ (k i : Nat), i + d = ls.length → d + 2 * m + 20 ≤ k →
    pinfoldref11_TableMay.l0 k ls (i : Int) = some ((List.range' i d).all (tabAt ls) && decide (ls.length ≤ 8)) := by
  induction d with
  | zero =>
    intro k i hi hk
    obtain ⟨k, rfl⟩ : ∃ j, k = j + 1 := ⟨k - 1, by omega⟩
    rw [pinfoldref11_TableMay.l0, if_neg (by omega)]
    simp only [List.range'_zero, List.all_nil, Bool.true_and]
    congr 1
    rw [Bool.eq_iff_iff]
    simp only [decide_eq_true_eq]
    omega
  | succ d ih =>
    intro k i hi hk
    obtain ⟨k, rfl⟩ : ∃ j, k = j + 1 := ⟨k - 1, by omega⟩
    have hsi := hs i
    rw [pinfoldref11_TableMay.l0, if_pos (by omega), if_pos (by omega), reflease_eq k _ _ _ _ _ _ (by omega) (by omega), List.range'_succ, List.all_cons]
    simp only [Option.bind_some]
    have e : leaseB (rd_T23 ls i).f0 (rd_T23 ls i).f1 (rd_T23 ls i).f2 (rd_T23 ls i).f3 (rd_T23 ls i).f4 (rd_T23 ls i).f5 = mayL (rd_T23 ls i) := rfl
    rw [e]
    have hrec := ih k (i + 1) (by omega) (by omega)
    unfold tabAt at hrec ⊢
    cases hM : mayL (rd_T23 ls i) with
    | false => simp
    | true =>
      rw [if_pos rfl, w64 (show -9223372036854775808 ≤ (i : Int) + 1 ∧ (i : Int) + 1 ≤ 9223372036854775807 by omega), show ((i : Int) + 1) = ((i + 1 : Nat) : Int) by omega, hrec]
      by_cases h0 : i = 0
      · rw [if_neg (by omega), decide_eq_true h0]
        simp
      · rw [if_pos (by omega), w64 (show -9223372036854775808 ≤ (i : Int) - 1 ∧ (i : Int) - 1 ≤ 9223372036854775807 by omega), show ((i : Int) - 1) = ((i - 1 : Nat) : Int) by omega, if_pos (by omega), if_pos (by omega), decide_eq_false h0]
        by_cases hh : (rd_T23 ls (i - 1 : Nat)).f0 < (rd_T23 ls i).f0
        · rw [if_neg (by omega), decide_eq_true hh]
          simp
        · rw [if_pos (by omega), decide_eq_false hh]
          simp
theorem reftable_eq (k : Nat) (ls : List S23) (m : Nat) (hm : m ≤ 1048576) (hs : smallL ls m) (hl : ls.length ≤ 1048576) (hk : ls.length + 2 * m + 20 ≤ k) : pinfoldref11_TableMay.f k ls = some (tabB ls) := by
  unfold pinfoldref11_TableMay.f tabB
  have := reftable_loop ls m hm hs hl ls.length k 0 (by omega) hk
  rw [show ((0 : Nat) : Int) = 0 by rfl] at this
  exact this
theorem size_nil (s : ByteArray) (h : s.size = 0) : s = ⟨#[]⟩ := by
  have := (toList_nil s).2 h
  apply ByteArray.ext
  apply Array.ext'
  rw [ByteArray.toList_eq] at this
  exact this
/-- a free lease has nothing to give. -/
theorem free_swept (now : Int) (x : S23) (h : mayL x = true) (h0 : x.f1 = 0) : sweptL now x = x := by
  unfold sweptL
  by_cases hL : liveL x now = true
  · rw [if_pos hL]
  · rw [if_neg hL]
    unfold mayL leaseB stateB at h
    rw [h0, if_pos (Or.inl rfl)] at h
    simp only [Bool.and_eq_true, decide_eq_true_eq, Bool.not_eq_true'] at h
    obtain ⟨⟨⟨⟨_, hst⟩, _⟩, _⟩, _⟩ := h
    obtain ⟨hn, hw⟩ := hst
    unfold freedL
    rw [← h0, ← hw, ← size_nil _ hn]
theorem refsweep_loop (ls : List S23) (now : Int) (m : Nat) (hm : m ≤ 1048576) (hs : smallL ls m) (hl : ls.length ≤ 8) (hmay : ∀ i, i < ls.length → mayL (rd_T23 ls i) = true) (d : Nat) : ∀ (k i : Nat) (out : List S23), i + d = ls.length → d + 2 * m + 20 ≤ k → out.length ≤ i →
    pinfoldref11_Sweep.l0 k ls now out (i : Int) = some (out ++ (ls.drop i).map (sweptL now), 0) := by
  induction d with
  | zero =>
    intro k i out hi hk ho
    obtain ⟨k, rfl⟩ : ∃ j, k = j + 1 := ⟨k - 1, by omega⟩
    rw [pinfoldref11_Sweep.l0, if_neg (by omega), List.drop_eq_nil_of_le (by omega)]
    simp
  | succ d ih =>
    intro k i out hi hk ho
    obtain ⟨k, rfl⟩ : ∃ j, k = j + 1 := ⟨k - 1, by omega⟩
    have hsi := hs i
    have hil : i < ls.length := by omega
    have hmi := hmay i hil
    rw [pinfoldref11_Sweep.l0, if_pos (by omega), if_pos (by omega), reflive_eq k _ _ _ _ _ _ _ (by omega) (by omega), List.drop_eq_getElem_cons hil, List.map_cons]
    simp only [Option.bind_some, pinfoldref11_let.f]
    have e : liveB (rd_T23 ls i).f0 (rd_T23 ls i).f1 (rd_T23 ls i).f2 (rd_T23 ls i).f3 (rd_T23 ls i).f4 (rd_T23 ls i).f5 now = liveL (rd_T23 ls i) now := rfl
    rw [e, if_pos (show out.length < 2199023255552 by omega), if_pos (show out.length < 2199023255552 by omega), w64 (show -9223372036854775808 ≤ (i : Int) + 1 ∧ (i : Int) + 1 ≤ 9223372036854775807 by omega), show ((i : Int) + 1) = ((i + 1 : Nat) : Int) by omega]
    have hgo : ∀ x : S23, pinfoldref11_Sweep.l0 k ls now (out ++ [x]) ((i + 1 : Nat) : Int) = some (out ++ (x :: (ls.drop (i + 1)).map (sweptL now)), 0) := fun x => by
      rw [ih k (i + 1) _ (by omega) (by omega) (by rw [List.length_append, List.length_singleton]; omega), List.append_assoc]
      rfl
    rw [hgo, hgo]
    rw [rdL_get ls i hil] at hmi ⊢
    by_cases h0 : ls[i].f1 = 0
    · rw [if_pos h0, free_swept now _ hmi h0]
    · rw [if_neg h0]
      unfold sweptL
      by_cases hL : liveL ls[i] now = true
      · rw [if_pos hL, if_pos hL]
      · rw [if_neg hL, if_neg hL]
        rfl
/-- what the document's sweep gives. -/
theorem refsweep_eq (k : Nat) (ls : List S23) (now : Int) (m : Nat) (hm : m ≤ 1048576) (hs : smallL ls m) (hl : ls.length ≤ 1048576) (hk : ls.length + 2 * m + 21 ≤ k) : pinfoldref11_Sweep.f k ls now = some (sweepV ls now) := by
  unfold pinfoldref11_Sweep.f sweepV
  obtain ⟨k, rfl⟩ : ∃ j, k = j + 1 := ⟨k - 1, by omega⟩
  rw [reftable_eq (k + 1) ls m hm hs hl (by omega)]
  simp only [Option.bind_some]
  have hj : ∀ b, pinfoldref11_Sweep.j0 (k + 1) ls now b = if b = true then some (([] : List S23), 1900) else pinfoldref11_Sweep.l0 k ls now [] 0 := fun b => by rw [pinfoldref11_Sweep.j0]
  simp only [hj]
  cases hT : tabB ls with
  | false => rfl
  | true =>
    have h8 := ((tabB_iff ls).1 hT).2
    have hmay : ∀ i, i < ls.length → mayL (rd_T23 ls i) = true := fun i hi => by
      have := ((tabB_iff ls).1 hT).1 i hi
      unfold tabAt at this
      rw [Bool.and_eq_true] at this
      exact this.1
    have := refsweep_loop ls now m hm hs h8 hmay ls.length k 0 [] (by omega) (by omega) (by simp)
    rw [show ((0 : Nat) : Int) = 0 by rfl, List.nil_append, List.drop_zero] at this
    rw [if_pos rfl, if_pos trivial, this]
    unfold timeB
    by_cases h0 : now < 0
    · rw [if_pos h0, decide_eq_false (show ¬ (0 ≤ now ∧ now ≤ 1099511627776) by omega)]
      rfl
    · rw [if_neg h0]
      by_cases h1 : now > 1099511627776
      · rw [decide_eq_true h1, decide_eq_false (show ¬ (0 ≤ now ∧ now ≤ 1099511627776) by omega)]
        rfl
      · rw [decide_eq_false h1, decide_eq_true (show 0 ≤ now ∧ now ≤ 1099511627776 by omega)]
        rfl
theorem awake_eq (n : Nat) : pinfoldlaw19_awake.f (n + 20) = some true :=
  at_rounds (g := fun k => pinfoldlaw19_awake.f k) pinfoldlaw19_awake.mono (k := 20) (by omega) (by kernel_rfl)
theorem spoil_loop (n : Nat) (hn : n ≤ 1048576) (d : Nat) : ∀ (k i : Nat) (l : List S23), l.length = n → i + d = n → d + 1 ≤ k → ∃ r, pinfoldlaw0_SpoilLeases.l0 k l (i : Int) = some r := by
  induction d with
  | zero =>
    intro k i l hl hi hk
    obtain ⟨k, rfl⟩ : ∃ j, k = j + 1 := ⟨k - 1, by omega⟩
    exact ⟨_, by rw [pinfoldlaw0_SpoilLeases.l0, if_neg (by omega)]⟩
  | succ d ih =>
    intro k i l hl hi hk
    obtain ⟨k, rfl⟩ : ∃ j, k = j + 1 := ⟨k - 1, by omega⟩
    rw [pinfoldlaw0_SpoilLeases.l0, if_pos (by omega), if_pos (by omega), w64 (show -9223372036854775808 ≤ (i : Int) + 1 ∧ (i : Int) + 1 ≤ 9223372036854775807 by omega), show ((i : Int) + 1) = ((i + 1 : Nat) : Int) by omega]
    exact ih k (i + 1) _ (by rw [List.length_set]; exact hl) (by omega) (by omega)
/-- any leases at any time: the program sweeps as the document does, and what it was given stays. -/
theorem Sweeps : pinfoldlaw19_Sweeps.Pure := by
  intro ls now hls _
  obtain ⟨hl, hx⟩ := hls
  have hs : ∀ x ∈ ls, x.f4.size ≤ 1048576 := fun x h => (hx x h).2.2.2.2.1
  have hsm := smallL_of ls _ hs
  refine ⟨4 * 1048576 + 50 + 1 + 20, ?_⟩
  unfold pinfoldlaw19_Sweeps.f
  have ea : pinfoldlaw19_awake.f (4 * 1048576 + 50 + 20) = some true := awake_eq _
  generalize hK : 4 * 1048576 + 50 + 20 = K at ea
  rw [show 4 * 1048576 + 50 + 1 + 20 = K + 1 by omega]
  have e1 : pinfoldlaw0_LendLeases.f ls = some ls := by
    unfold pinfoldlaw0_LendLeases.f
    rw [if_pos (by omega)]
  rw [e1, Option.bind_some, sweep_eq (K + 1) ls now 1048576 (by omega) hsm (by omega) (by omega), refsweep_eq (K + 1) ls now 1048576 (by omega) hsm hl (by omega)]
  simp only [Option.bind_some, num_eq]
  have hlv : (sweepV ls now).1.length ≤ 1048576 := by
    unfold sweepV
    split
    · show (ls.map (sweptL now)).length ≤ _
      rw [List.length_map]
      exact hl
    · exact Nat.zero_le _
  obtain ⟨r, hr⟩ := spoil_loop (sweepV ls now).1.length hlv (sweepV ls now).1.length K 0 (sweepV ls now).1 rfl (by omega) (by omega)
  have hr2 : pinfoldlaw0_SpoilLeases.f K (sweepV ls now).1 = some r := hr
  have e2 : pinfoldlaw0_KeptLeases.f K ls ls = some true := by
    unfold pinfoldlaw0_KeptLeases.f
    rw [if_pos (by omega), same_eq K ls hl (by omega)]
  rw [same_eq (K + 1) _ hlv (by omega)]
  simp only [Option.bind_some, if_true, bne_self_eq_false]
  rw [pinfoldlaw19_Sweeps.j0, if_neg (by decide), hr2, e2, ea]
  rfl

end Go.Proofs.Ytpfanafggmkejaa.Pure
