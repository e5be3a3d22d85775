-- Made by wip/pr.py out of the translation (a turned copy of the kit's print; contracts by hand where said).
import Derived.Test.YtibmakpghbinbaaPQx0
namespace Go.Proofs.Ytibmakpghbinbaa.PQ
open Go.RowKit Go.Proofs.YtibmakpghbinbaaW.PrintWords Go.Proofs.YtibmakpghbinbaaW.PrintLast Go.Proofs.YtibmakpghbinbaaW.PrintMore
-- shrunk
attribute [local go_sem] max2_int min2_int max_two min_two max_three min_three max_four min_four   -- for this text's walks alone
set_option linter.unusedVariables false
set_option linter.unusedSimpArgs false

/-! walk.inc -/
/-- what stood there reads as before. -/
theorem kept_ {W w1 : World} (hb : Below W.heap.size W w1) (g : Nat) (hg : g < W.heap.size) : ∀ o, w1.cell? ⟨g, o, none⟩ = W.cell? ⟨g, o, none⟩ := fun o => hb.cell (p := ⟨g, o, none⟩) hg
theorem ret_bool {a b : Bool} (h : a = b) : Ending.returned (.bool a) = .returned (.bool b) := by rw [h]
theorem kept_g {W w1 : World} {row : Option Nat} {g : Nat} (hb : W.grownBy w1 row) (hg : g < W.heap.size) (hne : some g ≠ row) : ∀ o, w1.cell? ⟨g, o, none⟩ = W.cell? ⟨g, o, none⟩ := fun o => by
 unfold World.cell?
 rw [hb.block g hg hne]

/-! int.inc -/
/-- the bounds of an int. -/
theorem int_bd {a : Int} (h : (Lit.int .i64 a).wf = true) : -9223372036854775808 ≤ a ∧ a ≤ 9223372036854775807 := by
 simp only [Lit.wf, IntKind.min, IntKind.max, IntKind.signed, IntKind.bits, Bool.and_eq_true, decide_eq_true_eq, if_true] at h
 omega
theorem u64_eq (a : Int) : IntKind.u64.wrap a = a % 18446744073709551616 := by simp [IntKind.wrap, IntKind.bits, IntKind.signed]
theorem w64 {a : Int} (h : -9223372036854775808 ≤ a ∧ a ≤ 9223372036854775807) : wrap64 a = a := by unfold wrap64; omega
/-- the low bits of any int. -/
theorem and_mask (a : Int) (i : Nat) (hi : i ≤ 62) : Go.bits .and .i64 a ((2 ^ i - 1 : Nat) : Int) = a % ((2 ^ i : Nat) : Int) := by
 have hp : 0 < 2 ^ i := Nat.two_pow_pos i
 have hl : 2 ^ i ≤ 2 ^ 62 := Nat.pow_le_pow_right (by decide) hi
 show IntKind.wrap .i64 (((BitVec.ofInt 64 a &&& BitVec.ofInt 64 ((2 ^ i - 1 : Nat) : Int)).toNat : Nat) : Int) = _
 have e : (((BitVec.ofInt 64 a &&& BitVec.ofInt 64 ((2 ^ i - 1 : Nat) : Int)).toNat : Nat) : Int) = a % ((2 ^ i : Nat) : Int) := by
  rw [BitVec.toNat_and, BitVec.ofInt_natCast, BitVec.toNat_ofNat, Nat.mod_eq_of_lt (show 2 ^ i - 1 < 2 ^ 64 by omega), Nat.and_two_pow_sub_one_eq_mod, BitVec.toNat_ofInt]
  rw [Int.natCast_emod, Int.toNat_of_nonneg (Int.emod_nonneg _ (by decide))]
  exact Int.emod_emod_of_dvd a (by
   rw [Int.natCast_dvd_natCast]
   exact Nat.pow_dvd_pow 2 (by omega))
 rw [e, IntKind.wrap_i64]
 have h0 := Int.emod_nonneg a (show ((2 ^ i : Nat) : Int) ≠ 0 by omega)
 have h1 := Int.emod_lt_of_pos a (show 0 < ((2 ^ i : Nat) : Int) by omega)
 omega
theorem and_1023 (a : Int) : Go.bits .and .i64 a 1023 = a % 1024 := and_mask a 10 (by decide)
theorem and_63 (a : Int) : Go.bits .and .i64 a 63 = a % 64 := and_mask a 6 (by decide)
theorem and_255 (a : Int) : Go.bits .and .i64 a 255 = a % 256 := and_mask a 8 (by decide)
theorem and_65535 (a : Int) : Go.bits .and .i64 a 65535 = a % 65536 := and_mask a 16 (by decide)
theorem and_u32 (a : Int) : Go.bits .and .i64 a 4294967295 = a % 4294967296 := and_mask a 32 (by decide)
theorem wraps_i64 (n : Int) (h0 : 0 ≤ n) (h1 : n < 2 ^ 63) : IntKind.i64.wrap n = n := by rw [IntKind.wrap_i64]; omega
theorem or_byte (x b : Int) (hx : 0 ≤ x ∧ x < 281474976710656) (hb : 0 ≤ b ∧ b < 256) : Go.bits .or .i64 (wrap64 (x * 256)) b = x * 256 + b := by
 rw [w64 (by omega)]
 exact bits_join .i64 63 (by decide) wraps_i64 8 (x * 256) b (by omega) (by omega) (by omega) hb.1 (by omega) (by omega)

/-! name0.inc -/
theorem bt_bd (s : ByteArray) (i : Int) : 0 ≤ bt s i ∧ bt s i < 256 := by have := bt_range s i; omega
theorem toList_nil (s : ByteArray) : s.toList = ([] : List UInt8) ↔ s.size = 0 := by
 rw [ByteArray.toList_eq, ← data_length, List.length_eq_zero_iff]
theorem drop_cons (s : ByteArray) (i : Nat) (h : i < s.size) : (bytesOf s).drop i = bt s i :: (bytesOf s).drop (i + 1) := by
 have hl : i < (bytesOf s).length := by rw [bytesOf_length]; exact h
 rw [List.drop_eq_getElem_cons hl, ← rd_bytesOf]
 unfold rd
 rw [Int.toNat_natCast, List.getD_eq_getElem?_getD, List.getElem?_eq_getElem hl]
 rfl
theorem drop_end (s : ByteArray) (i : Nat) (h : s.size ≤ i) : (bytesOf s).drop i = [] := List.drop_eq_nil_of_le (by rw [bytesOf_length]; exact h)
theorem bytesOf_extract (s : ByteArray) (a b : Nat) : bytesOf (s.extract a b) = ((bytesOf s).drop a).take (b - a) := by
 unfold bytesOf
 rw [ByteArray.data_extract, Array.toList_extract, List.extract_eq_take_drop, List.map_take, List.map_drop]

/-- may a label have such a byte. -/
def letterB (b : Int) : Bool := decide ((97 ≤ b ∧ b ≤ 122) ∨ (48 ≤ b ∧ b ≤ 57) ∨ b = 45)
/-- may a label be so. -/
def labelB (l : List Int) : Bool := l.all letterB && decide (1 ≤ l.length ∧ l.length ≤ 8)
/-- a text, cut at its points. -/
def glue (p : List Int) : List (List Int) → List (List Int)
 | [] => [p]
 | q :: qs => (p ++ q) :: qs
def cutL : List Int → List (List Int)
 | [] => [[]]
 | b :: l => if b = 46 then [] :: cutL l else glue [b] (cutL l)
/-- may a name be so. -/
def nameB (l : List Int) : Bool := decide (l = []) || ((cutL l).all labelB && decide ((cutL l).length ≤ 8))

theorem cutL_ne : ∀ l, cutL l ≠ []
 | [] => by simp [cutL]
 | b :: l => by
  unfold cutL
  split
  ·simp
  ·cases cutL l <;> simp [glue]
theorem glue_nil (l : List (List Int)) (h : l ≠ []) : glue [] l = l := by
 cases l with
 | nil => exact absurd rfl h
 | cons q qs => simp [glue]
theorem glue_glue (p q : List Int) (l : List (List Int)) : glue p (glue q l) = glue (p ++ q) l := by
 cases l <;> simp [glue]
theorem cutL_point (l : List Int) : cutL (46 :: l) = [] :: cutL l := by rw [cutL, if_pos rfl]
theorem cutL_other (b : Int) (l : List Int) (h : b ≠ 46) : cutL (b :: l) = glue [b] (cutL l) := by rw [cutL, if_neg h]

theorem cut_index : ∀ L : List UInt8, (Lib.indexByte L 46 = -1 ∧ cutL (L.map fun b => (b.toNat : Int)) = [L.map fun b => (b.toNat : Int)]) ∨
  (0 ≤ Lib.indexByte L 46 ∧ Lib.indexByte L 46 < (L.length : Int) ∧ cutL (L.map fun b => (b.toNat : Int)) = (L.map fun b => (b.toNat : Int)).take (Lib.indexByte L 46).toNat :: cutL ((L.map fun b => (b.toNat : Int)).drop ((Lib.indexByte L 46).toNat + 1)))
 | [] => .inl ⟨rfl, rfl⟩
 | b :: L => by
  have ih := cut_index L
  by_cases hb : b = 46
  ·subst hb
   refine .inr ⟨by simp [Lib.indexByte], by simp [Lib.indexByte], ?_⟩
   have e : Lib.indexByte (46 :: L) 46 = 0 := by simp [Lib.indexByte]
   rw [e]
   exact cutL_point _
  ·have hb2 : ((b.toNat : Nat) : Int) ≠ 46 := by
    intro h
    apply hb
    have h2 : b.toNat = 46 := by omega
    exact UInt8.toNat_inj.1 h2
   have hne : (b == 46) = false := by simpa using hb
   rcases ih with ⟨h1, h2⟩ | ⟨h1, h2, h3⟩
   ·refine .inl ⟨by simp [Lib.indexByte, hne, h1], ?_⟩
    rw [List.map_cons, cutL_other _ _ hb2, h2]
    rfl
   ·have e : Lib.indexByte (b :: L) 46 = Lib.indexByte L 46 + 1 := by
     have h4 : (Lib.indexByte L 46 == -1) = false := by
      rw [beq_eq_false_iff_ne]
      omega
     simp [Lib.indexByte, hne, h4]
    refine .inr ⟨by omega, by rw [e, List.length_cons]; omega, ?_⟩
    rw [e, show (Lib.indexByte L 46 + 1).toNat = (Lib.indexByte L 46).toNat + 1 by omega, List.map_cons, cutL_other _ _ hb2, h3]
    rfl


/-! small.inc -/
/-- is it a number of four bytes. -/
def wordB (x : Int) : Bool := decide (0 ≤ x ∧ x ≤ 4294967295)
/-- may a client be called so. -/
def clientB (a : ByteArray) : Bool := decide (1 ≤ a.size ∧ a.size ≤ 16)

/-! lease0.inc -/
/-- may a lease's state be so. -/
def stateB (st : Int) (cl nm : ByteArray) (won : Bool) : Bool :=
 if st = 0 ∨ st = 3 then decide (nm.toList = []) && !won else if st = 1 then decide (cl.toList ≠ []) && decide (nm.toList = []) && !won else if st = 2 then decide (cl.toList ≠ []) && (decide (nm.toList ≠ []) || !won) else false
/-- may a lease be. -/
def leaseB (h st : Int) (cl : ByteArray) (un : Int) (nm : ByteArray) (won : Bool) : Bool :=
 decide (2 ≤ h ∧ h ≤ 254) && stateB st cl nm won && decide (cl.size ≤ 16) && decide (0 ≤ un ∧ un ≤ 1099511627776) && nameB (bytesOf nm)
/-- does a lease hold. -/
def liveB (h st : Int) (cl : ByteArray) (un : Int) (nm : ByteArray) (won : Bool) (now : Int) : Bool := leaseB h st cl un nm won && decide (st ≠ 0) && decide (un > now)
def holdsB (h st : Int) (cl : ByteArray) (un : Int) (nm : ByteArray) (won : Bool) (c : ByteArray) (now : Int) : Bool := liveB h st cl un nm won now && (decide (st ≠ 3) && decide (cl.toList = c.toList))
def boundB (h st : Int) (cl : ByteArray) (un : Int) (nm : ByteArray) (won : Bool) (c : ByteArray) (now : Int) : Bool := holdsB h st cl un nm won c now && decide (st = 2)

/-! region.inc -/
/-! a region that draws its order, walked in the order of its text: the first m of n operations have come up -/
def upto_ (n m : Nat) : Array Bool := (List.replicate m true ++ List.replicate (n - m) false).toArray
section
variable {P : Program} {ops : Array Oper} {Q : Exit → Act → World → Prop} {S : World → Prop}
theorem seqS {id : Nat} {a : Act} {w : World} (n : Nat) (hm : P.follows .mixedOrders = true) (hn : ops.size = n) (hl : Array.replicate n false = upto_ n 0) (hS : S w.drew)
  (h : S w.drew → wpAnyLast P .any ops Q S [] n (upto_ n (n - n)) a w.drew) : (Code.region id ops true).wp P Q a w := by
 rw [Nat.sub_self] at h
 exact start_ (upto_ n 0) hm hn hl hS h
theorem seqP {n fuel : Nat} {m : Tmp} {oi : Oper} {v : Value} {a : Act} {w : World} (hi : ops[n - (fuel + 1)]? = some oi) (hN : oi.dst = some m) (hc : anyB .any ops (upto_ n (n - (fuel + 1))) (upto_ n (n - fuel)) (n - (fuel + 1)) = true)
  (hQ : ∀ c a w, Q (.panic c) (a.put oi.dst v) w → Q (.panic c) a w) (hy : Yields P ops oi v a) {a' : Act} (ha : a.put (some m) v = a') (h : wpAnyLast P .any ops Q S [] fuel (upto_ n (n - fuel)) a' w) :
  wpAnyLast P .any ops Q S [] (fuel + 1) (upto_ n (n - (fuel + 1))) a w := pure_ (upto_ n (n - fuel)) hi hN hc hQ hy ha h
theorem seqL {n fuel : Nat} {m : Tmp} {oi : Oper} {v : Value} {a : Act} {w : World} (hi : ops[n - (fuel + 1)]? = some oi) (hN : oi.dst = some m) (hc : takeB .any ops [] (upto_ n (n - (fuel + 1))) (upto_ n (n - fuel)) (n - (fuel + 1)) = true)
  (hQ : ∀ c a w, Q (.panic c) (a.put oi.dst v) w → Q (.panic c) a w) (hy : YieldsIf P ops S oi v a) (hS : S w) {a' : Act} (ha : a.put (some m) v = a') (h : wpAnyLast P .any ops Q S [] fuel (upto_ n (n - fuel)) a' w) :
  wpAnyLast P .any ops Q S [] (fuel + 1) (upto_ n (n - (fuel + 1))) a w := take_ (upto_ n (n - fuel)) hi hN hc hQ hy hS ha h
theorem seqC {n fuel : Nat} {m : Tmp} {oi : Oper} {a : Act} {w : World} (hi : ops[n - (fuel + 1)]? = some oi) (hN : oi.dst = some m) (hc : readyB .any ops (upto_ n (n - (fuel + 1))) (upto_ n (n - fuel)) (n - (fuel + 1)) = true)
  (h : ∀ K : Act → World → Prop, Shut (∀ a' w', S w' → (S w' → wpAnyLast P .any ops Q S [] fuel (upto_ n (n - fuel)) a' w') → K a' w') → if Region.wanted oi (yielded ops a.tmps) = true then Oper.wp P oi a w K Q else K (a.put (some m) undef) w) :
  wpAnyLast P .any ops Q S [] (fuel + 1) (upto_ n (n - (fuel + 1))) a w := one_ (upto_ n (n - fuel)) hi hN hc (by simp) h
theorem seqG {n fuel : Nat} {m : Tmp} {oi : Oper} {a : Act} {w : World} {f : FuncId} {fn : Func} {as_ : Array Operand} {ts : Array TypeId} (hi : ops[n - (fuel + 1)]? = some oi) (hN : oi.dst = some m) (hc : readyB .any ops (upto_ n (n - (fuel + 1))) (upto_ n (n - fuel)) (n - (fuel + 1)) = true)
  (hop : oi.op = .call { callee := .value (.func f), args := as_, argTypes := ts }) (hf : P.funcs[f]? = some fn) (hname : (fn.name == "runtime.NumGoroutine") = false) (hb : fn.body.isSome = true) (args : Array Value) (hw : Region.wanted oi (yielded ops a.tmps) = true) (hargs : as_.map a.eval = args)
  (h : Calls P f args w fun e w' => ∃ v, e = .returned v ∧ S w' ∧ (S w' → ∃ a', a.put (some m) v = a' ∧ wpAnyLast P .any ops Q S [] fuel (upto_ n (n - fuel)) a' w')) :
  wpAnyLast P .any ops Q S [] (fuel + 1) (upto_ n (n - (fuel + 1))) a w := by
 refine seqC hi hN hc (fun K hK => goes_ hf hname hb args hw hN hop hargs (h.mono ?_))
 rintro e w' ⟨v, he, hS, hk⟩
 refine ⟨v, he, hK.out _ _ hS (fun hS2 => ?_)⟩
 obtain ⟨a', rfl, h2⟩ := hk hS2
 exact h2
theorem seqE {n : Nat} {a : Act} {w : World} (hr : (Region.ready .any ops (upto_ n (n - 0)) == []) = true) (h : Q .normal a w) : wpAnyLast P .any ops Q S [] 0 (upto_ n (n - 0)) a w := done_ hr h
end

/-! table0.inc -/
/-- does the host come behind the one ahead. -/
def above (p : Option Int) (h : Int) : Bool := match p with
 | none => true
 | some q => decide (q < h)
def leaseOk (x : S37) : Bool := leaseB x.f0 x.f1 x.f2 x.f3 x.f4 x.f5
def goTab : Option Int → List S37 → Bool
 | _, [] => true
 | p, x :: r => leaseOk x && (above p x.f0 && goTab (some x.f0) r)
/-- may leases be. -/
def tableB (l : List S37) : Bool := goTab none l && decide (l.length ≤ 8)
def tabFit (l : List S37) : Prop := l.length ≤ 140737488351232 ∧ ∀ x ∈ l, x.f4.size ≤ 140737488351232
instance (l : List S37) : Decidable (tabFit l) := by unfold tabFit; infer_instance
theorem dropLease (l0 : List S37) (i : Int) (h0 : 0 ≤ i) (h1 : i < l0.length) : l0.drop i.toNat = rd_T37 l0 i :: l0.drop (i.toNat + 1) ∧ rd_T37 l0 i ∈ l0 := by
 have h : i.toNat < l0.length := by omega
 have e : rd_T37 l0 i = l0[i.toNat] := by
  unfold rd_T37
  rw [List.getD_eq_getElem?_getD, List.getElem?_eq_getElem h]
  rfl
 rw [e, List.drop_eq_getElem_cons h]
 exact ⟨rfl, List.getElem_mem h⟩

/-! leasel.inc -/
def liveX (now : Int) (x : S37) : Bool := liveB x.f0 x.f1 x.f2 x.f3 x.f4 x.f5 now
def holdsX (c : ByteArray) (now : Int) (x : S37) : Bool := holdsB x.f0 x.f1 x.f2 x.f3 x.f4 x.f5 c now
def boundX (c : ByteArray) (now : Int) (x : S37) : Bool := boundB x.f0 x.f1 x.f2 x.f3 x.f4 x.f5 c now
/-- a host's lease. -/
def findL (l : List S37) (h : Int) : Option S37 := l.find? fun x => x.f0 == h
/-- what is told where none is. -/
def gotL (o : Option S37) : S37 := o.getD z37
def tabFitR (l : List S37) : Prop := l.length ≤ 140737488351232 ∧ ∀ x ∈ l, x.f4.size ≤ 8796093022000
instance (l : List S37) : Decidable (tabFitR l) := by unfold tabFitR; infer_instance

/-! ofl.inc -/
/-- the first Live one that is offered or bound to a client. -/
def ofL (ls : List S37) (client : ByteArray) (now : Int) : Option S37 := if tableB ls = true then ls.find? (holdsX client now) else none

end Go.Proofs.Ytibmakpghbinbaa.PQ
