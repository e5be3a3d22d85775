-- Made by wip/pr.py out of the translation (a turned copy of the kit's print; contracts by hand where said).
import Derived.Test.YtibmakpghbinbaaPMx0
namespace Go.Proofs.Ytibmakpghbinbaa.PM
open Go.RowKit Go.Proofs.YtibmakpghbinbaaW.PrintWords Go.Proofs.YtibmakpghbinbaaW.PrintLast Go.Proofs.YtibmakpghbinbaaW.PrintMore
-- shrunk
attribute [local go_sem] max2_int min2_int max_two min_two max_three min_three max_four min_four   -- for this text's walks alone
set_option linter.unusedVariables false
set_option linter.unusedSimpArgs false

/-! walk.inc -/
/-- what stood there reads as before. -/
theorem kept_ {W w1 : World} (hb : Below W.heap.size W w1) (g : Nat) (hg : g < W.heap.size) : ∀ o, w1.cell? ⟨g, o, none⟩ = W.cell? ⟨g, o, none⟩ := fun o => hb.cell (p := ⟨g, o, none⟩) hg
theorem ret_bool {a b : Bool} (h : a = b) : Ending.returned (.bool a) = .returned (.bool b) := by rw [h]
theorem kept_g {W w1 : World} {row : Option Nat} {g : Nat} (hb : W.grownBy w1 row) (hg : g < W.heap.size) (hne : some g ≠ row) : ∀ o, w1.cell? ⟨g, o, none⟩ = W.cell? ⟨g, o, none⟩ := fun o => by
 unfold World.cell?
 rw [hb.block g hg hne]

/-! int.inc -/
/-- the bounds of an int. -/
theorem int_bd {a : Int} (h : (Lit.int .i64 a).wf = true) : -9223372036854775808 ≤ a ∧ a ≤ 9223372036854775807 := by
 simp only [Lit.wf, IntKind.min, IntKind.max, IntKind.signed, IntKind.bits, Bool.and_eq_true, decide_eq_true_eq, if_true] at h
 omega
theorem u64_eq (a : Int) : IntKind.u64.wrap a = a % 18446744073709551616 := by simp [IntKind.wrap, IntKind.bits, IntKind.signed]
theorem w64 {a : Int} (h : -9223372036854775808 ≤ a ∧ a ≤ 9223372036854775807) : wrap64 a = a := by unfold wrap64; omega
/-- the low bits of any int. -/
theorem and_mask (a : Int) (i : Nat) (hi : i ≤ 62) : Go.bits .and .i64 a ((2 ^ i - 1 : Nat) : Int) = a % ((2 ^ i : Nat) : Int) := by
 have hp : 0 < 2 ^ i := Nat.two_pow_pos i
 have hl : 2 ^ i ≤ 2 ^ 62 := Nat.pow_le_pow_right (by decide) hi
 show IntKind.wrap .i64 (((BitVec.ofInt 64 a &&& BitVec.ofInt 64 ((2 ^ i - 1 : Nat) : Int)).toNat : Nat) : Int) = _
 have e : (((BitVec.ofInt 64 a &&& BitVec.ofInt 64 ((2 ^ i - 1 : Nat) : Int)).toNat : Nat) : Int) = a % ((2 ^ i : Nat) : Int) := by
  rw [BitVec.toNat_and, BitVec.ofInt_natCast, BitVec.toNat_ofNat, Nat.mod_eq_of_lt (show 2 ^ i - 1 < 2 ^ 64 by omega), Nat.and_two_pow_sub_one_eq_mod, BitVec.toNat_ofInt]
  rw [Int.natCast_emod, Int.toNat_of_nonneg (Int.emod_nonneg _ (by decide))]
  exact Int.emod_emod_of_dvd a (by
   rw [Int.natCast_dvd_natCast]
   exact Nat.pow_dvd_pow 2 (by omega))
 rw [e, IntKind.wrap_i64]
 have h0 := Int.emod_nonneg a (show ((2 ^ i : Nat) : Int) ≠ 0 by omega)
 have h1 := Int.emod_lt_of_pos a (show 0 < ((2 ^ i : Nat) : Int) by omega)
 omega
theorem and_1023 (a : Int) : Go.bits .and .i64 a 1023 = a % 1024 := and_mask a 10 (by decide)
theorem and_63 (a : Int) : Go.bits .and .i64 a 63 = a % 64 := and_mask a 6 (by decide)
theorem and_255 (a : Int) : Go.bits .and .i64 a 255 = a % 256 := and_mask a 8 (by decide)
theorem and_65535 (a : Int) : Go.bits .and .i64 a 65535 = a % 65536 := and_mask a 16 (by decide)
theorem and_u32 (a : Int) : Go.bits .and .i64 a 4294967295 = a % 4294967296 := and_mask a 32 (by decide)
theorem wraps_i64 (n : Int) (h0 : 0 ≤ n) (h1 : n < 2 ^ 63) : IntKind.i64.wrap n = n := by rw [IntKind.wrap_i64]; omega
theorem or_byte (x b : Int) (hx : 0 ≤ x ∧ x < 281474976710656) (hb : 0 ≤ b ∧ b < 256) : Go.bits .or .i64 (wrap64 (x * 256)) b = x * 256 + b := by
 rw [w64 (by omega)]
 exact bits_join .i64 63 (by decide) wraps_i64 8 (x * 256) b (by omega) (by omega) (by omega) hb.1 (by omega) (by omega)

/-! name0.inc -/
theorem bt_bd (s : ByteArray) (i : Int) : 0 ≤ bt s i ∧ bt s i < 256 := by have := bt_range s i; omega
theorem toList_nil (s : ByteArray) : s.toList = ([] : List UInt8) ↔ s.size = 0 := by
 rw [ByteArray.toList_eq, ← data_length, List.length_eq_zero_iff]
theorem drop_cons (s : ByteArray) (i : Nat) (h : i < s.size) : (bytesOf s).drop i = bt s i :: (bytesOf s).drop (i + 1) := by
 have hl : i < (bytesOf s).length := by rw [bytesOf_length]; exact h
 rw [List.drop_eq_getElem_cons hl, ← rd_bytesOf]
 unfold rd
 rw [Int.toNat_natCast, List.getD_eq_getElem?_getD, List.getElem?_eq_getElem hl]
 rfl
theorem drop_end (s : ByteArray) (i : Nat) (h : s.size ≤ i) : (bytesOf s).drop i = [] := List.drop_eq_nil_of_le (by rw [bytesOf_length]; exact h)
theorem bytesOf_extract (s : ByteArray) (a b : Nat) : bytesOf (s.extract a b) = ((bytesOf s).drop a).take (b - a) := by
 unfold bytesOf
 rw [ByteArray.data_extract, Array.toList_extract, List.extract_eq_take_drop, List.map_take, List.map_drop]

/-- may a label have such a byte. -/
def letterB (b : Int) : Bool := decide ((97 ≤ b ∧ b ≤ 122) ∨ (48 ≤ b ∧ b ≤ 57) ∨ b = 45)
/-- may a label be so. -/
def labelB (l : List Int) : Bool := l.all letterB && decide (1 ≤ l.length ∧ l.length ≤ 8)
/-- a text, cut at its points. -/
def glue (p : List Int) : List (List Int) → List (List Int)
 | [] => [p]
 | q :: qs => (p ++ q) :: qs
def cutL : List Int → List (List Int)
 | [] => [[]]
 | b :: l => if b = 46 then [] :: cutL l else glue [b] (cutL l)
/-- may a name be so. -/
def nameB (l : List Int) : Bool := decide (l = []) || ((cutL l).all labelB && decide ((cutL l).length ≤ 8))

theorem cutL_ne : ∀ l, cutL l ≠ []
 | [] => by simp [cutL]
 | b :: l => by
  unfold cutL
  split
  ·simp
  ·cases cutL l <;> simp [glue]
theorem glue_nil (l : List (List Int)) (h : l ≠ []) : glue [] l = l := by
 cases l with
 | nil => exact absurd rfl h
 | cons q qs => simp [glue]
theorem glue_glue (p q : List Int) (l : List (List Int)) : glue p (glue q l) = glue (p ++ q) l := by
 cases l <;> simp [glue]
theorem cutL_point (l : List Int) : cutL (46 :: l) = [] :: cutL l := by rw [cutL, if_pos rfl]
theorem cutL_other (b : Int) (l : List Int) (h : b ≠ 46) : cutL (b :: l) = glue [b] (cutL l) := by rw [cutL, if_neg h]

theorem cut_index : ∀ L : List UInt8, (Lib.indexByte L 46 = -1 ∧ cutL (L.map fun b => (b.toNat : Int)) = [L.map fun b => (b.toNat : Int)]) ∨
  (0 ≤ Lib.indexByte L 46 ∧ Lib.indexByte L 46 < (L.length : Int) ∧ cutL (L.map fun b => (b.toNat : Int)) = (L.map fun b => (b.toNat : Int)).take (Lib.indexByte L 46).toNat :: cutL ((L.map fun b => (b.toNat : Int)).drop ((Lib.indexByte L 46).toNat + 1)))
 | [] => .inl ⟨rfl, rfl⟩
 | b :: L => by
  have ih := cut_index L
  by_cases hb : b = 46
  ·subst hb
   refine .inr ⟨by simp [Lib.indexByte], by simp [Lib.indexByte], ?_⟩
   have e : Lib.indexByte (46 :: L) 46 = 0 := by simp [Lib.indexByte]
   rw [e]
   exact cutL_point _
  ·have hb2 : ((b.toNat : Nat) : Int) ≠ 46 := by
    intro h
    apply hb
    have h2 : b.toNat = 46 := by omega
    exact UInt8.toNat_inj.1 h2
   have hne : (b == 46) = false := by simpa using hb
   rcases ih with ⟨h1, h2⟩ | ⟨h1, h2, h3⟩
   ·refine .inl ⟨by simp [Lib.indexByte, hne, h1], ?_⟩
    rw [List.map_cons, cutL_other _ _ hb2, h2]
    rfl
   ·have e : Lib.indexByte (b :: L) 46 = Lib.indexByte L 46 + 1 := by
     have h4 : (Lib.indexByte L 46 == -1) = false := by
      rw [beq_eq_false_iff_ne]
      omega
     simp [Lib.indexByte, hne, h4]
    refine .inr ⟨by omega, by rw [e, List.length_cons]; omega, ?_⟩
    rw [e, show (Lib.indexByte L 46 + 1).toNat = (Lib.indexByte L 46).toNat + 1 by omega, List.map_cons, cutL_other _ _ hb2, h3]
    rfl


/-! small.inc -/
/-- is it a number of four bytes. -/
def wordB (x : Int) : Bool := decide (0 ≤ x ∧ x ≤ 4294967295)
/-- may a client be called so. -/
def clientB (a : ByteArray) : Bool := decide (1 ≤ a.size ∧ a.size ≤ 16)

/-! lease0.inc -/
/-- may a lease's state be so. -/
def stateB (st : Int) (cl nm : ByteArray) (won : Bool) : Bool :=
 if st = 0 ∨ st = 3 then decide (nm.toList = []) && !won else if st = 1 then decide (cl.toList ≠ []) && decide (nm.toList = []) && !won else if st = 2 then decide (cl.toList ≠ []) && (decide (nm.toList ≠ []) || !won) else false
/-- may a lease be. -/
def leaseB (h st : Int) (cl : ByteArray) (un : Int) (nm : ByteArray) (won : Bool) : Bool :=
 decide (2 ≤ h ∧ h ≤ 254) && stateB st cl nm won && decide (cl.size ≤ 16) && decide (0 ≤ un ∧ un ≤ 1099511627776) && nameB (bytesOf nm)
/-- does a lease hold. -/
def liveB (h st : Int) (cl : ByteArray) (un : Int) (nm : ByteArray) (won : Bool) (now : Int) : Bool := leaseB h st cl un nm won && decide (st ≠ 0) && decide (un > now)
def holdsB (h st : Int) (cl : ByteArray) (un : Int) (nm : ByteArray) (won : Bool) (c : ByteArray) (now : Int) : Bool := liveB h st cl un nm won now && (decide (st ≠ 3) && decide (cl.toList = c.toList))
def boundB (h st : Int) (cl : ByteArray) (un : Int) (nm : ByteArray) (won : Bool) (c : ByteArray) (now : Int) : Bool := holdsB h st cl un nm won c now && decide (st = 2)

/-! region.inc -/
/-! a region that draws its order, walked in the order of its text: the first m of n operations have come up -/
def upto_ (n m : Nat) : Array Bool := (List.replicate m true ++ List.replicate (n - m) false).toArray
section
variable {P : Program} {ops : Array Oper} {Q : Exit → Act → World → Prop} {S : World → Prop}
theorem seqS {id : Nat} {a : Act} {w : World} (n : Nat) (hm : P.follows .mixedOrders = true) (hn : ops.size = n) (hl : Array.replicate n false = upto_ n 0) (hS : S w.drew)
  (h : S w.drew → wpAnyLast P .any ops Q S [] n (upto_ n (n - n)) a w.drew) : (Code.region id ops true).wp P Q a w := by
 rw [Nat.sub_self] at h
 exact start_ (upto_ n 0) hm hn hl hS h
theorem seqP {n fuel : Nat} {m : Tmp} {oi : Oper} {v : Value} {a : Act} {w : World} (hi : ops[n - (fuel + 1)]? = some oi) (hN : oi.dst = some m) (hc : anyB .any ops (upto_ n (n - (fuel + 1))) (upto_ n (n - fuel)) (n - (fuel + 1)) = true)
  (hQ : ∀ c a w, Q (.panic c) (a.put oi.dst v) w → Q (.panic c) a w) (hy : Yields P ops oi v a) {a' : Act} (ha : a.put (some m) v = a') (h : wpAnyLast P .any ops Q S [] fuel (upto_ n (n - fuel)) a' w) :
  wpAnyLast P .any ops Q S [] (fuel + 1) (upto_ n (n - (fuel + 1))) a w := pure_ (upto_ n (n - fuel)) hi hN hc hQ hy ha h
theorem seqL {n fuel : Nat} {m : Tmp} {oi : Oper} {v : Value} {a : Act} {w : World} (hi : ops[n - (fuel + 1)]? = some oi) (hN : oi.dst = some m) (hc : takeB .any ops [] (upto_ n (n - (fuel + 1))) (upto_ n (n - fuel)) (n - (fuel + 1)) = true)
  (hQ : ∀ c a w, Q (.panic c) (a.put oi.dst v) w → Q (.panic c) a w) (hy : YieldsIf P ops S oi v a) (hS : S w) {a' : Act} (ha : a.put (some m) v = a') (h : wpAnyLast P .any ops Q S [] fuel (upto_ n (n - fuel)) a' w) :
  wpAnyLast P .any ops Q S [] (fuel + 1) (upto_ n (n - (fuel + 1))) a w := take_ (upto_ n (n - fuel)) hi hN hc hQ hy hS ha h
theorem seqC {n fuel : Nat} {m : Tmp} {oi : Oper} {a : Act} {w : World} (hi : ops[n - (fuel + 1)]? = some oi) (hN : oi.dst = some m) (hc : readyB .any ops (upto_ n (n - (fuel + 1))) (upto_ n (n - fuel)) (n - (fuel + 1)) = true)
  (h : ∀ K : Act → World → Prop, Shut (∀ a' w', S w' → (S w' → wpAnyLast P .any ops Q S [] fuel (upto_ n (n - fuel)) a' w') → K a' w') → if Region.wanted oi (yielded ops a.tmps) = true then Oper.wp P oi a w K Q else K (a.put (some m) undef) w) :
  wpAnyLast P .any ops Q S [] (fuel + 1) (upto_ n (n - (fuel + 1))) a w := one_ (upto_ n (n - fuel)) hi hN hc (by simp) h
theorem seqG {n fuel : Nat} {m : Tmp} {oi : Oper} {a : Act} {w : World} {f : FuncId} {fn : Func} {as_ : Array Operand} {ts : Array TypeId} (hi : ops[n - (fuel + 1)]? = some oi) (hN : oi.dst = some m) (hc : readyB .any ops (upto_ n (n - (fuel + 1))) (upto_ n (n - fuel)) (n - (fuel + 1)) = true)
  (hop : oi.op = .call { callee := .value (.func f), args := as_, argTypes := ts }) (hf : P.funcs[f]? = some fn) (hname : (fn.name == "runtime.NumGoroutine") = false) (hb : fn.body.isSome = true) (args : Array Value) (hw : Region.wanted oi (yielded ops a.tmps) = true) (hargs : as_.map a.eval = args)
  (h : Calls P f args w fun e w' => ∃ v, e = .returned v ∧ S w' ∧ (S w' → ∃ a', a.put (some m) v = a' ∧ wpAnyLast P .any ops Q S [] fuel (upto_ n (n - fuel)) a' w')) :
  wpAnyLast P .any ops Q S [] (fuel + 1) (upto_ n (n - (fuel + 1))) a w := by
 refine seqC hi hN hc (fun K hK => goes_ hf hname hb args hw hN hop hargs (h.mono ?_))
 rintro e w' ⟨v, he, hS, hk⟩
 refine ⟨v, he, hK.out _ _ hS (fun hS2 => ?_)⟩
 obtain ⟨a', rfl, h2⟩ := hk hS2
 exact h2
theorem seqE {n : Nat} {a : Act} {w : World} (hr : (Region.ready .any ops (upto_ n (n - 0)) == []) = true) (h : Q .normal a w) : wpAnyLast P .any ops Q S [] 0 (upto_ n (n - 0)) a w := done_ hr h
end

/-! table0.inc -/
/-- does the host come behind the one ahead. -/
def above (p : Option Int) (h : Int) : Bool := match p with
 | none => true
 | some q => decide (q < h)
def leaseOk (x : S37) : Bool := leaseB x.f0 x.f1 x.f2 x.f3 x.f4 x.f5
def goTab : Option Int → List S37 → Bool
 | _, [] => true
 | p, x :: r => leaseOk x && (above p x.f0 && goTab (some x.f0) r)
/-- may leases be. -/
def tableB (l : List S37) : Bool := goTab none l && decide (l.length ≤ 8)
def tabFit (l : List S37) : Prop := l.length ≤ 140737488351232 ∧ ∀ x ∈ l, x.f4.size ≤ 140737488351232
instance (l : List S37) : Decidable (tabFit l) := by unfold tabFit; infer_instance
theorem dropLease (l0 : List S37) (i : Int) (h0 : 0 ≤ i) (h1 : i < l0.length) : l0.drop i.toNat = rd_T37 l0 i :: l0.drop (i.toNat + 1) ∧ rd_T37 l0 i ∈ l0 := by
 have h : i.toNat < l0.length := by omega
 have e : rd_T37 l0 i = l0[i.toNat] := by
  unfold rd_T37
  rw [List.getD_eq_getElem?_getD, List.getElem?_eq_getElem h]
  rfl
 rw [e, List.drop_eq_getElem_cons h]
 exact ⟨rfl, List.getElem_mem h⟩

/-! leasel.inc -/
def liveX (now : Int) (x : S37) : Bool := liveB x.f0 x.f1 x.f2 x.f3 x.f4 x.f5 now
def holdsX (c : ByteArray) (now : Int) (x : S37) : Bool := holdsB x.f0 x.f1 x.f2 x.f3 x.f4 x.f5 c now
def boundX (c : ByteArray) (now : Int) (x : S37) : Bool := boundB x.f0 x.f1 x.f2 x.f3 x.f4 x.f5 c now
/-- a host's lease. -/
def findL (l : List S37) (h : Int) : Option S37 := l.find? fun x => x.f0 == h
/-- what is told where none is. -/
def gotL (o : Option S37) : S37 := o.getD z37
def tabFitR (l : List S37) : Prop := l.length ≤ 140737488351232 ∧ ∀ x ∈ l, x.f4.size ≤ 8796093022000
instance (l : List S37) : Decidable (tabFitR l) := by unfold tabFitR; infer_instance

/-! ofl.inc -/
/-- the first Live one that is offered or bound to a client. -/
def ofL (ls : List S37) (client : ByteArray) (now : Int) : Option S37 := if tableB ls = true then ls.find? (holdsX client now) else none

/-! drop0.inc -/
/-- what a host's lease becomes. -/
def thenL (p : S37 → Bool) (ls : List S37) (host : Int) (t : S37) : S37 := match findL ls host with
 | some x => if p x = true then ⟨host, t.f1, t.f2, t.f3, t.f4, t.f5⟩ else x
 | none => z37
def swapL (ls : List S37) (host : Int) (y : S37) : List S37 := ls.map fun x => if x.f0 = host then y else x

/-! put0.inc -/
/-- a lease in its place. -/
def putGo (x : S37) : Bool → List S37 → List S37
 | d, [] => if d = true then [] else [x]
 | d, y :: r => (if d = false ∧ y.f0 ≥ x.f0 then [x] else []) ++ ((if y.f0 = x.f0 then [] else [y]) ++ putGo x (d || decide (y.f0 ≥ x.f0)) r)
def putL (l : List S37) (x : S37) : List S37 := putGo x false l

/-! tabsort.inc -/
theorem goTab_sorted : ∀ (l : List S37) (p : Option Int), goTab p l = true → (∀ x ∈ l, leaseOk x = true) ∧ l.Pairwise (fun a b => a.f0 < b.f0) ∧ ∀ q, p = some q → ∀ x ∈ l, q < x.f0
 | [], p, _ => ⟨fun _ h => by simp at h, List.Pairwise.nil, fun _ _ _ h => by simp at h⟩
 | x :: r, p, h => by
  unfold goTab at h
  rw [Bool.and_eq_true, Bool.and_eq_true] at h
  obtain ⟨h1, h2, h3⟩ := h
  obtain ⟨i1, i2, i3⟩ := goTab_sorted r (some x.f0) h3
  have i4 := i3 x.f0 rfl
  refine ⟨fun y hy => ?_, List.pairwise_cons.2 ⟨i4, i2⟩, fun q hq y hy => ?_⟩
  ·rcases List.mem_cons.1 hy with e | hy
   ·rw [e]
    exact h1
   ·exact i1 y hy
  ·subst hq
   have hx : q < x.f0 := of_decide_eq_true h2
   rcases List.mem_cons.1 hy with e | hy
   ·rw [e]
    exact hx
   ·have := i4 y hy
    omega
theorem table_sorted {l : List S37} (h : tableB l = true) : (∀ x ∈ l, leaseOk x = true) ∧ l.Pairwise (fun a b => a.f0 < b.f0) ∧ l.length ≤ 8 := by
 unfold tableB at h
 rw [Bool.and_eq_true, decide_eq_true_eq] at h
 exact ⟨(goTab_sorted l none h.1).1, (goTab_sorted l none h.1).2.1, h.2⟩
/-- hosts stand once. -/
theorem host_once : ∀ {l : List S37}, l.Pairwise (fun a b => a.f0 < b.f0) → ∀ x ∈ l, ∀ y ∈ l, x.f0 = y.f0 → x = y
 | [], _, x, hx, _, _, _ => by simp at hx
 | a :: r, h, x, hx, y, hy, e => by
  obtain ⟨h1, h2⟩ := List.pairwise_cons.1 h
  rcases List.mem_cons.1 hx with hx1 | hx1
  ·rcases List.mem_cons.1 hy with hy1 | hy1
   ·rw [hx1, hy1]
   ·have := h1 y hy1
    rw [hx1] at e
    omega
  ·rcases List.mem_cons.1 hy with hy1 | hy1
   ·have := h1 x hx1
    rw [hy1] at e
    omega
   ·exact host_once h2 x hx1 y hy1 e
theorem put_done : ∀ (l : List S37) (y : S37), (∀ x ∈ l, x.f0 ≠ y.f0) → putGo y true l = l
 | [], y, _ => rfl
 | x :: r, y, h => by
  unfold putGo
  rw [if_neg (by simp), if_neg (h x List.mem_cons_self), Bool.true_or, put_done r y (fun z hz => h z (List.mem_cons_of_mem _ hz))]
  rfl
/-- a lease in the place of another one of the same host. -/
theorem put_swap : ∀ (l : List S37) (y : S37), l.Pairwise (fun a b => a.f0 < b.f0) → (∃ x ∈ l, x.f0 = y.f0) → putGo y false l = swapL l y.f0 y
 | [], y, _, ⟨x, hx, _⟩ => by simp at hx
 | x :: r, y, h, ⟨x', hx', e'⟩ => by
  obtain ⟨h1, h2⟩ := List.pairwise_cons.1 h
  unfold putGo swapL
  rw [List.map_cons]
  by_cases q : x.f0 = y.f0
  ·rw [if_pos ⟨rfl, by omega⟩, if_pos q, if_pos q, decide_eq_true (by omega), Bool.or_true]
   have hr : ∀ z ∈ r, z.f0 ≠ y.f0 := fun z hz => by have := h1 z hz; omega
   rw [put_done r y hr]
   have hm : r.map (fun x => if x.f0 = y.f0 then y else x) = r := (List.map_congr_left (g := id) (fun z hz => if_neg (hr z hz)) : r.map (fun x => if x.f0 = y.f0 then y else x) = r.map id).trans (List.map_id r)
   rw [hm]
   rfl
  ·have hr : x' ∈ r := by
    rcases List.mem_cons.1 hx' with e | e
    ·rw [e] at e'
     exact absurd e' q
    ·exact e
   have hlt := h1 x' hr
   rw [if_neg (by omega), if_neg q, if_neg q, decide_eq_false (by omega), Bool.or_false, put_swap r y h2 ⟨x', hr, e'⟩]
   rfl
theorem swap_id (l : List S37) (host : Int) (y : S37) (h : ∀ x ∈ l, x.f0 = host → x = y) : swapL l host y = l := by
 have hm : l.map (fun x => if x.f0 = host then y else x) = l.map id := List.map_congr_left (fun z hz => by
  by_cases e : z.f0 = host
  ·rw [if_pos e, h z hz e]
   rfl
  ·rw [if_neg e]
   rfl)
 exact hm.trans (List.map_id l)
theorem find_some {l : List S37} {h : Int} {x : S37} (e : findL l h = some x) : x ∈ l ∧ x.f0 = h := by
 unfold findL at e
 refine ⟨List.mem_of_find?_eq_some e, ?_⟩
 have := List.find?_some e
 simpa using this
theorem find_none {l : List S37} {h : Int} (e : findL l h = none) : ∀ x ∈ l, x.f0 ≠ h := fun x hx => by
 unfold findL at e
 have := List.find?_eq_none.1 e x hx
 simpa using this

/-! tabput.inc -/
theorem go_ins (x : S37) (hx : leaseOk x = true) (v : List S37) (hv : ∀ y ∈ v, x.f0 < y.f0) : ∀ (u : List S37) (p : Option Int), goTab p (u ++ v) = true → (∀ y ∈ u, y.f0 < x.f0) → above p x.f0 = true → goTab p (u ++ x :: v) = true
 | [], p, h, _, ha => by
  rw [List.nil_append] at h ⊢
  unfold goTab
  rw [hx, ha, Bool.true_and, Bool.true_and]
  cases v with
  | nil => rfl
  | cons y r =>
   have hy := hv y List.mem_cons_self
   unfold goTab at h ⊢
   rw [Bool.and_eq_true, Bool.and_eq_true] at h
   rw [h.1, h.2.2, show above (some x.f0) y.f0 = true from decide_eq_true hy]
   rfl
 | a :: u, p, h, hu, _ => by
  rw [List.cons_append] at h ⊢
  unfold goTab at h ⊢
  rw [Bool.and_eq_true, Bool.and_eq_true] at h
  rw [h.1, h.2.1, Bool.true_and, Bool.true_and]
  exact go_ins x hx v hv u (some a.f0) h.2.2 (fun y hy => hu y (List.mem_cons_of_mem _ hy)) (decide_eq_true (hu a List.mem_cons_self))
theorem row_split (x : S37) : ∀ (l : List S37), l.Pairwise (fun a b => a.f0 < b.f0) → (∀ y ∈ l, y.f0 ≠ x.f0) → ∃ u v, l = u ++ v ∧ (∀ y ∈ u, y.f0 < x.f0) ∧ ∀ y ∈ v, x.f0 < y.f0
 | [], _, _ => ⟨[], [], rfl, (fun y h => by cases h), (fun y h => by cases h)⟩
 | y :: r, hs, hn => by
  obtain ⟨h1, h2⟩ := List.pairwise_cons.1 hs
  by_cases q : y.f0 < x.f0
  ·obtain ⟨u, v, e, hu, hv⟩ := row_split x r h2 (fun z hz => hn z (List.mem_cons_of_mem _ hz))
   refine ⟨y :: u, v, by rw [e]; rfl, ?_, hv⟩
   intro z hz
   rcases List.mem_cons.1 hz with e | e
   ·rw [e]; exact q
   ·exact hu z e
  ·refine ⟨[], y :: r, rfl, (fun z h => by cases h), ?_⟩
   have := hn y List.mem_cons_self
   intro z hz
   rcases List.mem_cons.1 hz with e | e
   ·rw [e]; omega
   ·have := h1 z e; omega
theorem putrow_mid (x : S37) (v : List S37) (hv : ∀ y ∈ v, x.f0 < y.f0) : ∀ (u : List S37), (∀ y ∈ u, y.f0 < x.f0) → putGo x false (u ++ v) = u ++ x :: v
 | [], _ => by
  rw [List.nil_append, List.nil_append]
  cases v with
  | nil => rfl
  | cons y r =>
   have hy := hv y List.mem_cons_self
   unfold putGo
   rw [if_pos ⟨rfl, by omega⟩, if_neg (show ¬ y.f0 = x.f0 by omega), decide_eq_true (show y.f0 ≥ x.f0 by omega), Bool.or_true, put_done r x (fun z hz => by have := hv z (List.mem_cons_of_mem _ hz); omega)]
   rfl
 | y :: u, hu => by
  have hy := hu y List.mem_cons_self
  rw [List.cons_append, List.cons_append]
  unfold putGo
  rw [if_neg (by omega), if_neg (show ¬ y.f0 = x.f0 by omega), decide_eq_false (show ¬ y.f0 ≥ x.f0 by omega), Bool.or_false, putrow_mid x v hv u (fun z hz => hu z (List.mem_cons_of_mem _ hz))]
  rfl
theorem go_swap (host : Int) (y : S37) (hh : y.f0 = host) (hy : leaseOk y = true) : ∀ (l : List S37) (p : Option Int), goTab p l = true → goTab p (swapL l host y) = true
 | [], p, h => h
 | x :: r, p, h => by
  unfold goTab at h
  rw [Bool.and_eq_true, Bool.and_eq_true] at h
  obtain ⟨h1, h2, h3⟩ := h
  have i := go_swap host y hh hy r (some x.f0) h3
  rw [show swapL (x :: r) host y = (if x.f0 = host then y else x) :: swapL r host y from rfl]
  unfold goTab
  by_cases q : x.f0 = host
  ·rw [← q] at i
   rw [if_pos q, hh, hy, ← q, h2, i]
   rfl
  ·rw [if_neg q, h1, h2, i]
   rfl
theorem table_parts {l : List S37} (h : tableB l = true) : goTab none l = true ∧ l.length ≤ 8 := by
 unfold tableB at h
 rw [Bool.and_eq_true, decide_eq_true_eq] at h
 exact h
theorem table_of {l : List S37} (h : goTab none l = true) (h8 : l.length ≤ 8) : tableB l = true := by
 unfold tableB
 rw [h, decide_eq_true h8]
 rfl
/-- a lease put into a table: the row stands in order. -/
theorem go_put {l : List S37} {x : S37} (hT : tableB l = true) (hx : leaseOk x = true) : goTab none (putL l x) = true := by
 obtain ⟨_, hs, _⟩ := table_sorted hT
 have hg := (table_parts hT).1
 unfold putL
 by_cases hm : ∃ y ∈ l, y.f0 = x.f0
 ·rw [put_swap l x hs hm]
  exact go_swap x.f0 x rfl hx l none hg
 ·obtain ⟨u, v, e, hu, hv⟩ := row_split x l hs (fun y hy e => hm ⟨y, hy, e⟩)
  rw [e, putrow_mid x v hv u hu]
  rw [e] at hg
  exact go_ins x hx v hv u none hg hu rfl
theorem table_put {l : List S37} {x : S37} (hT : tableB l = true) (hx : leaseOk x = true) : tableB (putL l x) = decide ((putL l x).length ≤ 8) := by
 unfold tableB
 rw [go_put hT hx, Bool.true_and]
/-- a lease stands in a row: it is found by its host. -/
theorem find_of {ls : List S37} (hs : ls.Pairwise (fun a b => a.f0 < b.f0)) {x : S37} (hx : x ∈ ls) : findL ls x.f0 = some x := by
 cases hfd : findL ls x.f0 with
 | none => exact absurd rfl (find_none hfd x hx)
 | some y =>
  obtain ⟨hy, he⟩ := find_some hfd
  rw [host_once hs y hy x hx he]
theorem find_put {l : List S37} {x : S37} (hT : tableB l = true) (hx : leaseOk x = true) (host : Int) : findL (putL l x) host = if host = x.f0 then some x else findL l host := by
 obtain ⟨_, hs, _⟩ := table_sorted hT
 have hsp : (putL l x).Pairwise (fun a b => a.f0 < b.f0) := (goTab_sorted _ none (go_put hT hx)).2.1
 have hmem : ∀ y, y ∈ putL l x ↔ y = x ∨ y ∈ l ∧ y.f0 ≠ x.f0 := by
  intro y
  unfold putL
  by_cases hm : ∃ y ∈ l, y.f0 = x.f0
  ·rw [put_swap l x hs hm]
   unfold swapL
   rw [List.mem_map]
   constructor
   ·rintro ⟨z, hz, e⟩
    by_cases q : z.f0 = x.f0
    ·rw [if_pos q] at e; exact .inl e.symm
    ·rw [if_neg q] at e; rw [← e]; exact .inr ⟨hz, q⟩
   ·rintro (e | ⟨hy, hn⟩)
    ·obtain ⟨z, hz, hzx⟩ := hm
     exact ⟨z, hz, by rw [if_pos hzx, e]⟩
    ·exact ⟨y, hy, if_neg hn⟩
  ·have hn : ∀ y ∈ l, y.f0 ≠ x.f0 := fun y hy e => hm ⟨y, hy, e⟩
   obtain ⟨u, v, e, hu, hv⟩ := row_split x l hs hn
   rw [e, putrow_mid x v hv u hu]
   constructor
   ·intro h
    rcases List.mem_append.1 h with h | h
    ·exact .inr ⟨List.mem_append_left _ h, hn y (by rw [e]; exact List.mem_append_left _ h)⟩
    ·rcases List.mem_cons.1 h with h | h
     ·exact .inl h
     ·exact .inr ⟨List.mem_append_right _ h, hn y (by rw [e]; exact List.mem_append_right _ h)⟩
   ·rintro (h | ⟨h, _⟩)
    ·rw [h]; simp
    ·rcases List.mem_append.1 h with h | h
     ·exact List.mem_append_left _ h
     ·exact List.mem_append_right _ (List.mem_cons_of_mem _ h)
 by_cases q : host = x.f0
 ·rw [if_pos q, q]
  exact find_of hsp ((hmem x).2 (.inl rfl))
 ·rw [if_neg q]
  cases hf : findL l host with
  | some y =>
   obtain ⟨hy, he⟩ := find_some hf
   have := find_of hsp ((hmem y).2 (.inr ⟨hy, by rw [he]; exact q⟩))
   rw [he] at this
   exact this
  | none =>
   cases hf2 : findL (putL l x) host with
   | none => rfl
   | some y =>
    obtain ⟨hy, he⟩ := find_some hf2
    rcases (hmem y).1 hy with e | ⟨h, _⟩
    ·rw [e] at he; exact absurd he.symm q
    ·exact absurd he (find_none hf y h)

/-! short.inc -/
theorem cutL_sum : ∀ l : List Int, ((cutL l).map (fun p => p.length + 1)).sum = l.length + 1
 | [] => rfl
 | b :: l => by
  have ih := cutL_sum l
  by_cases hb : b = 46
  ·subst hb
   rw [cutL_point, List.map_cons, List.sum_cons, ih]
   simp only [List.length_nil, List.length_cons]
   omega
  ·rw [cutL_other _ _ hb]
   cases hc : cutL l with
   | nil => exact absurd hc (cutL_ne l)
   | cons q qs =>
    rw [hc] at ih
    simp only [glue, List.map_cons, List.sum_cons, List.length_cons, List.length_append, List.length_nil] at ih ⊢
    omega
theorem label_sum : ∀ L : List (List Int), L.all labelB = true → (L.map (fun p => p.length + 1)).sum ≤ 9 * L.length
 | [] => fun _ => Nat.zero_le _
 | p :: L => fun h => by
  rw [List.all_cons, Bool.and_eq_true] at h
  have ih := label_sum L h.2
  have h1 := h.1
  unfold labelB at h1
  rw [Bool.and_eq_true, decide_eq_true_eq] at h1
  simp only [List.map_cons, List.sum_cons, List.length_cons]
  omega
/-- a name that may be is short. -/
theorem name_short (l : List Int) (h : nameB l = true) : l.length ≤ 72 := by
 unfold nameB at h
 rw [Bool.or_eq_true, Bool.and_eq_true, decide_eq_true_eq, decide_eq_true_eq] at h
 rcases h with h | ⟨h1, h2⟩
 ·rw [h]
  exact Nat.zero_le _
 ·have := label_sum _ h1
  rw [cutL_sum] at this
  omega

/-! wraps.inc -/
theorem wrap_succ (i n : Nat) (h : i < n) (hn : n ≤ 140737488351232) : wrap64 ((i : Int) + 1) = ((i + 1 : Nat) : Int) := by
 rw [w64 (by omega)]
 omega

end Go.Proofs.Ytibmakpghbinbaa.PM
