-- Made by wip/pr.py out of the translation (a turned copy of the kit's print; contracts by hand where said).
import Derived.Test.YtibmakpghbinbaaPSx0
namespace Go.Proofs.Ytibmakpghbinbaa.PS
open Go.RowKit Go.Proofs.YtibmakpghbinbaaW.PrintWords Go.Proofs.YtibmakpghbinbaaW.PrintLast Go.Proofs.YtibmakpghbinbaaW.PrintMore
-- shrunk
attribute [local go_sem] max2_int min2_int max_two min_two max_three min_three max_four min_four   -- for this text's walks alone
set_option linter.unusedVariables false
set_option linter.unusedSimpArgs false

/-! walk.inc -/
/-- what stood there reads as before. -/
theorem kept_ {W w1 : World} (hb : Below W.heap.size W w1) (g : Nat) (hg : g < W.heap.size) : ∀ o, w1.cell? ⟨g, o, none⟩ = W.cell? ⟨g, o, none⟩ := fun o => hb.cell (p := ⟨g, o, none⟩) hg
theorem ret_bool {a b : Bool} (h : a = b) : Ending.returned (.bool a) = .returned (.bool b) := by rw [h]
theorem kept_g {W w1 : World} {row : Option Nat} {g : Nat} (hb : W.grownBy w1 row) (hg : g < W.heap.size) (hne : some g ≠ row) : ∀ o, w1.cell? ⟨g, o, none⟩ = W.cell? ⟨g, o, none⟩ := fun o => by
 unfold World.cell?
 rw [hb.block g hg hne]

/-! int.inc -/
/-- the bounds of an int. -/
theorem int_bd {a : Int} (h : (Lit.int .i64 a).wf = true) : -9223372036854775808 ≤ a ∧ a ≤ 9223372036854775807 := by
 simp only [Lit.wf, IntKind.min, IntKind.max, IntKind.signed, IntKind.bits, Bool.and_eq_true, decide_eq_true_eq, if_true] at h
 omega
theorem u64_eq (a : Int) : IntKind.u64.wrap a = a % 18446744073709551616 := by simp [IntKind.wrap, IntKind.bits, IntKind.signed]
theorem w64 {a : Int} (h : -9223372036854775808 ≤ a ∧ a ≤ 9223372036854775807) : wrap64 a = a := by unfold wrap64; omega
/-- the low bits of any int. -/
theorem and_mask (a : Int) (i : Nat) (hi : i ≤ 62) : Go.bits .and .i64 a ((2 ^ i - 1 : Nat) : Int) = a % ((2 ^ i : Nat) : Int) := by
 have hp : 0 < 2 ^ i := Nat.two_pow_pos i
 have hl : 2 ^ i ≤ 2 ^ 62 := Nat.pow_le_pow_right (by decide) hi
 show IntKind.wrap .i64 (((BitVec.ofInt 64 a &&& BitVec.ofInt 64 ((2 ^ i - 1 : Nat) : Int)).toNat : Nat) : Int) = _
 have e : (((BitVec.ofInt 64 a &&& BitVec.ofInt 64 ((2 ^ i - 1 : Nat) : Int)).toNat : Nat) : Int) = a % ((2 ^ i : Nat) : Int) := by
  rw [BitVec.toNat_and, BitVec.ofInt_natCast, BitVec.toNat_ofNat, Nat.mod_eq_of_lt (show 2 ^ i - 1 < 2 ^ 64 by omega), Nat.and_two_pow_sub_one_eq_mod, BitVec.toNat_ofInt]
  rw [Int.natCast_emod, Int.toNat_of_nonneg (Int.emod_nonneg _ (by decide))]
  exact Int.emod_emod_of_dvd a (by
   rw [Int.natCast_dvd_natCast]
   exact Nat.pow_dvd_pow 2 (by omega))
 rw [e, IntKind.wrap_i64]
 have h0 := Int.emod_nonneg a (show ((2 ^ i : Nat) : Int) ≠ 0 by omega)
 have h1 := Int.emod_lt_of_pos a (show 0 < ((2 ^ i : Nat) : Int) by omega)
 omega
theorem and_1023 (a : Int) : Go.bits .and .i64 a 1023 = a % 1024 := and_mask a 10 (by decide)
theorem and_63 (a : Int) : Go.bits .and .i64 a 63 = a % 64 := and_mask a 6 (by decide)
theorem and_255 (a : Int) : Go.bits .and .i64 a 255 = a % 256 := and_mask a 8 (by decide)
theorem and_65535 (a : Int) : Go.bits .and .i64 a 65535 = a % 65536 := and_mask a 16 (by decide)
theorem and_u32 (a : Int) : Go.bits .and .i64 a 4294967295 = a % 4294967296 := and_mask a 32 (by decide)
theorem wraps_i64 (n : Int) (h0 : 0 ≤ n) (h1 : n < 2 ^ 63) : IntKind.i64.wrap n = n := by rw [IntKind.wrap_i64]; omega
theorem or_byte (x b : Int) (hx : 0 ≤ x ∧ x < 281474976710656) (hb : 0 ≤ b ∧ b < 256) : Go.bits .or .i64 (wrap64 (x * 256)) b = x * 256 + b := by
 rw [w64 (by omega)]
 exact bits_join .i64 63 (by decide) wraps_i64 8 (x * 256) b (by omega) (by omega) (by omega) hb.1 (by omega) (by omega)

/-! name0.inc -/
theorem bt_bd (s : ByteArray) (i : Int) : 0 ≤ bt s i ∧ bt s i < 256 := by have := bt_range s i; omega
theorem toList_nil (s : ByteArray) : s.toList = ([] : List UInt8) ↔ s.size = 0 := by
 rw [ByteArray.toList_eq, ← data_length, List.length_eq_zero_iff]
theorem drop_cons (s : ByteArray) (i : Nat) (h : i < s.size) : (bytesOf s).drop i = bt s i :: (bytesOf s).drop (i + 1) := by
 have hl : i < (bytesOf s).length := by rw [bytesOf_length]; exact h
 rw [List.drop_eq_getElem_cons hl, ← rd_bytesOf]
 unfold rd
 rw [Int.toNat_natCast, List.getD_eq_getElem?_getD, List.getElem?_eq_getElem hl]
 rfl
theorem drop_end (s : ByteArray) (i : Nat) (h : s.size ≤ i) : (bytesOf s).drop i = [] := List.drop_eq_nil_of_le (by rw [bytesOf_length]; exact h)
theorem bytesOf_extract (s : ByteArray) (a b : Nat) : bytesOf (s.extract a b) = ((bytesOf s).drop a).take (b - a) := by
 unfold bytesOf
 rw [ByteArray.data_extract, Array.toList_extract, List.extract_eq_take_drop, List.map_take, List.map_drop]

/-- may a label have such a byte. -/
def letterB (b : Int) : Bool := decide ((97 ≤ b ∧ b ≤ 122) ∨ (48 ≤ b ∧ b ≤ 57) ∨ b = 45)
/-- may a label be so. -/
def labelB (l : List Int) : Bool := l.all letterB && decide (1 ≤ l.length ∧ l.length ≤ 8)
/-- a text, cut at its points. -/
def glue (p : List Int) : List (List Int) → List (List Int)
 | [] => [p]
 | q :: qs => (p ++ q) :: qs
def cutL : List Int → List (List Int)
 | [] => [[]]
 | b :: l => if b = 46 then [] :: cutL l else glue [b] (cutL l)
/-- may a name be so. -/
def nameB (l : List Int) : Bool := decide (l = []) || ((cutL l).all labelB && decide ((cutL l).length ≤ 8))

theorem cutL_ne : ∀ l, cutL l ≠ []
 | [] => by simp [cutL]
 | b :: l => by
  unfold cutL
  split
  ·simp
  ·cases cutL l <;> simp [glue]
theorem glue_nil (l : List (List Int)) (h : l ≠ []) : glue [] l = l := by
 cases l with
 | nil => exact absurd rfl h
 | cons q qs => simp [glue]
theorem glue_glue (p q : List Int) (l : List (List Int)) : glue p (glue q l) = glue (p ++ q) l := by
 cases l <;> simp [glue]
theorem cutL_point (l : List Int) : cutL (46 :: l) = [] :: cutL l := by rw [cutL, if_pos rfl]
theorem cutL_other (b : Int) (l : List Int) (h : b ≠ 46) : cutL (b :: l) = glue [b] (cutL l) := by rw [cutL, if_neg h]

theorem cut_index : ∀ L : List UInt8, (Lib.indexByte L 46 = -1 ∧ cutL (L.map fun b => (b.toNat : Int)) = [L.map fun b => (b.toNat : Int)]) ∨
  (0 ≤ Lib.indexByte L 46 ∧ Lib.indexByte L 46 < (L.length : Int) ∧ cutL (L.map fun b => (b.toNat : Int)) = (L.map fun b => (b.toNat : Int)).take (Lib.indexByte L 46).toNat :: cutL ((L.map fun b => (b.toNat : Int)).drop ((Lib.indexByte L 46).toNat + 1)))
 | [] => .inl ⟨rfl, rfl⟩
 | b :: L => by
  have ih := cut_index L
  by_cases hb : b = 46
  ·subst hb
   refine .inr ⟨by simp [Lib.indexByte], by simp [Lib.indexByte], ?_⟩
   have e : Lib.indexByte (46 :: L) 46 = 0 := by simp [Lib.indexByte]
   rw [e]
   exact cutL_point _
  ·have hb2 : ((b.toNat : Nat) : Int) ≠ 46 := by
    intro h
    apply hb
    have h2 : b.toNat = 46 := by omega
    exact UInt8.toNat_inj.1 h2
   have hne : (b == 46) = false := by simpa using hb
   rcases ih with ⟨h1, h2⟩ | ⟨h1, h2, h3⟩
   ·refine .inl ⟨by simp [Lib.indexByte, hne, h1], ?_⟩
    rw [List.map_cons, cutL_other _ _ hb2, h2]
    rfl
   ·have e : Lib.indexByte (b :: L) 46 = Lib.indexByte L 46 + 1 := by
     have h4 : (Lib.indexByte L 46 == -1) = false := by
      rw [beq_eq_false_iff_ne]
      omega
     simp [Lib.indexByte, hne, h4]
    refine .inr ⟨by omega, by rw [e, List.length_cons]; omega, ?_⟩
    rw [e, show (Lib.indexByte L 46 + 1).toNat = (Lib.indexByte L 46).toNat + 1 by omega, List.map_cons, cutL_other _ _ hb2, h3]
    rfl


/-! small.inc -/
/-- is it a number of four bytes. -/
def wordB (x : Int) : Bool := decide (0 ≤ x ∧ x ≤ 4294967295)
/-- may a client be called so. -/
def clientB (a : ByteArray) : Bool := decide (1 ≤ a.size ∧ a.size ≤ 16)

/-! lease0.inc -/
/-- may a lease's state be so. -/
def stateB (st : Int) (cl nm : ByteArray) (won : Bool) : Bool :=
 if st = 0 ∨ st = 3 then decide (nm.toList = []) && !won else if st = 1 then decide (cl.toList ≠ []) && decide (nm.toList = []) && !won else if st = 2 then decide (cl.toList ≠ []) && (decide (nm.toList ≠ []) || !won) else false
/-- may a lease be. -/
def leaseB (h st : Int) (cl : ByteArray) (un : Int) (nm : ByteArray) (won : Bool) : Bool :=
 decide (2 ≤ h ∧ h ≤ 254) && stateB st cl nm won && decide (cl.size ≤ 16) && decide (0 ≤ un ∧ un ≤ 1099511627776) && nameB (bytesOf nm)
/-- does a lease hold. -/
def liveB (h st : Int) (cl : ByteArray) (un : Int) (nm : ByteArray) (won : Bool) (now : Int) : Bool := leaseB h st cl un nm won && decide (st ≠ 0) && decide (un > now)
def holdsB (h st : Int) (cl : ByteArray) (un : Int) (nm : ByteArray) (won : Bool) (c : ByteArray) (now : Int) : Bool := liveB h st cl un nm won now && (decide (st ≠ 3) && decide (cl.toList = c.toList))
def boundB (h st : Int) (cl : ByteArray) (un : Int) (nm : ByteArray) (won : Bool) (c : ByteArray) (now : Int) : Bool := holdsB h st cl un nm won c now && decide (st = 2)

/-! region.inc -/
/-! a region that draws its order, walked in the order of its text: the first m of n operations have come up -/
def upto_ (n m : Nat) : Array Bool := (List.replicate m true ++ List.replicate (n - m) false).toArray
section
variable {P : Program} {ops : Array Oper} {Q : Exit → Act → World → Prop} {S : World → Prop}
theorem seqS {id : Nat} {a : Act} {w : World} (n : Nat) (hm : P.follows .mixedOrders = true) (hn : ops.size = n) (hl : Array.replicate n false = upto_ n 0) (hS : S w.drew)
  (h : S w.drew → wpAnyLast P .any ops Q S [] n (upto_ n (n - n)) a w.drew) : (Code.region id ops true).wp P Q a w := by
 rw [Nat.sub_self] at h
 exact start_ (upto_ n 0) hm hn hl hS h
theorem seqP {n fuel : Nat} {m : Tmp} {oi : Oper} {v : Value} {a : Act} {w : World} (hi : ops[n - (fuel + 1)]? = some oi) (hN : oi.dst = some m) (hc : anyB .any ops (upto_ n (n - (fuel + 1))) (upto_ n (n - fuel)) (n - (fuel + 1)) = true)
  (hQ : ∀ c a w, Q (.panic c) (a.put oi.dst v) w → Q (.panic c) a w) (hy : Yields P ops oi v a) {a' : Act} (ha : a.put (some m) v = a') (h : wpAnyLast P .any ops Q S [] fuel (upto_ n (n - fuel)) a' w) :
  wpAnyLast P .any ops Q S [] (fuel + 1) (upto_ n (n - (fuel + 1))) a w := pure_ (upto_ n (n - fuel)) hi hN hc hQ hy ha h
theorem seqL {n fuel : Nat} {m : Tmp} {oi : Oper} {v : Value} {a : Act} {w : World} (hi : ops[n - (fuel + 1)]? = some oi) (hN : oi.dst = some m) (hc : takeB .any ops [] (upto_ n (n - (fuel + 1))) (upto_ n (n - fuel)) (n - (fuel + 1)) = true)
  (hQ : ∀ c a w, Q (.panic c) (a.put oi.dst v) w → Q (.panic c) a w) (hy : YieldsIf P ops S oi v a) (hS : S w) {a' : Act} (ha : a.put (some m) v = a') (h : wpAnyLast P .any ops Q S [] fuel (upto_ n (n - fuel)) a' w) :
  wpAnyLast P .any ops Q S [] (fuel + 1) (upto_ n (n - (fuel + 1))) a w := take_ (upto_ n (n - fuel)) hi hN hc hQ hy hS ha h
theorem seqC {n fuel : Nat} {m : Tmp} {oi : Oper} {a : Act} {w : World} (hi : ops[n - (fuel + 1)]? = some oi) (hN : oi.dst = some m) (hc : readyB .any ops (upto_ n (n - (fuel + 1))) (upto_ n (n - fuel)) (n - (fuel + 1)) = true)
  (h : ∀ K : Act → World → Prop, Shut (∀ a' w', S w' → (S w' → wpAnyLast P .any ops Q S [] fuel (upto_ n (n - fuel)) a' w') → K a' w') → if Region.wanted oi (yielded ops a.tmps) = true then Oper.wp P oi a w K Q else K (a.put (some m) undef) w) :
  wpAnyLast P .any ops Q S [] (fuel + 1) (upto_ n (n - (fuel + 1))) a w := one_ (upto_ n (n - fuel)) hi hN hc (by simp) h
theorem seqG {n fuel : Nat} {m : Tmp} {oi : Oper} {a : Act} {w : World} {f : FuncId} {fn : Func} {as_ : Array Operand} {ts : Array TypeId} (hi : ops[n - (fuel + 1)]? = some oi) (hN : oi.dst = some m) (hc : readyB .any ops (upto_ n (n - (fuel + 1))) (upto_ n (n - fuel)) (n - (fuel + 1)) = true)
  (hop : oi.op = .call { callee := .value (.func f), args := as_, argTypes := ts }) (hf : P.funcs[f]? = some fn) (hname : (fn.name == "runtime.NumGoroutine") = false) (hb : fn.body.isSome = true) (args : Array Value) (hw : Region.wanted oi (yielded ops a.tmps) = true) (hargs : as_.map a.eval = args)
  (h : Calls P f args w fun e w' => ∃ v, e = .returned v ∧ S w' ∧ (S w' → ∃ a', a.put (some m) v = a' ∧ wpAnyLast P .any ops Q S [] fuel (upto_ n (n - fuel)) a' w')) :
  wpAnyLast P .any ops Q S [] (fuel + 1) (upto_ n (n - (fuel + 1))) a w := by
 refine seqC hi hN hc (fun K hK => goes_ hf hname hb args hw hN hop hargs (h.mono ?_))
 rintro e w' ⟨v, he, hS, hk⟩
 refine ⟨v, he, hK.out _ _ hS (fun hS2 => ?_)⟩
 obtain ⟨a', rfl, h2⟩ := hk hS2
 exact h2
theorem seqE {n : Nat} {a : Act} {w : World} (hr : (Region.ready .any ops (upto_ n (n - 0)) == []) = true) (h : Q .normal a w) : wpAnyLast P .any ops Q S [] 0 (upto_ n (n - 0)) a w := done_ hr h
end

/-! table0.inc -/
/-- does the host come behind the one ahead. -/
def above (p : Option Int) (h : Int) : Bool := match p with
 | none => true
 | some q => decide (q < h)
def leaseOk (x : S37) : Bool := leaseB x.f0 x.f1 x.f2 x.f3 x.f4 x.f5
def goTab : Option Int → List S37 → Bool
 | _, [] => true
 | p, x :: r => leaseOk x && (above p x.f0 && goTab (some x.f0) r)
/-- may leases be. -/
def tableB (l : List S37) : Bool := goTab none l && decide (l.length ≤ 8)
def tabFit (l : List S37) : Prop := l.length ≤ 140737488351232 ∧ ∀ x ∈ l, x.f4.size ≤ 140737488351232
instance (l : List S37) : Decidable (tabFit l) := by unfold tabFit; infer_instance
theorem dropLease (l0 : List S37) (i : Int) (h0 : 0 ≤ i) (h1 : i < l0.length) : l0.drop i.toNat = rd_T37 l0 i :: l0.drop (i.toNat + 1) ∧ rd_T37 l0 i ∈ l0 := by
 have h : i.toNat < l0.length := by omega
 have e : rd_T37 l0 i = l0[i.toNat] := by
  unfold rd_T37
  rw [List.getD_eq_getElem?_getD, List.getElem?_eq_getElem h]
  rfl
 rw [e, List.drop_eq_getElem_cons h]
 exact ⟨rfl, List.getElem_mem h⟩

/-! leasel.inc -/
def liveX (now : Int) (x : S37) : Bool := liveB x.f0 x.f1 x.f2 x.f3 x.f4 x.f5 now
def holdsX (c : ByteArray) (now : Int) (x : S37) : Bool := holdsB x.f0 x.f1 x.f2 x.f3 x.f4 x.f5 c now
def boundX (c : ByteArray) (now : Int) (x : S37) : Bool := boundB x.f0 x.f1 x.f2 x.f3 x.f4 x.f5 c now
/-- a host's lease. -/
def findL (l : List S37) (h : Int) : Option S37 := l.find? fun x => x.f0 == h
/-- what is told where none is. -/
def gotL (o : Option S37) : S37 := o.getD z37
def tabFitR (l : List S37) : Prop := l.length ≤ 140737488351232 ∧ ∀ x ∈ l, x.f4.size ≤ 8796093022000
instance (l : List S37) : Decidable (tabFitR l) := by unfold tabFitR; infer_instance

/-! wraps.inc -/
theorem wrap_succ (i n : Nat) (h : i < n) (hn : n ≤ 140737488351232) : wrap64 ((i : Int) + 1) = ((i + 1 : Nat) : Int) := by
 rw [w64 (by omega)]
 omega

/-! rdget.inc -/
theorem rdLease_get (l : List S37) (i : Nat) (h : i < l.length) : rd_T37 l (i : Int) = l[i] := by
 unfold rd_T37
 rw [Int.toNat_natCast, List.getD_eq_getElem?_getD, List.getElem?_eq_getElem h]
 rfl

/-! ofl.inc -/
/-- the first Live one that is offered or bound to a client. -/
def ofL (ls : List S37) (client : ByteArray) (now : Int) : Option S37 := if tableB ls = true then ls.find? (holdsX client now) else none

/-! strof.inc -/
theorem toNat_u8 (x : Int) (h : 0 ≤ x ∧ x < 256) : ((UInt8.ofNat x.toNat).toNat : Int) = x := by
 rw [UInt8.toNat_ofNat']
 omega
theorem bytesOf_strOf : ∀ l : List Int, (∀ x ∈ l, 0 ≤ x ∧ x < 256) → bytesOf (strOfNums l) = l := by
 intro l h
 unfold bytesOf strOfNums
 simp only [List.map_map]
 induction l with
 | nil => rfl
 | cons x l ih =>
  rw [List.map_cons, ih (fun y hy => h y (List.mem_cons_of_mem _ hy))]
  congr 1
  exact toNat_u8 x (h x (List.mem_cons_self ..))
theorem bytesOf_append (s t : ByteArray) : bytesOf (s ++ t) = bytesOf s ++ bytesOf t := by
 unfold bytesOf
 rw [ByteArray.data_append, Array.toList_append, List.map_append]
theorem bytes_range (s : ByteArray) : ∀ x ∈ bytesOf s, 0 ≤ x ∧ x < 256 := by
 intro x hx
 unfold bytesOf at hx
 obtain ⟨b, _, rfl⟩ := List.mem_map.1 hx
 have := b.toNat_lt
 omega

/-! under0.inc -/
theorem map_u8_inj : ∀ l l' : List UInt8, l.map (fun b => (b.toNat : Int)) = l'.map (fun b => (b.toNat : Int)) → l = l'
 | [], [], _ => rfl
 | [], _ :: _, h => by simp at h
 | _ :: _, [], h => by simp at h
 | a :: l, b :: l', h => by
  rw [List.map_cons, List.map_cons, List.cons.injEq] at h
  have h1 : a.toNat = b.toNat := by omega
  rw [UInt8.toNat_inj.1 h1, map_u8_inj l l' h.2]
theorem toList_iff (s t : ByteArray) : s.toList = t.toList ↔ bytesOf s = bytesOf t := by
 rw [ByteArray.toList_eq, ByteArray.toList_eq]
 constructor
 ·intro h
  unfold bytesOf
  rw [h]
 ·exact map_u8_inj _ _
theorem bytesOf_inj (s t : ByteArray) (h : bytesOf s = bytesOf t) : s = t := by
 have h1 := (toList_iff s t).2 h
 rw [ByteArray.toList_eq, ByteArray.toList_eq] at h1
 have e : ∀ x : ByteArray, x = ⟨x.data⟩ := fun _ => rfl
 rw [e s, e t, Array.toList_inj.1 h1]
/-- does a name end as a zone is called. -/
def isU (s z : List Int) : Prop := z = [] ∨ s = z ∨ (46 :: z) <:+ s
instance (s z : List Int) : Decidable (isU s z) := by unfold isU; infer_instance
def underB (s z : List Int) : Bool := nameB s && nameB z && decide (isU s z)

/-! labels0.inc -/
/-- a name's labels. -/
def labelsS (s : ByteArray) : List ByteArray := if (nameB (bytesOf s) && decide (s.size ≠ 0)) = true then (cutL (bytesOf s)).map strOfNums else []
theorem strOf_bytes (s : ByteArray) : strOfNums (bytesOf s) = s := bytesOf_inj _ _ (bytesOf_strOf _ (bytes_range s))
theorem of_map_bytes (r : List ByteArray) (L : List (List Int)) (h : r.map bytesOf = L) : r = L.map strOfNums := by
 subst h
 rw [List.map_map]
 symm
 exact (List.map_congr_left (fun x _ => strOf_bytes x)).trans (List.map_id' r)
theorem labels_len (s : ByteArray) : (labelsS s).length = if (nameB (bytesOf s) && decide (s.size ≠ 0)) = true then (cutL (bytesOf s)).length else 0 := by
 unfold labelsS
 split
 ·rw [List.length_map]
 ·rfl

/-! rr.inc -/
/-- may a record be. -/
def rrB (name : ByteArray) (kind ttl addr : Int) (target text : ByteArray) (serial : Int) : Bool :=
 nameB (bytesOf name) && decide (0 ≤ ttl ∧ ttl ≤ 1048576) &&
 (if kind = 1 then wordB addr && decide (target.toList = [] ∧ text.toList = [] ∧ serial = 0)
  else decide (addr = 0) &&
  (if kind = 2 ∨ kind = 5 ∨ kind = 12 then nameB (bytesOf target) && decide (text.toList = [] ∧ serial = 0)
   else if kind = 6 then nameB (bytesOf target) && (decide (text.toList = []) && wordB serial)
   else if kind = 16 ∨ kind = 49 then decide (target.toList = [] ∧ text.size ≤ 64 ∧ serial = 0) else false))

/-! static.inc -/
/-- may a standing record be so. -/
def staticB (z : ByteArray) (x : S139) : Bool := decide (x.f1 = 1 ∨ x.f1 = 5 ∨ x.f1 = 16) && (rrB x.f0 x.f1 x.f2 x.f3 x.f4 x.f5 x.f6 && (underB (bytesOf x.f0) (bytesOf z) && decide (x.f0.toList ≠ z.toList)))
def staticsB (z : ByteArray) (l : List S139) : Bool := l.all (staticB z) && decide (l.length ≤ 8)

/-! conf.inc -/
/-- each of them in its bounds, none twice, so many at most. -/
def hostsB (a b : Int) (l : List Int) (n : Int) : Bool := l.all (fun h => decide (a ≤ h ∧ h ≤ b)) && (decide l.Nodup && decide ((l.length : Int) ≤ n))
def goHosts (a b : Int) : List Int → List Int → Bool
 | _, [] => true
 | cs, x :: r => if a ≤ x ∧ x ≤ b ∧ x ∉ cs then goHosts a b (cs ++ [x]) r else false
theorem goHosts_eq (a b : Int) : ∀ l cs : List Int, goHosts a b cs l = (l.all (fun h => decide (a ≤ h ∧ h ≤ b)) && decide (l.Nodup ∧ ∀ x ∈ l, x ∉ cs))
 | [], cs => by simp [goHosts]
 | x :: l, cs => by
  unfold goHosts
  by_cases h : a ≤ x ∧ x ≤ b ∧ x ∉ cs
  ·rw [if_pos h, goHosts_eq a b l, Bool.eq_iff_iff]
   simp only [List.all_cons, Bool.and_eq_true, decide_eq_true_eq, List.nodup_cons, List.mem_append, List.mem_cons, List.mem_singleton]
   constructor
   ·rintro ⟨h1, h2, h3⟩
    refine ⟨⟨⟨h.1, h.2.1⟩, h1⟩, ⟨fun e => h3 x e (.inr (.inl rfl)), h2⟩, ?_⟩
    rintro y (rfl | hy)
    ·exact h.2.2
    ·exact fun e => h3 y hy (.inl e)
   ·rintro ⟨⟨_, h1⟩, ⟨h2, h3⟩, h4⟩
    refine ⟨h1, h3, fun y hy => ?_⟩
    rintro (e | e | e)
    ·exact h4 y (.inr hy) e
    ·exact h2 (e ▸ hy)
    ·simp at e
  ·rw [if_neg h]
   symm
   rw [Bool.eq_false_iff]
   intro e
   simp only [List.all_cons, Bool.and_eq_true, decide_eq_true_eq, List.mem_cons] at e
   exact h ⟨e.1.1.1, e.1.1.2, e.2.2 x (.inl rfl)⟩
theorem goHosts_nil (a b : Int) (l : List Int) (n : Int) : (goHosts a b [] l && decide ((l.length : Int) ≤ n)) = hostsB a b l n := by
 rw [goHosts_eq]
 unfold hostsB
 rw [Bool.and_assoc]
 congr 2
 simp
def goRes (cs : List (List UInt8)) : List S118 → Bool
 | [] => true
 | x :: r => if clientB x.f0 = true ∧ x.f0.data.toList ∉ cs then goRes (cs ++ [x.f0.data.toList]) r else false
def reservedB (a b : Int) (l : List S118) : Bool := l.all (fun x => clientB x.f0) && (decide (l.map fun x => x.f0.data.toList).Nodup && hostsB a b (l.map fun x => x.f1) 4)
theorem goRes_eq : ∀ (l : List S118) (cs : List (List UInt8)), goRes cs l = (l.all (fun x => clientB x.f0) && decide ((l.map fun x => x.f0.data.toList).Nodup ∧ ∀ x ∈ l, x.f0.data.toList ∉ cs))
 | [], cs => by simp [goRes]
 | x :: l, cs => by
  unfold goRes
  by_cases h : clientB x.f0 = true ∧ x.f0.data.toList ∉ cs
  ·rw [if_pos h, goRes_eq l, Bool.eq_iff_iff]
   simp only [List.all_cons, Bool.and_eq_true, decide_eq_true_eq, List.map_cons, List.nodup_cons, List.mem_append, List.mem_cons, List.mem_singleton, List.mem_map]
   constructor
   ·rintro ⟨h1, h2, h3⟩
    refine ⟨⟨h.1, h1⟩, ⟨?_, h2⟩, ?_⟩
    ·rintro ⟨y, hy, e⟩
     exact h3 y hy (.inr (.inl e))
    ·rintro y (rfl | hy)
     ·exact h.2
     ·exact fun e => h3 y hy (.inl e)
   ·rintro ⟨⟨_, h1⟩, ⟨h2, h3⟩, h4⟩
    refine ⟨h1, h3, fun y hy => ?_⟩
    rintro (e | e | e)
    ·exact h4 y (.inr hy) e
    ·exact h2 ⟨y, hy, e⟩
    ·simp at e
  ·rw [if_neg h]
   symm
   rw [Bool.eq_false_iff]
   intro e
   simp only [List.all_cons, Bool.and_eq_true, decide_eq_true_eq, List.mem_cons] at e
   exact h ⟨e.1.1, e.2.2 x (.inl rfl)⟩
theorem goRes_nil (a b : Int) (l : List S118) : (goRes [] l && hostsB a b (l.map fun x => x.f1) 4) = reservedB a b l := by
 rw [goRes_eq]
 unfold reservedB
 rw [Bool.and_assoc]
 congr 2
 simp

/-! confb.inc -/
/-- may a configuration be. -/
def confB (a0 a1 : Int) (l2 : List Int) (l3 : List S118) (a4 : Int) (z : ByteArray) (l6 : List S139) : Bool :=
 decide (2 ≤ a0 ∧ a0 ≤ a1 ∧ a1 ≤ 254 ∧ a1 - a0 < 8) && (decide (z.toList ≠ []) && (nameB (bytesOf z) && decide ((labelsS z).length ≤ 4))) && (decide (1 ≤ a4 ∧ a4 ≤ 1048576) && (hostsB a0 a1 l2 8 && (reservedB a0 a1 l3 && staticsB z l6)))
/-- how long the parts of a configuration may be, that the walks reach. -/
def confFit (l2 : List Int) (l3 : List S118) (z : ByteArray) (l6 : List S139) : Prop := l2.length ≤ 140737488351232 ∧ l3.length ≤ 5864062014805 ∧ z.size ≤ 140737488351232 ∧ l6.length ≤ 140737488351232 ∧ ∀ x ∈ l6, x.f0.size ≤ 140737488351232 ∧ x.f4.size ≤ 140737488351232
instance (l2 : List Int) (l3 : List S118) (z : ByteArray) (l6 : List S139) : Decidable (confFit l2 l3 z l6) := by unfold confFit; infer_instance

/-! confr.inc -/
/-- how long the parts of a configuration may be, that the document's own answer reaches. -/
def confFitR (l2 : List Int) (l3 : List S118) (z : ByteArray) (l6 : List S139) : Prop := l2.length ≤ 140737488351232 ∧ l3.length ≤ 5864062014805 ∧ z.size ≤ 8796093022000 ∧ l6.length ≤ 140737488351232 ∧ ∀ x ∈ l6, x.f0.size ≤ 8796093022000 ∧ x.f4.size ≤ 8796093022000
instance (l2 : List Int) (l3 : List S118) (z : ByteArray) (l6 : List S139) : Decidable (confFitR l2 l3 z l6) := by unfold confFitR; infer_instance
theorem rd_take_succ (l : List Int) (i : Nat) (h : i < l.length) : l.take (i + 1) = l.take i ++ [rd l (i : Int)] := by
 rw [List.take_succ_eq_append_getElem h]
 unfold rd
 rw [Int.toNat_natCast, List.getD_eq_getElem?_getD, List.getElem?_eq_getElem h]
 rfl
theorem mem_take_rd (l : List Int) (i : Nat) (x : Int) (hx : x ∈ l.take i) : ∃ j : Nat, j < i ∧ j < l.length ∧ rd l (j : Int) = x := by
 obtain ⟨j, hj, e⟩ := List.getElem_of_mem hx
 rw [List.length_take] at hj
 rw [List.getElem_take] at e
 refine ⟨j, by omega, by omega, ?_⟩
 unfold rd
 rw [Int.toNat_natCast, List.getD_eq_getElem?_getD, List.getElem?_eq_getElem (by omega)]
 exact e
theorem nodup_snoc {α : Type} (l : List α) (x : α) (h : l.Nodup) (hx : x ∉ l) : (l ++ [x]).Nodup := by
 unfold List.Nodup at h ⊢
 rw [List.pairwise_append]
 refine ⟨h, List.pairwise_singleton _ _, fun a ha b hb => ?_⟩
 rw [List.mem_singleton] at hb
 subst hb
 exact fun e => hx (e ▸ ha)
theorem not_nodup {α : Type} (l : List α) (i j : Nat) (h : j < i) (hi : i < l.length) (e : l[j] = l[i]) : ¬ l.Nodup := fun hn => by
 unfold List.Nodup at hn
 rw [List.pairwise_iff_getElem] at hn
 exact hn j i (by omega) hi h e

/-! asked0.inc -/
/-- may these be asked about. -/
def askedB (a0_0 : Int) (a0_1 : Int) (l0_2 : List Int) (l0_3 : List S118) (a0_4 : Int) (a0_5 : ByteArray) (l0_6 : List S139) (l1 : List S37) (a2 : Int) (a3 : ByteArray) (a4 : Int) : Bool := confB a0_0 a0_1 l0_2 l0_3 a0_4 a0_5 l0_6 && (tableB l1 && (decide (0 ≤ a2 ∧ a2 ≤ a4) && clientB a3))

/-! find.inc -/
/-- the first of a row that is so, if it may be asked. -/
def findS (p : S118 → Bool) (b : Bool) (l : List S118) : Option S118 := if b = true then l.find? p else none
def foundN : Option S118 → ByteArray
 | some x => x.f0
 | none => ⟨#[]⟩
def foundH : Option S118 → Int
 | some x => x.f1
 | none => 0
def foundIs : Option S118 → Bool
 | some _ => true
 | none => false

/-! owner.inc -/
def ownerR (a0 a1 : Int) (l2 : List Int) (l3 : List S118) (a4 : Int) (z : ByteArray) (l6 : List S139) (host : Int) : Option S118 := findS (fun x => x.f1 == host) (confB a0 a1 l2 l3 a4 z l6) l3
def reservR (a0 a1 : Int) (l2 : List Int) (l3 : List S118) (a4 : Int) (z : ByteArray) (l6 : List S139) (client : ByteArray) : Option S118 := findS (fun x => x.f0.toList == client.toList) (confB a0 a1 l2 l3 a4 z l6) l3
def usableB (a0 a1 : Int) (l2 : List Int) (l3 : List S118) (a4 : Int) (z : ByteArray) (l6 : List S139) (host : Int) : Bool := decide (host ∉ l2) && (confB a0 a1 l2 l3 a4 z l6 && decide (a0 ≤ host ∧ host ≤ a1))

/-! lent0.inc -/
/-- may a host be lent out to a client. -/
def lentB (a0 a1 : Int) (l2 : List Int) (l3 : List S118) (a4 : Int) (z : ByteArray) (l6 : List S139) (host : Int) (client : ByteArray) : Bool := usableB a0 a1 l2 l3 a4 z l6 host && (!foundIs (ownerR a0 a1 l2 l3 a4 z l6 host) || decide ((foundN (ownerR a0 a1 l2 l3 a4 z l6 host)).toList = client.toList))
/-- does nobody else hold it. -/
def freeX (client : ByteArray) (now : Int) : Option S37 → Bool
 | none => true
 | some x => !liveX now x || holdsX client now x
/-- may a host be had. -/
def openB (a0 a1 : Int) (l2 : List Int) (l3 : List S118) (a4 : Int) (z : ByteArray) (l6 : List S139) (ls : List S37) (now : Int) (client : ByteArray) (host : Int) : Bool := lentB a0 a1 l2 l3 a4 z l6 host client && freeX client now (findL ls host)

/-! drops.inc -/
theorem dropIn_ (l : List Int) (i : Int) (h0 : 0 ≤ i) (h1 : i < l.length) : l.drop i.toNat = rd l i :: l.drop (i.toNat + 1) := by
 have h : i.toNat < l.length := by omega
 have e : rd l i = l[i.toNat] := by
  unfold rd
  rw [List.getD_eq_getElem?_getD, List.getElem?_eq_getElem h]
  rfl
 rw [e, List.drop_eq_getElem_cons h]
theorem dropRs_ (l : List S118) (i : Int) (h0 : 0 ≤ i) (h1 : i < l.length) : l.drop i.toNat = rd_T118 l i :: l.drop (i.toNat + 1) := by
 have h : i.toNat < l.length := by omega
 have e : rd_T118 l i = l[i.toNat] := by
  unfold rd_T118
  rw [List.getD_eq_getElem?_getD, List.getElem?_eq_getElem h]
  rfl
 rw [e, List.drop_eq_getElem_cons h]

/-! pickmay0.inc -/
def pickFit (l2 : List Int) (l3 : List S118) (z : ByteArray) (l6 : List S139) (ls : List S37) : Prop := confFit l2 l3 z l6 ∧ tabFit ls
instance (l2 : List Int) (l3 : List S118) (z : ByteArray) (l6 : List S139) (ls : List S37) : Decidable (pickFit l2 l3 z l6 ls) := by unfold pickFit; infer_instance
/-- may it be asked for a client. -/
def pickMayB (a0_0 : Int) (a0_1 : Int) (l0_2 : List Int) (l0_3 : List S118) (a0_4 : Int) (a0_5 : ByteArray) (l0_6 : List S139) (l1 : List S37) (a2 : Int) (a3 : ByteArray) : Bool := confB a0_0 a0_1 l0_2 l0_3 a0_4 a0_5 l0_6 && (tableB l1 && (decide (0 ≤ a2 ∧ a2 ≤ 1099511627776) && clientB a3))

/-! pick0.inc -/
def hostsL (a b : Int) : List Int := (List.range (b + 1 - a).toNat).map fun (i : Nat) => a + (i : Int)
/-- the first host that is so; 0: none is. -/
def firstH (q : Option S37 → Bool) (ls : List S37) (hs : List Int) : Int := (hs.find? fun h => q (findL ls h)).getD 0
def eldGo (ls : List S37) : Int → Int → List Int → Int
 | best, _, [] => best
 | best, til, h :: r => if best = 0 ∨ (gotL (findL ls h)).f3 < til then eldGo ls h (gotL (findL ls h)).f3 r else eldGo ls best til r
def hadQ (client : ByteArray) (now : Int) : Option S37 → Bool
 | none => false
 | some x => decide (x.f2.toList = client.toList) && !liveX now x
/-- which host a client should have. -/
def pickV (a0 a1 : Int) (l2 : List Int) (l3 : List S118) (a4 : Int) (z : ByteArray) (l6 : List S139) (ls : List S37) (now : Int) (client : ByteArray) (wanted : Int) : Int × Int :=
 match [(gotL (ofL ls client now)).f0, foundH (reservR a0 a1 l2 l3 a4 z l6 client), wanted].find? (openB a0 a1 l2 l3 a4 z l6 ls now client) with
 | some h => (h, 0)
 | none => match [firstH (hadQ client now) ls ((hostsL a0 a1).filter (openB a0 a1 l2 l3 a4 z l6 ls now client)), firstH Option.isNone ls ((hostsL a0 a1).filter (openB a0 a1 l2 l3 a4 z l6 ls now client)), eldGo ls 0 0 ((hostsL a0 a1).filter (openB a0 a1 l2 l3 a4 z l6 ls now client))].find? (fun h => decide (h > 0)) with
  | some h => (h, 0)
  | none => (0, 1401)

/-! refpick0.inc -/
/-- what the document does with the hosts that are open, one by one. -/
def refGo (ls : List S37) : Int → Int → List Int → Int × Int
 | best, _, [] => if best = 0 then (0, 1401) else (best, 0)
 | best, til, h :: r => match findL ls h with
  | none => (h, 0)
  | some x => if best = 0 ∨ x.f3 < til then refGo ls h x.f3 r else refGo ls best til r
def hostsFrom (h : Int) : Nat → List Int
 | 0 => []
 | d + 1 => h :: hostsFrom (h + 1) d
def hadP (q : Int → Bool) (now : Int) (c : ByteArray) (x : S37) : Bool := (!liveX now x && decide (x.f2.toList = c.toList)) && q x.f0
def hadC (a0 a1 : Int) (l2 : List Int) (l3 : List S118) (a4 : Int) (z : ByteArray) (l6 : List S139) (ls : List S37) (now : Int) (c : ByteArray) (x : S37) : Bool := (!liveX now x && decide (x.f2.toList = c.toList)) && openB a0 a1 l2 l3 a4 z l6 ls now c x.f0
/-- the first of one's own leases that ran out and is open; else the hosts one by one. -/
def endP (q : Int → Bool) (a0 a1 : Int) (ls : List S37) : Option S37 → Int × Int
 | some x => (x.f0, 0)
 | none => refGo ls 0 0 ((hostsFrom a0 (a1 + 1 - a0).toNat).filter q)
def refEnd (a0 a1 : Int) (l2 : List Int) (l3 : List S118) (a4 : Int) (z : ByteArray) (l6 : List S139) (ls : List S37) (now : Int) (c : ByteArray) (o : Option S37) : Int × Int := endP (openB a0 a1 l2 l3 a4 z l6 ls now c) a0 a1 ls o
def refPickP (a0 a1 : Int) (l2 : List Int) (l3 : List S118) (a4 : Int) (z : ByteArray) (l6 : List S139) (ls : List S37) (now : Int) (c : ByteArray) (wanted : Int) : Int × Int :=
 if ((ofL ls c now).isSome && openB a0 a1 l2 l3 a4 z l6 ls now c (gotL (ofL ls c now)).f0) = true then ((gotL (ofL ls c now)).f0, 0)
 else if (foundIs (reservR a0 a1 l2 l3 a4 z l6 c) && openB a0 a1 l2 l3 a4 z l6 ls now c (foundH (reservR a0 a1 l2 l3 a4 z l6 c))) = true then (foundH (reservR a0 a1 l2 l3 a4 z l6 c), 0)
 else if openB a0 a1 l2 l3 a4 z l6 ls now c wanted = true then (wanted, 0)
 else refEnd a0 a1 l2 l3 a4 z l6 ls now c (ls.find? (hadC a0 a1 l2 l3 a4 z l6 ls now c))

end Go.Proofs.Ytibmakpghbinbaa.PS
