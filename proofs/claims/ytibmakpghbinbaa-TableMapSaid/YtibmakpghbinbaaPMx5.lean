-- Made by wip/pr.py out of the translation (a turned copy of the kit's print; contracts by hand where said).
import Derived.Test.YtibmakpghbinbaaPMx0
import Derived.Test.YtibmakpghbinbaaPMx2
import Derived.Test.YtibmakpghbinbaaPMx4
namespace Go.Proofs.Ytibmakpghbinbaa.PM
open Go.RowKit Go.Proofs.YtibmakpghbinbaaW.PrintWords Go.Proofs.YtibmakpghbinbaaW.PrintLast Go.Proofs.YtibmakpghbinbaaW.PrintMore
-- shrunk
attribute [local go_sem] max2_int min2_int max_two min_two max_three min_three max_four min_four   -- for this text's walks alone
set_option linter.unusedVariables false
set_option linter.unusedSimpArgs false

/-! ### table_With: function 18 -/
-- BY HAND
-- 25 51
instance table_With.inh : Inhabited S37 := ⟨z37⟩
def table_With.enc (x : S37) : List Value := [.int .i64 x.f0, .int .i64 x.f1, .string x.f2, .int .i64 x.f3, .string x.f4, .bool x.f5]
def table_With.cf (x y : S37) : Int := wrap64 (x.f0 - y.f0)
def table_With.ren : Go.Shelf.Ren := ⟨fun i => if i = 20 then 93 else 0, fun i => if i = 3 then 3 else if i = 4 then 4 else if i = 22 then 27 else if i = 24 then 37 else if i = 25 then 85 else 0, fun i => i⟩
theorem table_With.lays : SlLaysF0.n20 Try.prog table_With.ren where
 mixed := by kernel_rfl
 f20 := ⟨"slices.insertionSortCmpFunc[pinfold/api.Lease]", by decide, by kernel_rfl⟩
 t0 := by kernel_rfl
 a0 := fun w => by kernel_rfl
 z0 := fun w => by kernel_rfl
 v0 := fun w => by kernel_rfl
 t3 := by kernel_rfl
 a3 := fun w => by kernel_rfl
 z3 := fun w => by kernel_rfl
 v3 := fun w => by kernel_rfl
 t4 := by kernel_rfl
 a4 := fun w => by kernel_rfl
 z4 := fun w => by kernel_rfl
 v4 := fun w => by kernel_rfl
 t22 := by kernel_rfl
 a22 := fun w => by kernel_rfl
 z22 := fun w => by kernel_rfl
 v22 := fun w => by kernel_rfl
 t25 := by kernel_rfl
 a25 := fun w => by kernel_rfl
 z25 := fun w => by kernel_rfl
 v25 := fun w => by kernel_rfl
set_option maxHeartbeats 8000000 in
set_option maxRecDepth 100000 in
theorem table_With.cmp (x y : S37) (W : World) :
  Calls Try.prog 53 #[.agg #[.int .i64 x.f0, .int .i64 x.f1, .string x.f2, .int .i64 x.f3, .string x.f4, .bool x.f5], .agg #[.int .i64 y.f0, .int .i64 y.f1, .string y.f2, .int .i64 y.f3, .string y.f4, .bool y.f5]] W fun e w' => e = .returned (.int .i64 (table_With.cf x y)) ∧ ∃ q os', w' = Go.Sort.grow (W.drewN q) os' := by
 go_enter Try.func53, Try.ntmps53
 go_wp2
 go_ret
 refine ⟨rfl, 0, #[.cells #[.int .i64 x.f0, .int .i64 x.f1, .string x.f2, .int .i64 x.f3, .string x.f4, .bool x.f5] 37, .cells #[.int .i64 y.f0, .int .i64 y.f1, .string y.f2, .int .i64 y.f3, .string y.f4, .bool y.f5] 37], ?_⟩
 rfl
/-- a row's cells. -/
def table_With.Cells (cur : Array Value) (xs : List S37) : Prop := ∀ t, t < xs.length * 6 → cur[t]? = some ((table_With.enc (xs.toArray[t / 6]!))[t % 6]!)
theorem table_With.get (xs : List S37) (j : Nat) (h : j < xs.length) : xs.toArray[j]! = xs[j] := by
 simp [h]
theorem table_With.cells_of {w : World} {base n cap g : Nat} {ok : Nat → Prop} {xs : List S37} (h : Kd.R k37 37 w base ok (.slice (some ⟨g, 0, none⟩) n cap) xs) :
  ∃ cur, w.heap[g]? = some (.cells cur 37 (0, 0)) ∧ n = xs.length ∧ n ≤ cap ∧ cap ≤ maxLen ∧ cur.size = cap * 6 ∧ base ≤ g ∧ ok g ∧ table_With.Cells cur xs := by
 obtain ⟨h0, inner, ⟨hil, hv⟩, hr⟩ := h
 rcases hv with ⟨hv, _⟩ | ⟨g', cap', cur, hv, hb, hc, hn, hm, hs, ht⟩
 ·cases hv
 ·have hn2 : n = xs.length := by cases hv; rfl
  obtain rfl : cap = cap' := by cases hv; rfl
  obtain rfl : g = g' := by cases hv; rfl
  refine ⟨cur, hc, hn2, by omega, hm, hs, hb, h0 g (by simp [Value.ownBlock]), fun t ht2 => ?_⟩
  have hj : t / 6 < xs.length := by omega
  have h1 := k37_openM (hr.2 (t / 6) _ (List.getElem?_eq_getElem hj))
  have h2 : inner[t]? = (table_With.enc xs[t / 6])[t % 6]? := by
   have h1' : ((List.drop (t / 6 * 6) inner).take 6)[t % 6]? = (table_With.enc xs[t / 6])[t % 6]? := congrArg (fun l : List Value => l[t % 6]?) h1
   rw [← h1']
   rw [List.getElem?_take_of_lt (by omega), List.getElem?_drop, show t / 6 * 6 + t % 6 = t by omega]
  have h3 : cur[t]? = inner[t]? := by
   have ht' : cur.toList.take (xs.length * 6) = inner := ht
   rw [← ht', List.getElem?_take_of_lt ht2, Array.getElem?_toList]
  have h4 : t % 6 < (table_With.enc xs[t / 6]).length := by show t % 6 < 6; omega
  rw [h3, h2, table_With.get xs _ hj, List.getElem?_eq_getElem h4, getElem!_pos (table_With.enc xs[t / 6]) (t % 6) h4]
theorem table_With.of_cells {w : World} {base n cap g : Nat} {ok : Nat → Prop} {xs : List S37} {cur : Array Value} (hc : w.heap[g]? = some (.cells cur 37 (0, 0))) (hn : n = xs.length) (hcap : n ≤ cap) (hm : cap ≤ maxLen) (hs : cur.size = cap * 6) (hb : base ≤ g) (ho : ok g) (hx : table_With.Cells cur xs) :
  Kd.R k37 37 w base ok (.slice (some ⟨g, 0, none⟩) n cap) xs := by
 subst hn
 have hl : (cur.toList.take (xs.length * 6)).length = xs.length * 6 := by
  have hz : cur.toList.length = cap * 6 := by simpa using hs
  rw [List.length_take, hz]
  exact Nat.min_eq_left (Nat.mul_le_mul_right _ hcap)
 refine ⟨fun k hk => ?_, cur.toList.take (xs.length * 6), ⟨hl, .inr ⟨g, cap, cur, rfl, hb, hc, hcap, hm, hs, rfl⟩⟩, hl, fun j p hp => ?_⟩
 ·simp only [Value.ownBlock, Option.some.injEq] at hk
  rw [← hk]
  exact ho
 ·obtain ⟨hj, rfl⟩ := List.getElem?_eq_some_iff.1 hp
  have e : ((cur.toList.take (xs.length * 6)).drop (j * 6)).take 6 = table_With.enc xs[j] := by
   apply List.ext_getElem?
   intro r
   by_cases hr : r < 6
   ·have h1 := hx (j * 6 + r) (by omega)
    rw [show (j * 6 + r) / 6 = j by omega, show (j * 6 + r) % 6 = r by omega, table_With.get xs j hj] at h1
    have h4 : r < (table_With.enc xs[j]).length := hr
    rw [getElem!_pos (table_With.enc xs[j]) r h4] at h1
    rw [List.getElem?_take_of_lt hr, List.getElem?_drop, List.getElem?_take_of_lt (by omega), Array.getElem?_toList, h1, List.getElem?_eq_getElem h4]
   ·rw [List.getElem?_eq_none (by rw [List.length_take]; omega), List.getElem?_eq_none (by show 6 ≤ r; omega)]
  show (k37).M _ _ _ _ (((cur.toList.take (xs.length * 6)).drop (j * 6)).take 6)
  rw [e]
  exact k37_mkM _ _ _ _
/-- the rounds of an insertion sort. -/
def table_With.outer (lt : S37 → S37 → Bool) : Nat → Nat → Array S37 → Array S37
 | 0, _, d => d
 | m + 1, i, d => table_With.outer lt m (i + 1) (Go.Sort.insInner lt 0 i d)
theorem table_With.outer_eq (lt : S37 → S37 → Bool) (m : Nat) : ∀ (i b : Nat) (d : Array S37), i + m = b → Go.Sort.insOuter lt 0 b i d = table_With.outer lt m i d := by
 induction m with
 | zero =>
  intro i b d h
  rw [Go.Sort.insOuter, if_neg (by omega)]
  rfl
 | succ m ih =>
  intro i b d h
  rw [Go.Sort.insOuter, if_pos (by omega)]
  exact ih (i + 1) b _ (by omega)
theorem table_With.size_inner (lt : S37 → S37 → Bool) : ∀ (j : Nat) (d : Array S37), (Go.Sort.insInner lt 0 j d).size = d.size
 | 0, d => rfl
 | j + 1, d => by
  unfold Go.Sort.insInner
  split
  ·rw [table_With.size_inner lt j, Go.Sort.size_swp]
  ·rfl
theorem table_With.size_outer (lt : S37 → S37 → Bool) : ∀ (m i : Nat) (d : Array S37), (table_With.outer lt m i d).size = d.size
 | 0, _, d => rfl
 | m + 1, i, d => by rw [table_With.outer, table_With.size_outer lt m, table_With.size_inner]
def table_With.srt (xs : List S37) : List S37 := (table_With.outer (ltOf table_With.cf) (xs.length - 1) 1 xs.toArray).toList
theorem table_With.srt_length (xs : List S37) : (table_With.srt xs).length = xs.length := by
 unfold table_With.srt
 rw [Array.length_toList, table_With.size_outer]
 rfl
/-- what a sort leaves. -/
def table_With.Done (W : World) (g cap : Nat) (xs : List S37) (w' : World) : Prop := ∃ cur', w'.heap[g]? = some (.cells cur' 37 (0, 0)) ∧ cur'.size = cap * 6 ∧ table_With.Cells cur' xs ∧ W.grownBy w' (some g)
theorem table_With.done {W : World} {g cap m : Nat} {cur : Array Value} {dk : Array S37} {os : Array Obj} (hc : W.heap[g]? = some (.cells cur 37 (0, 0))) (hcap : dk.size ≤ cap) (hs : cur.size = cap * 6) :
  table_With.Done W g cap dk.toList (sortWorldK table_With.enc 6 W g 0 m dk os) := by
 have hlt : g < W.heap.size := (Array.getElem?_eq_some_iff.1 hc).1
 have hb : (sortWorldK table_With.enc 6 W g 0 m dk os).heap = (W.heap.modify g (Go.Sort.onCells (Go.Sort.putCells id 0 (Go.Sort.flatK table_With.enc 6 dk)))) ++ os := rfl
 refine ⟨Go.Sort.putCells id 0 (Go.Sort.flatK table_With.enc 6 dk) cur, ?_, ?_, fun t ht => ?_, ⟨rfl, rfl, rfl, ?_, fun k hk hne => ?_⟩⟩
 ·rw [hb, Array.getElem?_append_left (by simpa using hlt), Array.getElem?_modify, if_pos rfl, hc]
  rfl
 ·unfold Go.Sort.putCells
  simpa using hs
 ·have htl : t < dk.size * 6 := by simpa using ht
  have hcur : t < cur.size := by omega
  unfold Go.Sort.putCells
  rw [Array.getElem?_mapIdx, Array.getElem?_eq_getElem hcur]
  simp only [Option.map_some, Go.Sort.size_flatK, Nat.zero_add, Nat.zero_le, true_and, Nat.sub_zero, id_eq]
  rw [if_pos htl, Go.Sort.get_flatK _ _ _ _ htl]
 ·rw [hb]
  simp
 ·have hkg : g ≠ k := fun e => hne (by rw [e])
  rw [hb, Array.getElem?_append_left (by simpa using hk), Array.getElem?_modify, if_neg hkg]
structure table_With.LW (P : Program) : Prop where
 mixed : P.follows .mixedOrders = true
 fs : P.funcs[(113 : Nat)]? = some Try.f113
 fr : P.funcs[(105 : Nat)]? = some Try.f105
 fm : P.funcs[(94 : Nat)]? = some Try.f94
 fb : P.funcs[(79 : Nat)]? = some Try.f79
 t0 : P.underlying 0 = some (TypeDesc.tuple #[])
 a0 : ∀ w, (isAgg 0).run P w = .ok false w
 z0 : ∀ w, (Go.sizeOf 0).run P w = .ok 1 w
 v0 : ∀ w, (zeroValue 0).run P w = .ok (Value.tuple #[]) w
 t3 : P.underlying 3 = some (TypeDesc.int IntKind.i64)
 a3 : ∀ w, (isAgg 3).run P w = .ok false w
 z3 : ∀ w, (Go.sizeOf 3).run P w = .ok 1 w
 v3 : ∀ w, (zeroValue 3).run P w = .ok (Value.int IntKind.i64 0) w
 t4 : P.underlying 4 = some (TypeDesc.bool)
 a4 : ∀ w, (isAgg 4).run P w = .ok false w
 z4 : ∀ w, (Go.sizeOf 4).run P w = .ok 1 w
 v4 : ∀ w, (zeroValue 4).run P w = .ok (Value.bool false) w
 t40 : P.underlying 50 = some (TypeDesc.int IntKind.u64)
 a40 : ∀ w, (isAgg 50).run P w = .ok false w
 z40 : ∀ w, (Go.sizeOf 50).run P w = .ok 1 w
 v40 : ∀ w, (zeroValue 50).run P w = .ok (Value.int IntKind.u64 0) w
 t22 : P.underlying 27 = some (TypeDesc.slice 37)
 a22 : ∀ w, (isAgg 27).run P w = .ok false w
 z22 : ∀ w, (Go.sizeOf 27).run P w = .ok 1 w
 v22 : ∀ w, (zeroValue 27).run P w = .ok (Value.slice none 0 0) w
 t25 : P.underlying 85 = some (TypeDesc.func #[37, 37] #[3] false)
 a25 : ∀ w, (isAgg 85).run P w = .ok false w
 z25 : ∀ w, (Go.sizeOf 85).run P w = .ok 1 w
 v25 : ∀ w, (zeroValue 85).run P w = .ok (Value.nilFunc) w
theorem table_With.lw : table_With.LW Try.prog where
 mixed := by kernel_rfl
 fs := by kernel_rfl
 fr := by kernel_rfl
 fm := by kernel_rfl
 fb := by kernel_rfl
 t0 := by kernel_rfl
 a0 := fun w => by kernel_rfl
 z0 := fun w => by kernel_rfl
 v0 := fun w => by kernel_rfl
 t3 := by kernel_rfl
 a3 := fun w => by kernel_rfl
 z3 := fun w => by kernel_rfl
 v3 := fun w => by kernel_rfl
 t4 := by kernel_rfl
 a4 := fun w => by kernel_rfl
 z4 := fun w => by kernel_rfl
 v4 := fun w => by kernel_rfl
 t40 := by kernel_rfl
 a40 := fun w => by kernel_rfl
 z40 := fun w => by kernel_rfl
 v40 := fun w => by kernel_rfl
 t22 := by kernel_rfl
 a22 := fun w => by kernel_rfl
 z22 := fun w => by kernel_rfl
 v22 := fun w => by kernel_rfl
 t25 := by kernel_rfl
 a25 := fun w => by kernel_rfl
 z25 := fun w => by kernel_rfl
 v25 := fun w => by kernel_rfl
section
variable {P : Program} {α : Type} [Inhabited α] {enc : α → List Value} {k : Nat} {w0 : World} {blk off : Nat} {d0 : Array α}
def table_With.Cls (enc : α → List Value) (k : Nat) (w0 : World) (blk off : Nat) (n : Nat) (W : World) : Prop := ∃ dk : Array α, dk.size = n ∧ SWK enc k w0 blk off dk W
set_option maxHeartbeats 8000000 in
set_option maxRecDepth 1000000 in
theorem table_With.swapR (L : table_With.LW P) (aE : ∀ w, (isAgg 37).run P w = .ok true w) (zE : ∀ w, (Go.sizeOf 37).run P w = .ok k w) (fv : Value) (n cap a b c : Nat) (w : World) (R : RowK enc k w0 blk off d0) (hn : d0.size = n) (C : table_With.Cls enc k w0 blk off n w) (ha : a + c ≤ n) (hb : b + c ≤ n) (hsz : n < 4611686018427387904) :
  Calls P 113 #[.slice (some ⟨blk, off, none⟩) n cap, .int .i64 a, .int .i64 b, .int .i64 c, fv] w fun e w' => e = .returned (.tuple #[]) ∧ table_With.Cls enc k w0 blk off n w' := by
 have mixed := L.mixed; have t0 := L.t0; have a0 := L.a0; have z0 := L.z0; have v0 := L.v0; have t3 := L.t3; have a3 := L.a3; have z3 := L.z3; have v3 := L.v3; have t4 := L.t4; have a4 := L.a4; have z4 := L.z4; have v4 := L.v4; have t40 := L.t40; have a40 := L.a40; have z40 := L.z40; have v40 := L.v40; have t22 := L.t22; have a22 := L.a22; have z22 := L.z22; have v22 := L.v22; have t25 := L.t25; have a25 := L.a25; have z25 := L.z25; have v25 := L.v25
 obtain ⟨d1, hd1, S1⟩ := C
 have S0 : Aside (SWK enc k w0 blk off d1 w) := S1
 clear S1
 go_enter L.fs, Try.ntmps113
 go_wp2
 go_loopg [10] c (fun kx s10 wr => ∃ (i : Nat) (dk : Array α), s10 = .int .i64 i ∧ i ≤ c ∧ c - i ≤ kx ∧ dk.size = n ∧ Aside (SWK enc k w0 blk off dk wr))
 case atStart => exact ⟨0, d1, rfl, by omega, by omega, hd1, S0⟩
 case round =>
  clear S0
  obtain ⟨i, dk, rfl, hic, hkx, hds, S1⟩ := hrel
  by_cases hlt : i < c
  ·have hltz : (i : Int) < (c : Int) := by omega
   go_wp2_with fail
   have ea1a : ((a : Int) + (i : Int)).toNat = a + i := by omega
   have pa1a : (0 : Int) ≤ (a : Int) + (i : Int) := by omega
   have ba1a : (a : Int) + (i : Int) < (n : Int) := by omega
   have ra1a : IntKind.i64.wrap ((a : Int) + (i : Int)) = (a : Int) + (i : Int) := by rw [IntKind.wrap_i64]; omega
   have ea1b : ((b : Int) + (i : Int)).toNat = b + i := by omega
   have pa1b : (0 : Int) ≤ (b : Int) + (i : Int) := by omega
   have ba1b : (b : Int) + (i : Int) < (n : Int) := by omega
   have ra1b : IntKind.i64.wrap ((b : Int) + (i : Int)) = (b : Int) + (i : Int) := by rw [IntKind.wrap_i64]; omega
   have S2 : Aside (SWK enc k w0 blk off (Go.Sort.swp dk (a + i) (b + i)) ((wr.drew.setCells blk (off + (a + i) * k) (enc dk[b + i]!)).setCells blk (off + (b + i) * k) (enc dk[a + i]!))) := S1.out.swapped R (a + i) (b + i) (by omega) (by omega)
   have la := S1.out.ld1 R (by omega) P (a + i) (by omega)
   have lb := S1.out.ld1 R (by omega) P (b + i) (by omega)
   have sa := S1.out.st1 R (by omega) P (a + i) (by omega) dk[b + i]!
   have sb := S1.out.st2 R (by omega) P (a + i) (b + i) (by omega) (by omega) dk[b + i]! dk[a + i]!
   have na : (enc dk[a + i]!).length = k := R.hk _
   have nb : (enc dk[b + i]!).length = k := R.hk _
   generalize enc dk[a + i]! = cI at S2 la sb na
   generalize enc dk[b + i]! = cJ at S2 lb sa sb nb
   clear S1
   go_wp2_with fail
   go_big_region_o
   clear la lb sa sb na nb
   generalize (wr.drew.setCells blk (off + (a + i) * k) cJ).setCells blk (off + (b + i) * k) cI = w2 at S2 ⊢
   go_wp2
   go_roundg (c - (i + 1))
   case measure => omega
   case rel => exact ⟨i + 1, Go.Sort.swp dk (a + i) (b + i), by first | rfl | go_num, by omega, Nat.le_refl _, by rw [Go.Sort.size_swp]; exact hds, S2⟩
  ·have hltz : ¬ (i : Int) < (c : Int) := by omega
   go_wp2
   go_end0
   exact ⟨rfl, dk, hds, S1.out⟩
set_option maxHeartbeats 8000000 in
set_option maxRecDepth 1000000 in
theorem table_With.rotR (L : table_With.LW P) (aE : ∀ w, (isAgg 37).run P w = .ok true w) (zE : ∀ w, (Go.sizeOf 37).run P w = .ok k w) (fv : Value) (n cap a m b : Nat) (w : World) (R : RowK enc k w0 blk off d0) (hn : d0.size = n) (C : table_With.Cls enc k w0 blk off n w) (ham : a < m) (hmb : m < b) (hbn : b ≤ n) (hsz : n < 4611686018427387904) :
  Calls P 105 #[.slice (some ⟨blk, off, none⟩) n cap, .int .i64 a, .int .i64 m, .int .i64 b, fv] w fun e w' => e = .returned (.tuple #[]) ∧ table_With.Cls enc k w0 blk off n w' := by
 have mixed := L.mixed; have t0 := L.t0; have a0 := L.a0; have z0 := L.z0; have v0 := L.v0; have t3 := L.t3; have a3 := L.a3; have z3 := L.z3; have v3 := L.v3; have t4 := L.t4; have a4 := L.a4; have z4 := L.z4; have v4 := L.v4; have t40 := L.t40; have a40 := L.a40; have z40 := L.z40; have v40 := L.v40; have t22 := L.t22; have a22 := L.a22; have z22 := L.z22; have v22 := L.v22; have t25 := L.t25; have a25 := L.a25; have z25 := L.z25; have v25 := L.v25
 have es : ∀ args w, (callFunc 113 args).run P w = .ok (.enter 113 args) w := enters_of L.fs (by kernel_rfl) rfl
 have C0 := am_ C
 clear C
 go_enter L.fr, Try.ntmps105
 go_wp2
 go_loopg [10, 11] (m - a + (b - m)) (fun kx s10 s11 wr => ∃ i j : Nat, s10 = .int .i64 i ∧ s11 = .int .i64 j ∧ 1 ≤ i ∧ 1 ≤ j ∧ i ≤ m ∧ m + j ≤ n ∧ i + j ≤ kx ∧ Aside0 (table_With.Cls enc k w0 blk off n wr))
 case atStart => exact ⟨m - a, b - m, by rw [show ((m - a : Nat) : Int) = (m : Int) - (a : Int) by omega], by rw [show ((b - m : Nat) : Int) = (b : Int) - (m : Int) by omega], by omega, by omega, by omega, by omega, by omega, C0⟩
 case round =>
  clear C0
  obtain ⟨i, j, rfl, rfl, hi, hj, him, hjn, hkx, CC⟩ := hrel
  have ei : ((m - i : Nat) : Int) = (m : Int) - (i : Int) := by omega
  by_cases hij : i = j
  ·subst hij
   have hcall := am_ (table_With.swapR L aE zE fv n cap (m - i) m i wr R hn CC.out (by omega) (by omega) hsz)
   rw [ei] at hcall
   clear CC ei
   have h1 : ((i : Int) != (i : Int)) = false := by simp
   go_wp2_with (go_at_fn 113; (with_reducible refine hcall.out.mono ?_); rintro e w1 ⟨rfl, hC⟩)
   go_end0
   exact ⟨rfl, hC⟩
  ·have h1 : ((i : Int) != (j : Int)) = true := by rw [bne_iff_ne]; omega
   by_cases hlt : j < i
   ·have hcall := am_ (table_With.swapR L aE zE fv n cap (m - i) m j wr R hn CC.out (by omega) (by omega) hsz)
    rw [ei] at hcall
    have hz : (j : Int) < (i : Int) := by omega
    clear CC ei
    go_wp2_with (go_at_fn 113; (with_reducible refine hcall.out.mono ?_); rintro e w1 ⟨rfl, hC⟩; have CC := am_ hC; clear hC)
    go_roundg (i - j + j)
    case measure => omega
    case rel => exact ⟨i - j, j, by rw [show ((i - j : Nat) : Int) = (i : Int) - (j : Int) by omega], rfl, by omega, hj, by omega, hjn, Nat.le_refl _, CC⟩
   ·have hcall := am_ (table_With.swapR L aE zE fv n cap (m - i) (m + j - i) i wr R hn CC.out (by omega) (by omega) hsz)
    rw [ei, show ((m + j - i : Nat) : Int) = (m : Int) + (j : Int) - (i : Int) by omega] at hcall
    have hz : ¬ (j : Int) < (i : Int) := by omega
    clear CC ei
    go_wp2_with (go_at_fn 113; (with_reducible refine hcall.out.mono ?_); rintro e w1 ⟨rfl, hC⟩; have CC := am_ hC; clear hC)
    go_roundg (i + (j - i))
    case measure => omega
    case rel => exact ⟨i, j - i, rfl, by rw [show ((j - i : Nat) : Int) = (j : Int) - (i : Int) by omega], hi, by omega, him, by omega, Nat.le_refl _, CC⟩
set_option maxHeartbeats 8000000 in
set_option maxRecDepth 1000000 in
theorem table_With.symR (L : table_With.LW P) (aE : ∀ w, (isAgg 37).run P w = .ok true w) (zE : ∀ w, (Go.sizeOf 37).run P w = .ok k w) (cf : α → α → Int) (g : Nat) (cb : Array Value) (n cap : Nat) (R : RowK enc k w0 blk off d0) (hn : d0.size = n) (hsz : n < 4611686018427387904) (eg : ∀ args w, (callFunc g args).run P w = .ok (.enter g args) w) (hcmp : CmpLays P g cb enc k cf blk off n w0) (fuel : Nat) : ∀ (a m b : Nat) (w : World), b - a ≤ fuel → a < m → m < b → b ≤ n → table_With.Cls enc k w0 blk off n w →
  Calls P 94 #[.slice (some ⟨blk, off, none⟩) n cap, .int .i64 a, .int .i64 m, .int .i64 b, .func (.func g) #[] cb] w fun e w' => e = .returned (.tuple #[]) ∧ table_With.Cls enc k w0 blk off n w' := by
 induction fuel with
 | zero => intro a m b w h1 h2 h3; omega
 | succ fuel ih =>
 intro a m b w hfu ham hmb hbn C
 have mixed := L.mixed; have t0 := L.t0; have a0 := L.a0; have z0 := L.z0; have v0 := L.v0; have t3 := L.t3; have a3 := L.a3; have z3 := L.z3; have v3 := L.v3; have t4 := L.t4; have a4 := L.a4; have z4 := L.z4; have v4 := L.v4; have t40 := L.t40; have a40 := L.a40; have z40 := L.z40; have v40 := L.v40; have t22 := L.t22; have a22 := L.a22; have z22 := L.z22; have v22 := L.v22; have t25 := L.t25; have a25 := L.a25; have z25 := L.z25; have v25 := L.v25
 have er : ∀ args w, (callFunc 105 args).run P w = .ok (.enter 105 args) w := enters_of L.fr (by kernel_rfl) rfl
 have em : ∀ args w, (callFunc 94 args).run P w = .ok (.enter 94 args) w := enters_of L.fm (by kernel_rfl) rfl
 have IH := am_ ih
 clear ih
 have HC : Aside (CmpLays P g cb enc k cf blk off n w0) := hcmp
 clear hcmp
 obtain ⟨d1, hd1, S1⟩ := C
 have S0 : Aside (SWK enc k w0 blk off d1 w) := S1
 clear S1
 by_cases h1 : m - a = 1
 ·have z1 : ((m : Int) - (a : Int) == 1) = true := by rw [beq_iff_eq]; omega
  go_enter L.fm, Try.ntmps94
  go_wp2
  go_loopg [10, 11] (b - m) (fun kx s10 s11 wr => ∃ (i j : Nat) (dk : Array α), s10 = .int .i64 i ∧ s11 = .int .i64 j ∧ m ≤ i ∧ i ≤ j ∧ j ≤ b ∧ j - i ≤ kx ∧ dk.size = n ∧ Aside (SWK enc k w0 blk off dk wr))
  case atStart => exact ⟨m, b, d1, rfl, rfl, Nat.le_refl _, by omega, Nat.le_refl _, Nat.le_refl _, hd1, S0⟩
  case round =>
   clear S0
   obtain ⟨i, j, dk, rfl, rfl, hi, hij, hjb, hkx, hds, S1⟩ := hrel
   by_cases hlt : i < j
   ·have hz : (i : Int) < (j : Int) := by omega
    obtain ⟨h, hh⟩ : ∃ h_ : Nat, (i + j) / 2 = h_ := ⟨_, rfl⟩
    have eh : ((i : Int) + (j : Int)) / 2 = (h : Int) := by omega
    have ea1a : ((h : Int)).toNat = h := by omega
    have pa1a : (0 : Int) ≤ (h : Int) := by omega
    have ba1a : (h : Int) < (n : Int) := by omega
    have ra1a : IntKind.i64.wrap ((h : Int)) = (h : Int) := by rw [IntKind.wrap_i64]; omega
    have ea1b : ((a : Int)).toNat = a := by omega
    have pa1b : (0 : Int) ≤ (a : Int) := by omega
    have ba1b : (a : Int) < (n : Int) := by omega
    have ra1b : IntKind.i64.wrap ((a : Int)) = (a : Int) := by rw [IntKind.wrap_i64]; omega
    have la := S1.out.ld R (by omega) P (h) (by omega)
    have lb := S1.out.ld R (by omega) P (a) (by omega)
    have hc := S1.out.cmp HC.out (by omega) dk[h]! dk[a]!
    generalize dk[h]! = xA at la hc
    generalize dk[a]! = xB at lb hc
    by_cases hv : cf xA xB < 0
    ·have hd : decide (cf xA xB < 0) = true := decide_eq_true hv
     go_wp2_with fail
     go_quiet_grown (first | (go_at_fn g; refine Calls.grown_of (hc _ _)))
     have S2 : Aside (SWK enc k w0 blk off dk (Go.Sort.grow (wr.drewN nq) osq)) := S1.out.grown nq osq
     clear la lb hc S1
     generalize Go.Sort.grow (wr.drewN nq) osq = w2 at S2 ⊢
     go_wp2
     go_roundg (j - (h + 1))
     case measure => omega
     case rel => exact ⟨h + 1, j, dk, by first | rfl | go_num, rfl, by omega, by omega, hjb, Nat.le_refl _, hds, S2⟩
    ·have hd : decide (cf xA xB < 0) = false := decide_eq_false hv
     go_wp2_with fail
     go_quiet_grown (first | (go_at_fn g; refine Calls.grown_of (hc _ _)))
     have S2 : Aside (SWK enc k w0 blk off dk (Go.Sort.grow (wr.drewN nq) osq)) := S1.out.grown nq osq
     clear la lb hc S1
     generalize Go.Sort.grow (wr.drewN nq) osq = w2 at S2 ⊢
     go_wp2
     go_roundg (h - i)
     case measure => omega
     case rel => exact ⟨i, h, dk, rfl, rfl, hi, by omega, by omega, Nat.le_refl _, hds, S2⟩
   ·have hz : ¬ (i : Int) < (j : Int) := by omega
    go_wp2
    go_loopg [13] (b - a) (fun kx s13 wr => ∃ (q : Nat) (dk : Array α), s13 = .int .i64 q ∧ a ≤ q ∧ q ≤ i ∧ i - q ≤ kx ∧ dk.size = n ∧ Aside (SWK enc k w0 blk off dk wr))
    case atStart => exact ⟨a, dk, rfl, Nat.le_refl _, by omega, by omega, hds, S1⟩
    case round =>
     clear S1
     obtain ⟨q, dk, rfl, haq, hqi, hkx, hds, S1⟩ := hrel
     by_cases hq : q + 1 < i
     ·have hqz : (q : Int) < (i : Int) - 1 := by omega
      go_wp2_with fail
      have ea1a : ((q : Int)).toNat = q := by omega
      have pa1a : (0 : Int) ≤ (q : Int) := by omega
      have ba1a : (q : Int) < (n : Int) := by omega
      have ra1a : IntKind.i64.wrap ((q : Int)) = (q : Int) := by rw [IntKind.wrap_i64]; omega
      have ea1b : ((q : Int) + 1).toNat = q + 1 := by omega
      have pa1b : (0 : Int) ≤ (q : Int) + 1 := by omega
      have ba1b : (q : Int) + 1 < (n : Int) := by omega
      have ra1b : IntKind.i64.wrap ((q : Int) + 1) = (q : Int) + 1 := by rw [IntKind.wrap_i64]; omega
      have S2 : Aside (SWK enc k w0 blk off (Go.Sort.swp dk (q) (q + 1)) ((wr.drew.setCells blk (off + (q) * k) (enc dk[q + 1]!)).setCells blk (off + (q + 1) * k) (enc dk[q]!))) := S1.out.swapped R (q) (q + 1) (by omega) (by omega)
      have la := S1.out.ld1 R (by omega) P (q) (by omega)
      have lb := S1.out.ld1 R (by omega) P (q + 1) (by omega)
      have sa := S1.out.st1 R (by omega) P (q) (by omega) dk[q + 1]!
      have sb := S1.out.st2 R (by omega) P (q) (q + 1) (by omega) (by omega) dk[q + 1]! dk[q]!
      have na : (enc dk[q]!).length = k := R.hk _
      have nb : (enc dk[q + 1]!).length = k := R.hk _
      generalize enc dk[q]! = cI at S2 la sb na
      generalize enc dk[q + 1]! = cJ at S2 lb sa sb nb
      clear S1
      go_wp2_with fail
      go_big_region_o
      clear la lb sa sb na nb
      generalize (wr.drew.setCells blk (off + (q) * k) cJ).setCells blk (off + (q + 1) * k) cI = w2 at S2 ⊢
      go_wp2
      go_roundg (i - (q + 1))
      case measure => omega
      case rel => exact ⟨q + 1, Go.Sort.swp dk q (q + 1), by first | rfl | go_num, by omega, by omega, Nat.le_refl _, by rw [Go.Sort.size_swp]; exact hds, S2⟩
     ·have hqz : ¬ (q : Int) < (i : Int) - 1 := by omega
      go_wp2
      (try simp only [Exit.inBlock, Exit.then]); refine bodyPost_ret (results_none rfl _ _ _) rfl ?_
      exact ⟨rfl, dk, hds, S1.out⟩
 have z1 : ((m : Int) - (a : Int) == 1) = false := by rw [beq_eq_false_iff_ne]; omega
 by_cases h2 : b - m = 1
 ·have z2 : ((b : Int) - (m : Int) == 1) = true := by rw [beq_iff_eq]; omega
  go_enter L.fm, Try.ntmps94
  go_wp2
  go_loopg [14, 15] (m - a) (fun kx s14 s15 wr => ∃ (i j : Nat) (dk : Array α), s14 = .int .i64 i ∧ s15 = .int .i64 j ∧ a ≤ i ∧ i ≤ j ∧ j ≤ m ∧ j - i ≤ kx ∧ dk.size = n ∧ Aside (SWK enc k w0 blk off dk wr))
  case atStart => exact ⟨a, m, d1, rfl, rfl, Nat.le_refl _, by omega, Nat.le_refl _, Nat.le_refl _, hd1, S0⟩
  case round =>
   clear S0
   obtain ⟨i, j, dk, rfl, rfl, hi, hij, hjb, hkx, hds, S1⟩ := hrel
   by_cases hlt : i < j
   ·have hz : (i : Int) < (j : Int) := by omega
    obtain ⟨h, hh⟩ : ∃ h_ : Nat, (i + j) / 2 = h_ := ⟨_, rfl⟩
    have eh : ((i : Int) + (j : Int)) / 2 = (h : Int) := by omega
    have ea1a : ((m : Int)).toNat = m := by omega
    have pa1a : (0 : Int) ≤ (m : Int) := by omega
    have ba1a : (m : Int) < (n : Int) := by omega
    have ra1a : IntKind.i64.wrap ((m : Int)) = (m : Int) := by rw [IntKind.wrap_i64]; omega
    have ea1b : ((h : Int)).toNat = h := by omega
    have pa1b : (0 : Int) ≤ (h : Int) := by omega
    have ba1b : (h : Int) < (n : Int) := by omega
    have ra1b : IntKind.i64.wrap ((h : Int)) = (h : Int) := by rw [IntKind.wrap_i64]; omega
    have la := S1.out.ld R (by omega) P (m) (by omega)
    have lb := S1.out.ld R (by omega) P (h) (by omega)
    have hc := S1.out.cmp HC.out (by omega) dk[m]! dk[h]!
    generalize dk[m]! = xA at la hc
    generalize dk[h]! = xB at lb hc
    by_cases hv : cf xA xB < 0
    ·have hd : decide (cf xA xB < 0) = true := decide_eq_true hv
     go_wp2_with fail
     go_quiet_grown (first | (go_at_fn g; refine Calls.grown_of (hc _ _)))
     have S2 : Aside (SWK enc k w0 blk off dk (Go.Sort.grow (wr.drewN nq) osq)) := S1.out.grown nq osq
     clear la lb hc S1
     generalize Go.Sort.grow (wr.drewN nq) osq = w2 at S2 ⊢
     go_wp2
     go_roundg (h - i)
     case measure => omega
     case rel => exact ⟨i, h, dk, rfl, rfl, hi, by omega, by omega, Nat.le_refl _, hds, S2⟩
    ·have hd : decide (cf xA xB < 0) = false := decide_eq_false hv
     go_wp2_with fail
     go_quiet_grown (first | (go_at_fn g; refine Calls.grown_of (hc _ _)))
     have S2 : Aside (SWK enc k w0 blk off dk (Go.Sort.grow (wr.drewN nq) osq)) := S1.out.grown nq osq
     clear la lb hc S1
     generalize Go.Sort.grow (wr.drewN nq) osq = w2 at S2 ⊢
     go_wp2
     go_roundg (j - (h + 1))
     case measure => omega
     case rel => exact ⟨h + 1, j, dk, by first | rfl | go_num, rfl, by omega, by omega, hjb, Nat.le_refl _, hds, S2⟩
   ·have hz : ¬ (i : Int) < (j : Int) := by omega
    go_wp2
    go_loopg [17] (m - a) (fun kx s17 wr => ∃ (q : Nat) (dk : Array α), s17 = .int .i64 q ∧ i ≤ q ∧ q ≤ m ∧ q - i ≤ kx ∧ dk.size = n ∧ Aside (SWK enc k w0 blk off dk wr))
    case atStart => exact ⟨m, dk, rfl, by omega, Nat.le_refl _, by omega, hds, S1⟩
    case round =>
     clear S1
     obtain ⟨q, dk, rfl, haq, hqi, hkx, hds, S1⟩ := hrel
     by_cases hq : i < q
     ·obtain ⟨r, rfl⟩ : ∃ r, q = r + 1 := ⟨q - 1, by omega⟩
      have hqz : (i : Int) < (r : Int) + 1 := by omega
      have hwr : IntKind.i64.wrap (r : Int) = (r : Int) := by rw [IntKind.wrap_i64]; omega
      go_wp2_with fail
      have ea1a : ((r : Int) + 1).toNat = r + 1 := by omega
      have pa1a : (0 : Int) ≤ (r : Int) + 1 := by omega
      have ba1a : (r : Int) + 1 < (n : Int) := by omega
      have ra1a : IntKind.i64.wrap ((r : Int) + 1) = (r : Int) + 1 := by rw [IntKind.wrap_i64]; omega
      have ea1b : ((r : Int)).toNat = r := by omega
      have pa1b : (0 : Int) ≤ (r : Int) := by omega
      have ba1b : (r : Int) < (n : Int) := by omega
      have ra1b : IntKind.i64.wrap ((r : Int)) = (r : Int) := by rw [IntKind.wrap_i64]; omega
      have S2 : Aside (SWK enc k w0 blk off (Go.Sort.swp dk (r + 1) (r)) ((wr.drew.setCells blk (off + (r + 1) * k) (enc dk[r]!)).setCells blk (off + (r) * k) (enc dk[r + 1]!))) := S1.out.swapped R (r + 1) (r) (by omega) (by omega)
      have la := S1.out.ld1 R (by omega) P (r + 1) (by omega)
      have lb := S1.out.ld1 R (by omega) P (r) (by omega)
      have sa := S1.out.st1 R (by omega) P (r + 1) (by omega) dk[r]!
      have sb := S1.out.st2 R (by omega) P (r + 1) (r) (by omega) (by omega) dk[r]! dk[r + 1]!
      have na : (enc dk[r + 1]!).length = k := R.hk _
      have nb : (enc dk[r]!).length = k := R.hk _
      generalize enc dk[r + 1]! = cI at S2 la sb na
      generalize enc dk[r]! = cJ at S2 lb sa sb nb
      clear S1
      go_wp2_with fail
      go_big_region_o
      clear la lb sa sb na nb
      generalize (wr.drew.setCells blk (off + (r + 1) * k) cJ).setCells blk (off + (r) * k) cI = w2 at S2 ⊢
      go_wp2
      go_roundg (r - i)
      case measure => omega
      case rel => exact ⟨r, Go.Sort.swp dk (r + 1) r, by first | rfl | go_num | (congr 1; omega), by omega, by omega, Nat.le_refl _, by rw [Go.Sort.size_swp]; exact hds, S2⟩
     ·have hqz : ¬ (i : Int) < (q : Int) := by omega
      go_wp2
      (try simp only [Exit.inBlock, Exit.then]); refine bodyPost_ret (results_none rfl _ _ _) rfl ?_
      exact ⟨rfl, dk, hds, S1.out⟩
 have z2 : ((b : Int) - (m : Int) == 1) = false := by rw [beq_eq_false_iff_ne]; omega
 obtain ⟨mid, hmid⟩ : ∃ h_ : Nat, (a + b) / 2 = h_ := ⟨_, rfl⟩
 have emid : ((a : Int) + (b : Int)) / 2 = (mid : Int) := by omega
 have key : ∀ (lo hi : Nat), lo ≤ hi → hi ≤ mid + m → mid + m ≤ lo + b → hi ≤ n → a ≤ lo → True := fun _ _ _ _ _ _ _ => trivial
 clear key
 by_cases hm : mid < m
 all_goals first
  | (have hmz : (mid : Int) < (m : Int) := by omega)
  | (have hmz : ¬ (mid : Int) < (m : Int) := by omega)
 all_goals first
  | (obtain ⟨lo, hlo⟩ : ∃ lo : Nat, lo = (if mid < m then mid + m - b else a) := ⟨_, rfl⟩)
 all_goals obtain ⟨hi, hhi⟩ : ∃ hi : Nat, hi = (if mid < m then mid else m) := ⟨_, rfl⟩
 all_goals first
  | rw [if_pos hm] at hlo hhi
  | rw [if_neg hm] at hlo hhi
 all_goals
  have k1 : lo ≤ hi := by omega
  have k2 : hi ≤ mid + m := by omega
  have k3 : mid + m ≤ lo + b := by omega
  have k4 : hi ≤ b := by omega
  have k5 : a ≤ lo := by omega
  have k6 : mid < b := by omega
  have k7 : a < mid := by omega
  go_enter L.fm, Try.ntmps94
  go_wp2
  go_loopg [20, 21] (hi - lo) (fun kx s20 s21 wr => ∃ (i j : Nat) (dk : Array α), s20 = .int .i64 i ∧ s21 = .int .i64 j ∧ lo ≤ i ∧ i ≤ j ∧ j ≤ hi ∧ j - i ≤ kx ∧ dk.size = n ∧ Aside (SWK enc k w0 blk off dk wr))
  case atStart => exact ⟨lo, hi, d1, by first | (rw [hlo]; done) | (rw [hlo]; first | rfl | (congr 1; omega)), by first | (rw [hhi]; done) | (rw [hhi]; rfl), Nat.le_refl _, k1, Nat.le_refl _, Nat.le_refl _, hd1, S0⟩
  case round =>
   clear S0
   obtain ⟨i, j, dk, rfl, rfl, hi1, hij, hj1, hkx, hds, S1⟩ := hrel
   by_cases hlt : i < j
   ·have hz : (i : Int) < (j : Int) := by omega
    obtain ⟨h, hh⟩ : ∃ h_ : Nat, (i + j) / 2 = h_ := ⟨_, rfl⟩
    have eh : ((i : Int) + (j : Int)) / 2 = (h : Int) := by omega
    obtain ⟨pp, hpp⟩ : ∃ pp : Nat, mid + m - 1 - h = pp := ⟨_, rfl⟩
    have epp : (mid : Int) + (m : Int) - 1 - (h : Int) = (pp : Int) := by omega
    have ppn : pp < n := by omega
    have ea1a : ((pp : Int)).toNat = pp := by omega
    have pa1a : (0 : Int) ≤ (pp : Int) := by omega
    have ba1a : (pp : Int) < (n : Int) := by omega
    have ra1a : IntKind.i64.wrap ((pp : Int)) = (pp : Int) := by rw [IntKind.wrap_i64]; omega
    have ea1b : ((h : Int)).toNat = h := by omega
    have pa1b : (0 : Int) ≤ (h : Int) := by omega
    have ba1b : (h : Int) < (n : Int) := by omega
    have ra1b : IntKind.i64.wrap ((h : Int)) = (h : Int) := by rw [IntKind.wrap_i64]; omega
    have la := S1.out.ld R (by omega) P (pp) (by omega)
    have lb := S1.out.ld R (by omega) P (h) (by omega)
    have hc := S1.out.cmp HC.out (by omega) dk[pp]! dk[h]!
    generalize dk[pp]! = xA at la hc
    generalize dk[h]! = xB at lb hc
    by_cases hv : cf xA xB < 0
    ·have hd : decide (cf xA xB < 0) = true := decide_eq_true hv
     go_wp2_with fail
     go_quiet_grown (first | (go_at_fn g; refine Calls.grown_of (hc _ _)))
     have S2 : Aside (SWK enc k w0 blk off dk (Go.Sort.grow (wr.drewN nq) osq)) := S1.out.grown nq osq
     clear la lb hc S1
     generalize Go.Sort.grow (wr.drewN nq) osq = w2 at S2 ⊢
     go_wp2
     go_roundg (h - i)
     case measure => omega
     case rel => exact ⟨i, h, dk, rfl, rfl, hi1, by omega, by omega, Nat.le_refl _, hds, S2⟩
    ·have hd : decide (cf xA xB < 0) = false := decide_eq_false hv
     go_wp2_with fail
     go_quiet_grown (first | (go_at_fn g; refine Calls.grown_of (hc _ _)))
     have S2 : Aside (SWK enc k w0 blk off dk (Go.Sort.grow (wr.drewN nq) osq)) := S1.out.grown nq osq
     clear la lb hc S1
     generalize Go.Sort.grow (wr.drewN nq) osq = w2 at S2 ⊢
     go_wp2
     go_roundg (j - (h + 1))
     case measure => omega
     case rel => exact ⟨h + 1, j, dk, by first | rfl | go_num, rfl, by omega, by omega, hj1, Nat.le_refl _, hds, S2⟩
   ·have hz : ¬ (i : Int) < (j : Int) := by omega
    have CC := am_ (show table_With.Cls enc k w0 blk off n wr from ⟨dk, hds, S1.out⟩)
    have een : ((mid + m - i : Nat) : Int) = (mid : Int) + (m : Int) - (i : Int) := by omega
    have HR := am_ (fun (q1 : i < m) (q2 : m < mid + m - i) (w : World) (C : table_With.Cls enc k w0 blk off n w) => by have h_ := table_With.rotR L aE zE (.func (.func g) #[] cb) n cap i m (mid + m - i) w R hn C q1 q2 (by omega) hsz; rw [een] at h_; exact h_)
    have H1 := am_ (fun (q1 : a < i) (q2 : i < mid) (w : World) (C : table_With.Cls enc k w0 blk off n w) => IH.out a i mid w (by omega) q1 q2 (by omega) C)
    have H2 := am_ (fun (q1 : mid < mid + m - i) (q2 : mid + m - i < b) (w : World) (C : table_With.Cls enc k w0 blk off n w) => by have h_ := IH.out mid (mid + m - i) b w (by omega) q1 q2 hbn C; rw [een] at h_; exact h_)
    clear S1 IH
    by_cases p1 : i < m <;> by_cases p2 : i < mid <;> by_cases p3 : a < i <;> by_cases p4 : mid + m < b + i
    all_goals first
     | (exfalso; omega)
     | skip
    all_goals
     go_wp2_with (first
      | (go_at_fn 105; (with_reducible refine (HR.out (by omega) (by omega) _ CC.out).mono ?_); rintro e w1 ⟨rfl, hC⟩; replace CC := am_ hC; clear hC)
      | (go_at_fn 94; (with_reducible refine (H1.out (by omega) (by omega) _ CC.out).mono ?_); rintro e w1 ⟨rfl, hC⟩; replace CC := am_ hC; clear hC)
      | (go_at_fn 94; (with_reducible refine (H2.out (by omega) (by omega) _ CC.out).mono ?_); rintro e w1 ⟨rfl, hC⟩; replace CC := am_ hC; clear hC))
     go_end0
     exact ⟨rfl, CC.out⟩
theorem table_With.size_in (lt : α → α → Bool) (a : Nat) : ∀ (j : Nat) (d : Array α), (Go.Sort.insInner lt a j d).size = d.size
 | 0, d => by unfold Go.Sort.insInner; first | rfl | (split <;> rfl)
 | j + 1, d => by
  unfold Go.Sort.insInner
  split
  ·rw [table_With.size_in lt a j, Go.Sort.size_swp]
  ·rfl
theorem table_With.size_ou (lt : α → α → Bool) (a b : Nat) : ∀ (m i : Nat) (d : Array α), b - i ≤ m → (Go.Sort.insOuter lt a b i d).size = d.size
 | 0, i, d, h => by rw [Go.Sort.insOuter, if_neg (by omega)]
 | m + 1, i, d, h => by
  by_cases q : i < b
  ·rw [Go.Sort.insOuter, if_pos q, table_With.size_ou lt a b m (i + 1) _ (by omega), table_With.size_in]
  ·rw [Go.Sort.insOuter, if_neg q]
theorem table_With.insR (L : SlLaysF0.n20 P table_With.ren) (aE : ∀ w, (isAgg 37).run P w = .ok true w) (zE : ∀ w, (Go.sizeOf 37).run P w = .ok k w) (cf : α → α → Int) (g : Nat) (cb : Array Value) (n cap a b : Nat) (w : World) (R : RowK enc k w0 blk off d0) (hn : d0.size = n) (eg : ∀ args w, (callFunc g args).run P w = .ok (.enter g args) w) (hcmp : ∀ (x y : α) (W : World), Calls P g (#[.agg (enc x).toArray, .agg (enc y).toArray] ++ cb) W fun e w' => e = .returned (.int .i64 (cf x y)) ∧ ∃ q os', w' = Go.Sort.grow (W.drewN q) os') (C : table_With.Cls enc k w0 blk off n w) (hab : a ≤ b) (hb : b ≤ n) (hsz : n < 4611686018427387904) :
  Calls P 93 #[.slice (some ⟨blk, off, none⟩) n cap, .int .i64 a, .int .i64 b, .func (.func g) #[] cb] w fun e w' => e = .returned (.tuple #[]) ∧ table_With.Cls enc k w0 blk off n w' := by
 obtain ⟨dk, hdk, S⟩ := C
 subst hdk
 refine (AnyQ.insertionSortCmpFunc L k aE zE enc R.hk R.h1 cf g cb blk off cap a b dk w eg (fun m os dj hd x y => hcmp x y _) (S.holds R.hblk R.hH hn.symm) (S.lt R.hblk) hab hb hsz).mono ?_
 rintro e w' ⟨rfl, m, os, rfl⟩
 have hs : (Go.Sort.insertionSort (ltOf cf) dk a b).size = dk.size := table_With.size_ou _ a b (b - (a + 1)) (a + 1) dk (Nat.le_refl _)
 exact ⟨rfl, _, hs, S.on R.hblk m _ os hs⟩
set_option maxHeartbeats 8000000 in
set_option maxRecDepth 1000000 in
theorem table_With.stabR (L : table_With.LW P) (aE : ∀ w, (isAgg 37).run P w = .ok true w) (zE : ∀ w, (Go.sizeOf 37).run P w = .ok k w) (L20 : SlLaysF0.n20 P table_With.ren) (cf : α → α → Int) (g : Nat) (cb : Array Value) (n cap : Nat) (R : RowK enc k w0 blk off d0) (hn : d0.size = n) (hn0 : 0 < n) (hsz : n < 1152921504606846976) (eg : ∀ args w, (callFunc g args).run P w = .ok (.enter g args) w) (hcmp : ∀ (x y : α) (W : World), Calls P g (#[.agg (enc x).toArray, .agg (enc y).toArray] ++ cb) W fun e w' => e = .returned (.int .i64 (cf x y)) ∧ ∃ q os', w' = Go.Sort.grow (W.drewN q) os') :
  Calls P 79 #[.slice (some ⟨blk, off, none⟩) n cap, .int .i64 n, .func (.func g) #[] cb] w0 fun e w' => e = .returned (.tuple #[]) ∧ table_With.Cls enc k w0 blk off n w' := by
 have mixed := L.mixed; have t0 := L.t0; have a0 := L.a0; have z0 := L.z0; have v0 := L.v0; have t3 := L.t3; have a3 := L.a3; have z3 := L.z3; have v3 := L.v3; have t4 := L.t4; have a4 := L.a4; have z4 := L.z4; have v4 := L.v4; have t40 := L.t40; have a40 := L.a40; have z40 := L.z40; have v40 := L.v40; have t22 := L.t22; have a22 := L.a22; have z22 := L.z22; have v22 := L.v22; have t25 := L.t25; have a25 := L.a25; have z25 := L.z25; have v25 := L.v25
 have ei : ∀ args w, (callFunc 93 args).run P w = .ok (.enter 93 args) w := L20.f20.enters rfl
 have em : ∀ args w, (callFunc 94 args).run P w = .ok (.enter 94 args) w := enters_of L.fm (by kernel_rfl) rfl
 have HI := am_ (fun (a b : Nat) (w : World) (C : table_With.Cls enc k w0 blk off n w) (hab : a ≤ b) (hb : b ≤ n) => table_With.insR L20 aE zE cf g cb n cap a b w R hn eg hcmp C hab hb (by omega))
 have HM := am_ (fun (a m b : Nat) (w : World) (C : table_With.Cls enc k w0 blk off n w) (ham : a < m) (hmb : m < b) (hb : b ≤ n) => table_With.symR L aE zE cf g cb n cap R hn (by omega) eg (fun m os dj hd x y => hcmp x y _) (b - a) a m b w (Nat.le_refl _) ham hmb hb C)
 have C0 := am_ (show table_With.Cls enc k w0 blk off n w0 from ⟨d0, hn, SWK.start R.hH⟩)
 clear hcmp
 go_enter L.fb, Try.ntmps79
 go_wp2
 go_loopg [7, 8] n (fun kx s7 s8 wr => ∃ a : Nat, s7 = .int .i64 a ∧ s8 = .int .i64 ((a : Int) + 20) ∧ a ≤ n ∧ n - a ≤ kx ∧ Aside0 (table_With.Cls enc k w0 blk off n wr))
 case atStart => exact ⟨0, rfl, rfl, by omega, by omega, C0⟩
 case round =>
  clear C0
  obtain ⟨a, rfl, rfl, han, hkx, CC⟩ := hrel
  by_cases hlt : a + 20 ≤ n
  ·have hz : (a : Int) + 20 ≤ (n : Int) := by omega
   have hcall := am_ (HI.out a (a + 20) wr CC.out (by omega) hlt)
   rw [show ((a + 20 : Nat) : Int) = (a : Int) + 20 by omega] at hcall
   clear CC
   go_wp2_with (go_at_fn 93; (with_reducible refine hcall.out.mono ?_); rintro e w1 ⟨rfl, hC⟩; have CC := am_ hC; clear hC)
   go_roundg (n - (a + 20))
   case measure => omega
   case rel => exact ⟨a + 20, by rw [show ((a + 20 : Nat) : Int) = (a : Int) + 20 by omega], by rw [show ((a + 20 : Nat) : Int) = (a : Int) + 20 by omega], hlt, Nat.le_refl _, CC⟩
  ·have hz : ¬ (a : Int) + 20 ≤ (n : Int) := by omega
   have hcall := am_ (HI.out a n wr CC.out han (Nat.le_refl _))
   clear CC
   go_wp2_with (go_at_fn 93; (with_reducible refine hcall.out.mono ?_); rintro e w1 ⟨rfl, hC⟩; have CC := am_ hC; clear hC)
   clear hcall HI hz hlt hkx
   go_loopg [6] n (fun kx s6 wr => ∃ bs : Nat, s6 = .int .i64 bs ∧ 20 ≤ bs ∧ bs ≤ 2 * n + 40 ∧ n - bs ≤ kx ∧ Aside0 (table_With.Cls enc k w0 blk off n wr))
   case atStart => exact ⟨20, rfl, by omega, by omega, by omega, CC⟩
   case round =>
    clear CC
    obtain ⟨bs, rfl, h20, hbs, hkx, CC⟩ := hrel
    by_cases hlt : bs < n
    ·have hz : (bs : Int) < (n : Int) := by omega
     go_wp2_with fail
     go_loopg [7, 8] n (fun ky s7 s8 wr => ∃ a : Nat, s7 = .int .i64 a ∧ s8 = .int .i64 ((a : Int) + 2 * (bs : Int)) ∧ a ≤ n ∧ n - a ≤ ky ∧ Aside0 (table_With.Cls enc k w0 blk off n wr))
     case atStart => exact ⟨0, rfl, by first | rfl | (congr 1; omega), by omega, by omega, CC⟩
     case round =>
      clear CC
      obtain ⟨a, rfl, rfl, han, hky, CC⟩ := hrel
      by_cases hle : a + 2 * bs ≤ n
      ·have hz2 : (a : Int) + 2 * (bs : Int) ≤ (n : Int) := by omega
       have hcall := am_ (HM.out a (a + bs) (a + 2 * bs) wr CC.out (by omega) (by omega) hle)
       rw [show ((a + 2 * bs : Nat) : Int) = (a : Int) + 2 * (bs : Int) by omega, show ((a + bs : Nat) : Int) = (a : Int) + (bs : Int) by omega] at hcall
       clear CC
       go_wp2_with (go_at_fn 94; (with_reducible refine hcall.out.mono ?_); rintro e w1 ⟨rfl, hC⟩; have CC := am_ hC; clear hC)
       go_roundg (n - (a + 2 * bs))
       case measure => omega
       case rel => exact ⟨a + 2 * bs, by rw [show ((a + 2 * bs : Nat) : Int) = (a : Int) + 2 * (bs : Int) by omega], by rw [show ((a + 2 * bs : Nat) : Int) = (a : Int) + 2 * (bs : Int) by omega], hle, Nat.le_refl _, CC⟩
      ·have hz2 : ¬ (a : Int) + 2 * (bs : Int) ≤ (n : Int) := by omega
       by_cases hmn : a + bs < n
       ·have hz3 : (a : Int) + (bs : Int) < (n : Int) := by omega
        have hcall := am_ (HM.out a (a + bs) n wr CC.out (by omega) hmn (Nat.le_refl _))
        rw [show ((a + bs : Nat) : Int) = (a : Int) + (bs : Int) by omega] at hcall
        clear CC
        go_wp2_with (go_at_fn 94; (with_reducible refine hcall.out.mono ?_); rintro e w1 ⟨rfl, hC⟩; have CC := am_ hC; clear hC)
        go_roundg (n - bs * 2)
        case measure => omega
        case rel => exact ⟨bs * 2, by first | rfl | (congr 1; omega), by omega, by omega, Nat.le_refl _, CC⟩
       ·have hz3 : ¬ (a : Int) + (bs : Int) < (n : Int) := by omega
        go_wp2
        go_roundg (n - bs * 2)
        case measure => omega
        case rel => exact ⟨bs * 2, by first | rfl | (congr 1; omega), by omega, by omega, Nat.le_refl _, CC⟩
    ·have hz : ¬ (bs : Int) < (n : Int) := by omega
     go_wp2
     go_end0
     exact ⟨rfl, CC.out⟩
end
theorem table_With.row (xs : List S37) (g cap : Nat) (cur : Array Value) (W : World) (hc : W.heap[g]? = some (.cells cur 37 (0, 0))) (hx : table_With.Cells cur xs) : RowK table_With.enc 6 W g 0 xs.toArray where
 hk := fun x => rfl
 h1 := fun x v hv => by
  simp only [table_With.enc, List.mem_cons, List.mem_nil_iff, or_false] at hv
  rcases hv with rfl | rfl | rfl | rfl | rfl | rfl <;> rfl
 hH := fun j hj => by
  have hj2 : j < xs.length * 6 := by simpa using hj
  rw [Nat.zero_add]
  refine ⟨?_, bf_ hc j⟩
  rw [bc_ hc j, hx j hj2, Go.Sort.get_flatK _ _ _ _ (by simpa using hj2)]
  rfl
 hblk := (Array.getElem?_eq_some_iff.1 hc).1
set_option maxHeartbeats 8000000 in
set_option maxRecDepth 100000 in
theorem table_With.sortw (xs : List S37) (g cap : Nat) (cur : Array Value) (W : World) (hc : W.heap[g]? = some (.cells cur 37 (0, 0))) (hcap : xs.length ≤ cap) (hs : cur.size = cap * 6) (hx : table_With.Cells cur xs) (hn : xs.length < 1152921504606846976) (hn0 : 0 < xs.length) :
  Calls Try.prog 52 #[.slice (some ⟨g, 0, none⟩) xs.length cap, .func (.func 53) #[] #[]] W fun e w' => e = .returned (.tuple #[]) ∧ ∃ ys : List S37, ys.length = xs.length ∧ table_With.Done W g cap ys w' := by
 have eg : ∀ args w, (callFunc 53 args).run Try.prog w = .ok (.enter 53 args) w := enters_of Try.func53 (by kernel_rfl) rfl
 have hI := am_ (show Calls Try.prog 79 #[.slice (some ⟨g, 0, none⟩) xs.length cap, .int .i64 xs.length, .func (.func 53) #[] #[]] W fun e w' => e = .returned (.tuple #[]) ∧ ∃ ys : List S37, ys.length = xs.length ∧ table_With.Done W g cap ys w' from
  (table_With.stabR table_With.lw (fun w => by kernel_rfl) (fun w => by kernel_rfl) table_With.lays table_With.cf 53 #[] xs.length cap (table_With.row xs g cap cur W hc hx) (by simp) hn0 hn eg (fun x y W => table_With.cmp x y W)).mono (by
   rintro e w' ⟨rfl, dk, hdk, m, os, rfl⟩
   exact ⟨rfl, dk.toList, by rw [Array.length_toList]; exact hdk, table_With.done hc (by omega) hs⟩))
 clear hc hs hx eg
 go_enter Try.func52, Try.ntmps52
 go_wp2_with (first | (go_at_call 79; refine hI.out.mono ?_; rintro e w' ⟨rfl, hd⟩))
 go_end0
 exact ⟨rfl, hd⟩
set_option maxHeartbeats 8000000 in
set_option maxRecDepth 100000 in
theorem table_With.stable (xs : List S37) (g cap : Nat) (cur : Array Value) (W : World) (hc : W.heap[g]? = some (.cells cur 37 (0, 0))) (hcap : xs.length ≤ cap) (hs : cur.size = cap * 6) (hx : table_With.Cells cur xs) (hn : xs.length ≤ 19) (hn0 : 0 < xs.length) :
  Calls Try.prog 79 #[.slice (some ⟨g, 0, none⟩) xs.length cap, .int .i64 xs.length, .func (.func 53) #[] #[]] W fun e w' => e = .returned (.tuple #[]) ∧ table_With.Done W g cap (table_With.srt xs) w' := by
 have eg : ∀ args w, (callFunc 53 args).run Try.prog w = .ok (.enter 53 args) w := enters_of Try.func53 (by kernel_rfl) rfl
 have hH : Go.Sort.HoldsK table_With.enc 6 W g 0 xs.toArray := fun j hj => by
  have hj2 : j < xs.length * 6 := by simpa using hj
  rw [Nat.zero_add]
  refine ⟨?_, bf_ hc j⟩
  rw [bc_ hc j, hx j hj2, Go.Sort.get_flatK _ _ _ _ (by simpa using hj2)]
  rfl
 have hI := AnyQ.insertionSortCmpFunc table_With.lays 6 (fun w => by kernel_rfl) (fun w => by kernel_rfl) table_With.enc (fun x => rfl) (fun x v hv => by
  simp only [table_With.enc, List.mem_cons, List.mem_nil_iff, or_false] at hv
  rcases hv with rfl | rfl | rfl | rfl | rfl | rfl <;> rfl) table_With.cf 53 #[] g 0 cap 0 xs.length xs.toArray W eg (fun m os dk _ x y => table_With.cmp x y _) hH (Array.getElem?_eq_some_iff.1 hc).1 (Nat.zero_le _) (by simp) (by simp; omega)
 have hD : ∀ m os, table_With.Done W g cap (table_With.srt xs) (sortWorldK table_With.enc 6 W g 0 m (Go.Sort.insertionSort (ltOf table_With.cf) xs.toArray 0 xs.length) os) := fun m os => by
  have e : Go.Sort.insertionSort (ltOf table_With.cf) xs.toArray 0 xs.length = table_With.outer (ltOf table_With.cf) (xs.length - 1) 1 xs.toArray := table_With.outer_eq _ _ 1 _ _ (by omega)
  rw [e]
  exact table_With.done hc (by rw [table_With.size_outer]; simpa using hcap) hs
 replace hI := am_ (show Calls Try.prog 93 #[.slice (some ⟨g, 0, none⟩) xs.length cap, .int .i64 0, .int .i64 xs.length, .func (.func 53) #[] #[]] W fun e w' => e = .returned (.tuple #[]) ∧ table_With.Done W g cap (table_With.srt xs) w' from hI.mono (by
  rintro e w' ⟨rfl, m, os, rfl⟩
  exact ⟨rfl, hD m os⟩))
 clear hD hH eg hc hx hs
 have d1 : decide ((20 : Int) ≤ (xs.length : Int)) = false := decide_eq_false (by omega)
 have d2 : decide ((20 : Int) < (xs.length : Int)) = false := decide_eq_false (by omega)
 go_enter Try.func79, Try.ntmps79
 go_wp2
 refine wp_loop_rounds 1 ?_
 rw [rounds_succ]
 go_wp2_with (first | (go_at_call 93; refine hI.out.mono ?_; rintro e w' ⟨rfl, hd⟩))
 refine wp_loop_rounds 1 ?_
 rw [rounds_succ]
 go_wp2
 go_end0
 exact ⟨rfl, hd⟩
set_option maxHeartbeats 8000000 in
set_option maxRecDepth 100000 in
theorem table_With.sort (xs : List S37) (g cap : Nat) (cur : Array Value) (W : World) (hc : W.heap[g]? = some (.cells cur 37 (0, 0))) (hcap : xs.length ≤ cap) (hs : cur.size = cap * 6) (hx : table_With.Cells cur xs) (hn : xs.length ≤ 19) (hn0 : 0 < xs.length) :
  Calls Try.prog 52 #[.slice (some ⟨g, 0, none⟩) xs.length cap, .func (.func 53) #[] #[]] W fun e w' => e = .returned (.tuple #[]) ∧ table_With.Done W g cap (table_With.srt xs) w' := by
 have hI := am_ (table_With.stable xs g cap cur W hc hcap hs hx hn hn0)
 clear hc hs hx
 go_enter Try.func52, Try.ntmps52
 go_wp2_with (first | (go_at_call 79; refine hI.out.mono ?_; rintro e w' ⟨rfl, hd⟩))
 go_end0
 exact ⟨rfl, hd⟩
theorem table_With.nil1 (c : Nat) (w : World) : (binOp .eql 27 (.slice none 0 c) (.slice none 0 0)).run Try.prog w = .ok (.bool true) w := by kernel_rfl
theorem table_With.nil2 (ad : Addr) (n c : Nat) (w : World) : (binOp .eql 27 (.slice (some ad) n c) (.slice none 0 0)).run Try.prog w = .ok (.bool false) w := by kernel_rfl
theorem table_With.info : (Try.prog.info? 37).map (fun i => (i.zero, i.size, i.bytes)) = some (some (.agg #[.int .i64 0, .int .i64 0, .string ⟨#[]⟩, .int .i64 0, .string ⟨#[]⟩, .bool false]), 6, 64) := by kernel_rfl
set_option maxHeartbeats 8000000 in
set_option maxRecDepth 100000 in
theorem table_With.clone (A0 : Option Addr) (c0 : Nat) (l0 : List (S37)) (w : World) (hr0 : Kd.C k37 w A0 l0.length l0) (hc0 : l0.length ≤ c0) (hs : l0.length ≤ 2199023255488) :
  Calls Try.prog 50 #[.slice A0 l0.length c0] w fun e w' => ∃ v : Value, e = .returned v ∧ Kd.R k37 37 w' w.heap.size (fun _ => True) v l0 ∧ Below w.heap.size w w' := by
 have HR := am_ hr0
 have HC := am_ hc0
 cases A0 with
 | none =>
  have hn : l0 = [] := by
   cases l0 with
   | nil => rfl
   | cons x r =>
    obtain ⟨ad, e, _⟩ := hr0.2.2 (by simp)
    cases e
  clear hr0 hc0
  subst hn
  have he := table_With.nil1 c0
  go_enter Try.func50, Try.ntmps50
  go_wp2
  go_ret
  exact ⟨_, rfl, Kd.R_nil _ _ _ _ _, Below.refl _ _⟩
 | some ad =>
  clear hr0 hc0
  have he := table_With.nil2 ad l0.length c0
  go_enter Try.func50, Try.ntmps50
  go_wp2_with (first
   | ((with_reducible refine gate_dst (N := 5) rfl ?_); refine Kd.R_lit k37 _ 37 ?hg (N := 5) ?hd (xs := ([] : List S37)) (inner := []) (ok := fun _ => True) (okp := fun _ => True) ?hr ?hp (fun _ hk => hk) trivial (Below.refl _ _) (Nat.le_refl _) (by simp) ?_; (case hd => rfl); (case hg => rfl); (case hr => first | (go_simp; done) | (go_simp; rfl)); (case hp => exact (Reps.none _ _)); intro v104 w5 ho6 hb hg_ hnew_; clear hg_ hnew_; have HO := am_ ho6; have HB := am_ hb; clear hb ho6)
   | ((with_reducible refine gate_builtin (b := .append) (xs := #[.tmp 5, .tmp 6]) rfl ?_); at_builtin; refine Kd.R_append_rows k37 (w0 := w) w.heap.size rfl (.tmp 5) (.tmp 6) 27 37 (.agg #[.int .i64 0, .int .i64 0, .string ⟨#[]⟩, .int .i64 0, .string ⟨#[]⟩, .bool false]) 64 rfl Try.underlying27 table_With.info rfl (by decide) (by omega) v104 [] l0 _ _ _ (fun _ => True) (fun _ => False) rfl rfl ?aO ?aR (fun _ _ h => h) (fun _ h => h.elim) ?aF ?aB ?aS ?aL ?_; (case aR => exact c4_ HR.out HB.out); (case aB => exact HB.out); (case aF => exact (fun _ _ => trivial)); (case aO => exact HO.out); (case aS => exact HB.out.size); (case aL => simp; omega); intro v107 w9 ho hb hg hat; rw [List.nil_append] at ho; clear hg hat))
  go_ret
  exact ⟨_, rfl, ho, hb⟩
theorem table_With.set_cells {cur : Array Value} {l0 : List S37} (hx : table_With.Cells cur l0) (ii : Nat) (hi : ii < l0.length) (hs : l0.length * 6 ≤ cur.size) (x : S37) :
  table_With.Cells ((((((cur.setIfInBounds (ii * 6) (.int .i64 x.f0)).setIfInBounds (ii * 6 + 1) (.int .i64 x.f1)).setIfInBounds (ii * 6 + 2) (.string x.f2)).setIfInBounds (ii * 6 + 3) (.int .i64 x.f3)).setIfInBounds (ii * 6 + 4) (.string x.f4)).setIfInBounds (ii * 6 + 5) (.bool x.f5)) (l0.set ii x) := by
 intro t ht
 rw [List.length_set] at ht
 have h0 := hx t ht
 have hj : t / 6 < l0.length := by omega
 by_cases e : t / 6 = ii
 ·have hg : (l0.set ii x).toArray[t / 6]! = x := by
   rw [table_With.get _ _ (by rw [List.length_set]; exact hj), List.getElem_set, if_pos e.symm]
  rw [hg]
  obtain ⟨r, hr, hr6⟩ : ∃ r, t = ii * 6 + r ∧ r < 6 := ⟨t - ii * 6, by omega, by omega⟩
  subst hr
  rw [show (ii * 6 + r) % 6 = r by omega]
  have hk : ii * 6 + 6 ≤ cur.size := by omega
  match r, hr6 with
  | 0, _ => (have h9 : ii * 6 < cur.size := (by omega)); simp [Array.getElem?_setIfInBounds, h9, table_With.enc]
  | 1, _ => (have h9 : ii * 6 + 1 < cur.size := (by omega)); simp [Array.getElem?_setIfInBounds, h9, table_With.enc]
  | 2, _ => (have h9 : ii * 6 + 2 < cur.size := (by omega)); simp [Array.getElem?_setIfInBounds, h9, table_With.enc]
  | 3, _ => (have h9 : ii * 6 + 3 < cur.size := (by omega)); simp [Array.getElem?_setIfInBounds, h9, table_With.enc]
  | 4, _ => (have h9 : ii * 6 + 4 < cur.size := (by omega)); simp [Array.getElem?_setIfInBounds, h9, table_With.enc]
  | 5, _ => (have h9 : ii * 6 + 5 < cur.size := (by omega)); simp [Array.getElem?_setIfInBounds, h9, table_With.enc]
  | q + 6, h => omega
 ·have hg : (l0.set ii x).toArray[t / 6]! = l0.toArray[t / 6]! := by
   rw [table_With.get _ _ (by rw [List.length_set]; exact hj), table_With.get _ _ hj, List.getElem_set, if_neg (fun h => e h.symm)]
  rw [hg, ← h0]
  simp only [Array.getElem?_setIfInBounds, Array.size_setIfInBounds]
  rw [if_neg (by omega), if_neg (by omega), if_neg (by omega), if_neg (by omega), if_neg (by omega), if_neg (by omega)]
/-- what leaves become with one more. -/
def table_With.out (l0 : List S37) (x : S37) : List S37 := if table_at.idx (fun y => y.f0 == x.f0) l0 ≥ 0 then l0.set (table_at.idx (fun y => y.f0 == x.f0) l0).toNat x else table_With.srt (l0 ++ [x])
def table_With.f (l0 : List S37) (a1_0 : Int) (a1_1 : Int) (a1_2 : ByteArray) (a1_3 : Int) (a1_4 : ByteArray) (a1_5 : Bool) : Option (List S37 × Int) :=
 if l0.length ≤ 2199023255488 then ((table_May_c.f l0).bind fun m => if m = true then ((table_May_c.f (table_With.out l0 (⟨a1_0, a1_1, a1_2, a1_3, a1_4, a1_5⟩ : S37))).bind fun q => if q = true then some (table_With.out l0 (⟨a1_0, a1_1, a1_2, a1_3, a1_4, a1_5⟩ : S37), 0) else some ([], 1300)) else some ([], 1300)) else none
set_option maxHeartbeats 8000000 in
set_option maxRecDepth 100000 in
theorem table_With.calls (A0 : Option Addr) (c0 : Nat) (l0 : List (S37)) (a1_0 : Int) (a1_1 : Int) (a1_2 : ByteArray) (a1_3 : Int) (a1_4 : ByteArray) (a1_5 : Bool) (r1 : List (S37)) (r2 : Int) (w : World) (hr0 : Kd.C k37 w A0 l0.length l0) (hc0 : l0.length ≤ c0) (h : table_With.f l0 a1_0 a1_1 a1_2 a1_3 a1_4 a1_5 = some (r1, r2)) :
  Calls Try.prog 18 #[.slice A0 l0.length c0, .agg #[.int .i64 a1_0, .int .i64 a1_1, .string a1_2, .int .i64 a1_3, .string a1_4, .bool a1_5]] w fun e w' => ∃ v0_ : Value, e = .returned (.tuple #[v0_, .int .i64 r2]) ∧ Kd.R k37 37 w' w.heap.size (fun _ => True) v0_ r1 ∧ Below w.heap.size w w' := by
 have HR := am_ hr0
 have HC := am_ hc0
 clear hr0 hc0
 unfold table_With.f at h
 by_cases hs : l0.length ≤ 2199023255488
 rotate_left
 ·rw [if_neg hs] at h
  cases h
 rw [if_pos hs] at h
 replace h := Option.bind_eq_some_iff.1 h
 obtain ⟨m, hm, h⟩ := h
 have HM := am_ (fun W hr => table_May_c.calls A0 c0 l0 m W hr HC.out hm)
 have h18 : m = true → l0.length ≤ 18 := by
  rintro rfl
  unfold table_May_c.f at hm
  by_cases q : tabFit l0
  ·rw [if_pos q] at hm
   have h3 := e5_ hm
   unfold tableB at h3
   rw [Bool.and_eq_true, decide_eq_true_eq] at h3
   omega
  ·rw [if_neg q] at hm
   cases hm
 clear hm
 have HCL := am_ (fun W hr => table_With.clone A0 c0 l0 W hr HC.out (by omega))
 have HAT := am_ (fun W hr => table_at.calls A0 c0 l0 a1_0 (table_at.idx (fun y => y.f0 == a1_0) l0) W hr HC.out (by unfold table_at.f; rw [if_pos (by omega)]))
 unfold table_With.out at h
 by_cases hi : table_at.idx (fun y => y.f0 == a1_0) l0 ≥ 0
 ·rw [if_pos (show table_at.idx (fun y => y.f0 == ((⟨a1_0, a1_1, a1_2, a1_3, a1_4, a1_5⟩ : S37)).f0) l0 ≥ 0 from hi)] at h
  have hlt := (table_at.idx_lt (fun y => y.f0 == a1_0) l0).1
  replace h : ((if m = true then ((table_May_c.f (l0.set (table_at.idx (fun y => y.f0 == a1_0) l0).toNat (⟨a1_0, a1_1, a1_2, a1_3, a1_4, a1_5⟩ : S37))).bind fun q => if q = true then some (l0.set (table_at.idx (fun y => y.f0 == a1_0) l0).toNat (⟨a1_0, a1_1, a1_2, a1_3, a1_4, a1_5⟩ : S37), (0 : Int)) else some ([], 1300)) else some ([], 1300)) : Option (List S37 × Int)) = some (r1, r2) := h
  obtain ⟨ii, hii⟩ : ∃ ii : Nat, table_at.idx (fun y => y.f0 == a1_0) l0 = (ii : Int) := ⟨(table_at.idx (fun y => y.f0 == a1_0) l0).toNat, by omega⟩
  rw [hii] at h hlt
  rw [hii] at HAT
  rw [Int.toNat_natCast] at h
  have hib : decide ((0 : Int) ≤ (ii : Int)) = true := decide_eq_true (by omega)
  have hil : ii < l0.length := by omega
  have hilz : (ii : Int) < (l0.length : Int) := hlt
  clear hi hii hlt
  cases m with
  | false =>
   rw [if_neg (by decide)] at h
   simp only [Option.some.injEq, Prod.mk.injEq] at h
   obtain ⟨rfl, rfl⟩ := h
   go_enter Try.func18, Try.ntmps18
   go_wp2_with (first
    | (go_at_call 50; refine (HCL.out _ (c4_ HR.out (p3_ (Below.refl _ _) _))).mono ?_; rintro e w1 ⟨v, rfl, hv, hb1⟩; have HV := am_ (Kd.R_lower hv (show w.heap.size ≤ _ by first | (simp; done) | exact Nat.le_succ _)); have HVB := am_ hv; have E1 := am_ (kb_ (blk_new w (.cells #[.int .i64 a1_0, .int .i64 a1_1, .string a1_2, .int .i64 a1_3, .string a1_4, .bool a1_5] 37)) hb1); have HB := am_ (bt_ (p3_ (Below.refl _ _) _) hb1); have u0 := bc_ E1.out 0; clear hb1 hv)
    | (go_at_call 51; refine (HAT.out _ (c4_ HR.out HB.out)).mono ?_; rintro e w2 ⟨rfl, hb2⟩; have HVB2 := Kd.R_below HVB.out hb2; have E2 := am_ (kb_ E1.out hb2); have HB2 := am_ (bt_ HB.out hb2); have x0 := bc_ E2.out 0; have x1 := bc_ E2.out 1; have x2 := bc_ E2.out 2; have x3 := bc_ E2.out 3; have x4 := bc_ E2.out 4; have x5 := bc_ E2.out 5; obtain ⟨g, cap, rfl, hbg, _, _⟩ := Kd.R_form HVB2 (by omega); obtain ⟨cur, hc, _, hcap, hmx, hsz, _, _, hx⟩ := table_With.cells_of HVB2; have hbg0 : w.heap.size ≤ g := Nat.le_trans (by first | (simp; done) | exact Nat.le_succ _) hbg; have hgne : w.heap.size ≠ g := Nat.ne_of_lt (Nat.lt_of_lt_of_le (by simp) hbg); have y0 := bc_ hc (ii * 6); have yh0 := hx (ii * 6 + 0) (by omega); have z0 := bf_ hc (ii * 6); have y1 := bc_ hc (ii * 6 + 1); have yh1 := hx (ii * 6 + 1) (by omega); have z1 := bf_ hc (ii * 6 + 1); have y2 := bc_ hc (ii * 6 + 2); have yh2 := hx (ii * 6 + 2) (by omega); have z2 := bf_ hc (ii * 6 + 2); have y3 := bc_ hc (ii * 6 + 3); have yh3 := hx (ii * 6 + 3) (by omega); have z3 := bf_ hc (ii * 6 + 3); have y4 := bc_ hc (ii * 6 + 4); have yh4 := hx (ii * 6 + 4) (by omega); have z4 := bf_ hc (ii * 6 + 4); have y5 := bc_ hc (ii * 6 + 5); have yh5 := hx (ii * 6 + 5) (by omega); have z5 := bf_ hc (ii * 6 + 5); rw [Nat.add_zero] at yh0; rw [yh0] at y0; rw [yh1] at y1; rw [yh2] at y2; rw [yh3] at y3; rw [yh4] at y4; rw [yh5] at y5; clear yh0 yh1 yh2 yh3 yh4 yh5; have HC3 := am_ (blk_set (blk_set (blk_set (blk_set (blk_set (blk_set hc (ii * 6) (.int .i64 a1_0)) (ii * 6 + 1) (.int .i64 a1_1)) (ii * 6 + 2) (.string a1_2)) (ii * 6 + 3) (.int .i64 a1_3)) (ii * 6 + 4) (.string a1_4)) (ii * 6 + 5) (.bool a1_5)); have HX3 := am_ (table_With.set_cells hx ii hil (by omega) (⟨a1_0, a1_1, a1_2, a1_3, a1_4, a1_5⟩ : S37)); have HB4 := am_ (show Below w.heap.size w ((((((w2.setCell ⟨g, ii * 6, none⟩ (.int .i64 a1_0)).setCell ⟨g, ii * 6 + 1, none⟩ (.int .i64 a1_1)).setCell ⟨g, ii * 6 + 2, none⟩ (.string a1_2)).setCell ⟨g, ii * 6 + 3, none⟩ (.int .i64 a1_3)).setCell ⟨g, ii * 6 + 4, none⟩ (.string a1_4)).setCell ⟨g, ii * 6 + 5, none⟩ (.bool a1_5)) from ((((((HB2.out.setCell hbg0 _).setCell hbg0 _).setCell hbg0 _).setCell hbg0 _).setCell hbg0 _).setCell hbg0 _)); have HV4 := am_ (show Kd.R k37 37 ((((((w2.setCell ⟨g, ii * 6, none⟩ (.int .i64 a1_0)).setCell ⟨g, ii * 6 + 1, none⟩ (.int .i64 a1_1)).setCell ⟨g, ii * 6 + 2, none⟩ (.string a1_2)).setCell ⟨g, ii * 6 + 3, none⟩ (.int .i64 a1_3)).setCell ⟨g, ii * 6 + 4, none⟩ (.string a1_4)).setCell ⟨g, ii * 6 + 5, none⟩ (.bool a1_5)) w.heap.size (fun _ => True) (.slice (some ⟨g, 0, none⟩) l0.length cap) (l0.set ii (⟨a1_0, a1_1, a1_2, a1_3, a1_4, a1_5⟩ : S37)) from table_With.of_cells HC3.out (List.length_set).symm hcap hmx (by simpa using hsz) hbg0 trivial HX3.out); have HN := am_ hcap; clear hb2 HVB2 hx hc hcap hmx hsz hbg HC3 HX3)
    | (go_at_call 25; with_reducible refine (HM.out _ (c4_ HR.out HB4.out)).mono ?_; rintro e w5 ⟨rfl, hb5⟩; have HB5 := am_ (bt_ HB4.out hb5); have HV5 := am_ (Kd.R_below HV4.out hb5); clear hb5))
   go_ret2
   exact ⟨_, rfl, Kd.R_nil _ _ _ _ _, HB5.out⟩
  | true =>
   replace h18 := h18 rfl
   rw [if_pos rfl] at h
   replace h := Option.bind_eq_some_iff.1 h
   obtain ⟨q, hq, h⟩ := h
   have HQ := am_ (show ∀ (W : World) (A : Option Addr) (c : Nat), Kd.C k37 W A l0.length (l0.set ii (⟨a1_0, a1_1, a1_2, a1_3, a1_4, a1_5⟩ : S37)) → l0.length ≤ c → Calls Try.prog 25 #[.slice A l0.length c] W fun e w' => e = .returned (.bool q) ∧ Below W.heap.size W w' from fun W A c hr hc => by
    have := table_May_c.calls A c (l0.set ii (⟨a1_0, a1_1, a1_2, a1_3, a1_4, a1_5⟩ : S37)) q W (by rw [List.length_set]; exact hr) (by rw [List.length_set]; exact hc) hq
    rw [List.length_set] at this
    exact this)
   clear hq
   cases q with
   | false =>
    rw [if_neg (by decide)] at h
    simp only [Option.some.injEq, Prod.mk.injEq] at h
    obtain ⟨rfl, rfl⟩ := h
    go_enter Try.func18, Try.ntmps18
    go_wp2_with (first
     | (go_at_call 50; refine (HCL.out _ (c4_ HR.out (p3_ (Below.refl _ _) _))).mono ?_; rintro e w1 ⟨v, rfl, hv, hb1⟩; have HV := am_ (Kd.R_lower hv (show w.heap.size ≤ _ by first | (simp; done) | exact Nat.le_succ _)); have HVB := am_ hv; have E1 := am_ (kb_ (blk_new w (.cells #[.int .i64 a1_0, .int .i64 a1_1, .string a1_2, .int .i64 a1_3, .string a1_4, .bool a1_5] 37)) hb1); have HB := am_ (bt_ (p3_ (Below.refl _ _) _) hb1); have u0 := bc_ E1.out 0; clear hb1 hv)
     | (go_at_call 51; refine (HAT.out _ (c4_ HR.out HB.out)).mono ?_; rintro e w2 ⟨rfl, hb2⟩; have HVB2 := Kd.R_below HVB.out hb2; have E2 := am_ (kb_ E1.out hb2); have HB2 := am_ (bt_ HB.out hb2); have x0 := bc_ E2.out 0; have x1 := bc_ E2.out 1; have x2 := bc_ E2.out 2; have x3 := bc_ E2.out 3; have x4 := bc_ E2.out 4; have x5 := bc_ E2.out 5; obtain ⟨g, cap, rfl, hbg, _, _⟩ := Kd.R_form HVB2 (by omega); obtain ⟨cur, hc, _, hcap, hmx, hsz, _, _, hx⟩ := table_With.cells_of HVB2; have hbg0 : w.heap.size ≤ g := Nat.le_trans (by first | (simp; done) | exact Nat.le_succ _) hbg; have hgne : w.heap.size ≠ g := Nat.ne_of_lt (Nat.lt_of_lt_of_le (by simp) hbg); have y0 := bc_ hc (ii * 6); have yh0 := hx (ii * 6 + 0) (by omega); have z0 := bf_ hc (ii * 6); have y1 := bc_ hc (ii * 6 + 1); have yh1 := hx (ii * 6 + 1) (by omega); have z1 := bf_ hc (ii * 6 + 1); have y2 := bc_ hc (ii * 6 + 2); have yh2 := hx (ii * 6 + 2) (by omega); have z2 := bf_ hc (ii * 6 + 2); have y3 := bc_ hc (ii * 6 + 3); have yh3 := hx (ii * 6 + 3) (by omega); have z3 := bf_ hc (ii * 6 + 3); have y4 := bc_ hc (ii * 6 + 4); have yh4 := hx (ii * 6 + 4) (by omega); have z4 := bf_ hc (ii * 6 + 4); have y5 := bc_ hc (ii * 6 + 5); have yh5 := hx (ii * 6 + 5) (by omega); have z5 := bf_ hc (ii * 6 + 5); rw [Nat.add_zero] at yh0; rw [yh0] at y0; rw [yh1] at y1; rw [yh2] at y2; rw [yh3] at y3; rw [yh4] at y4; rw [yh5] at y5; clear yh0 yh1 yh2 yh3 yh4 yh5; have HC3 := am_ (blk_set (blk_set (blk_set (blk_set (blk_set (blk_set hc (ii * 6) (.int .i64 a1_0)) (ii * 6 + 1) (.int .i64 a1_1)) (ii * 6 + 2) (.string a1_2)) (ii * 6 + 3) (.int .i64 a1_3)) (ii * 6 + 4) (.string a1_4)) (ii * 6 + 5) (.bool a1_5)); have HX3 := am_ (table_With.set_cells hx ii hil (by omega) (⟨a1_0, a1_1, a1_2, a1_3, a1_4, a1_5⟩ : S37)); have HB4 := am_ (show Below w.heap.size w ((((((w2.setCell ⟨g, ii * 6, none⟩ (.int .i64 a1_0)).setCell ⟨g, ii * 6 + 1, none⟩ (.int .i64 a1_1)).setCell ⟨g, ii * 6 + 2, none⟩ (.string a1_2)).setCell ⟨g, ii * 6 + 3, none⟩ (.int .i64 a1_3)).setCell ⟨g, ii * 6 + 4, none⟩ (.string a1_4)).setCell ⟨g, ii * 6 + 5, none⟩ (.bool a1_5)) from ((((((HB2.out.setCell hbg0 _).setCell hbg0 _).setCell hbg0 _).setCell hbg0 _).setCell hbg0 _).setCell hbg0 _)); have HV4 := am_ (show Kd.R k37 37 ((((((w2.setCell ⟨g, ii * 6, none⟩ (.int .i64 a1_0)).setCell ⟨g, ii * 6 + 1, none⟩ (.int .i64 a1_1)).setCell ⟨g, ii * 6 + 2, none⟩ (.string a1_2)).setCell ⟨g, ii * 6 + 3, none⟩ (.int .i64 a1_3)).setCell ⟨g, ii * 6 + 4, none⟩ (.string a1_4)).setCell ⟨g, ii * 6 + 5, none⟩ (.bool a1_5)) w.heap.size (fun _ => True) (.slice (some ⟨g, 0, none⟩) l0.length cap) (l0.set ii (⟨a1_0, a1_1, a1_2, a1_3, a1_4, a1_5⟩ : S37)) from table_With.of_cells HC3.out (List.length_set).symm hcap hmx (by simpa using hsz) hbg0 trivial HX3.out); have HN := am_ hcap; clear hb2 HVB2 hx hc hcap hmx hsz hbg HC3 HX3)
     | (go_at_call 25; with_reducible refine (HM.out _ (c4_ HR.out HB4.out)).mono ?_; rintro e w5 ⟨rfl, hb5⟩; have HB5 := am_ (bt_ HB4.out hb5); have HV5 := am_ (Kd.R_below HV4.out hb5); clear hb5)
     | (go_at_call 25; with_reducible refine (HQ.out _ _ _ (by have := (Kd.R_reads' HV5.out).2.2; rw [List.length_set] at this; exact this) HN.out).mono ?_; rintro e w6 ⟨rfl, hb6⟩; have HB6 := am_ (bt_ HB5.out hb6); have HV6 := am_ (Kd.R_below HV5.out hb6); clear hb6))
    go_ret2
    exact ⟨_, rfl, Kd.R_nil _ _ _ _ _, HB6.out⟩
   | true =>
    rw [if_pos rfl] at h
    simp only [Option.some.injEq, Prod.mk.injEq] at h
    obtain ⟨rfl, rfl⟩ := h
    go_enter Try.func18, Try.ntmps18
    go_wp2_with (first
     | (go_at_call 50; refine (HCL.out _ (c4_ HR.out (p3_ (Below.refl _ _) _))).mono ?_; rintro e w1 ⟨v, rfl, hv, hb1⟩; have HV := am_ (Kd.R_lower hv (show w.heap.size ≤ _ by first | (simp; done) | exact Nat.le_succ _)); have HVB := am_ hv; have E1 := am_ (kb_ (blk_new w (.cells #[.int .i64 a1_0, .int .i64 a1_1, .string a1_2, .int .i64 a1_3, .string a1_4, .bool a1_5] 37)) hb1); have HB := am_ (bt_ (p3_ (Below.refl _ _) _) hb1); have u0 := bc_ E1.out 0; clear hb1 hv)
     | (go_at_call 51; refine (HAT.out _ (c4_ HR.out HB.out)).mono ?_; rintro e w2 ⟨rfl, hb2⟩; have HVB2 := Kd.R_below HVB.out hb2; have E2 := am_ (kb_ E1.out hb2); have HB2 := am_ (bt_ HB.out hb2); have x0 := bc_ E2.out 0; have x1 := bc_ E2.out 1; have x2 := bc_ E2.out 2; have x3 := bc_ E2.out 3; have x4 := bc_ E2.out 4; have x5 := bc_ E2.out 5; obtain ⟨g, cap, rfl, hbg, _, _⟩ := Kd.R_form HVB2 (by omega); obtain ⟨cur, hc, _, hcap, hmx, hsz, _, _, hx⟩ := table_With.cells_of HVB2; have hbg0 : w.heap.size ≤ g := Nat.le_trans (by first | (simp; done) | exact Nat.le_succ _) hbg; have hgne : w.heap.size ≠ g := Nat.ne_of_lt (Nat.lt_of_lt_of_le (by simp) hbg); have y0 := bc_ hc (ii * 6); have yh0 := hx (ii * 6 + 0) (by omega); have z0 := bf_ hc (ii * 6); have y1 := bc_ hc (ii * 6 + 1); have yh1 := hx (ii * 6 + 1) (by omega); have z1 := bf_ hc (ii * 6 + 1); have y2 := bc_ hc (ii * 6 + 2); have yh2 := hx (ii * 6 + 2) (by omega); have z2 := bf_ hc (ii * 6 + 2); have y3 := bc_ hc (ii * 6 + 3); have yh3 := hx (ii * 6 + 3) (by omega); have z3 := bf_ hc (ii * 6 + 3); have y4 := bc_ hc (ii * 6 + 4); have yh4 := hx (ii * 6 + 4) (by omega); have z4 := bf_ hc (ii * 6 + 4); have y5 := bc_ hc (ii * 6 + 5); have yh5 := hx (ii * 6 + 5) (by omega); have z5 := bf_ hc (ii * 6 + 5); rw [Nat.add_zero] at yh0; rw [yh0] at y0; rw [yh1] at y1; rw [yh2] at y2; rw [yh3] at y3; rw [yh4] at y4; rw [yh5] at y5; clear yh0 yh1 yh2 yh3 yh4 yh5; have HC3 := am_ (blk_set (blk_set (blk_set (blk_set (blk_set (blk_set hc (ii * 6) (.int .i64 a1_0)) (ii * 6 + 1) (.int .i64 a1_1)) (ii * 6 + 2) (.string a1_2)) (ii * 6 + 3) (.int .i64 a1_3)) (ii * 6 + 4) (.string a1_4)) (ii * 6 + 5) (.bool a1_5)); have HX3 := am_ (table_With.set_cells hx ii hil (by omega) (⟨a1_0, a1_1, a1_2, a1_3, a1_4, a1_5⟩ : S37)); have HB4 := am_ (show Below w.heap.size w ((((((w2.setCell ⟨g, ii * 6, none⟩ (.int .i64 a1_0)).setCell ⟨g, ii * 6 + 1, none⟩ (.int .i64 a1_1)).setCell ⟨g, ii * 6 + 2, none⟩ (.string a1_2)).setCell ⟨g, ii * 6 + 3, none⟩ (.int .i64 a1_3)).setCell ⟨g, ii * 6 + 4, none⟩ (.string a1_4)).setCell ⟨g, ii * 6 + 5, none⟩ (.bool a1_5)) from ((((((HB2.out.setCell hbg0 _).setCell hbg0 _).setCell hbg0 _).setCell hbg0 _).setCell hbg0 _).setCell hbg0 _)); have HV4 := am_ (show Kd.R k37 37 ((((((w2.setCell ⟨g, ii * 6, none⟩ (.int .i64 a1_0)).setCell ⟨g, ii * 6 + 1, none⟩ (.int .i64 a1_1)).setCell ⟨g, ii * 6 + 2, none⟩ (.string a1_2)).setCell ⟨g, ii * 6 + 3, none⟩ (.int .i64 a1_3)).setCell ⟨g, ii * 6 + 4, none⟩ (.string a1_4)).setCell ⟨g, ii * 6 + 5, none⟩ (.bool a1_5)) w.heap.size (fun _ => True) (.slice (some ⟨g, 0, none⟩) l0.length cap) (l0.set ii (⟨a1_0, a1_1, a1_2, a1_3, a1_4, a1_5⟩ : S37)) from table_With.of_cells HC3.out (List.length_set).symm hcap hmx (by simpa using hsz) hbg0 trivial HX3.out); have HN := am_ hcap; clear hb2 HVB2 hx hc hcap hmx hsz hbg HC3 HX3)
     | (go_at_call 25; with_reducible refine (HM.out _ (c4_ HR.out HB4.out)).mono ?_; rintro e w5 ⟨rfl, hb5⟩; have HB5 := am_ (bt_ HB4.out hb5); have HV5 := am_ (Kd.R_below HV4.out hb5); clear hb5)
     | (go_at_call 25; with_reducible refine (HQ.out _ _ _ (by have := (Kd.R_reads' HV5.out).2.2; rw [List.length_set] at this; exact this) HN.out).mono ?_; rintro e w6 ⟨rfl, hb6⟩; have HB6 := am_ (bt_ HB5.out hb6); have HV6 := am_ (Kd.R_below HV5.out hb6); clear hb6))
    go_ret2
    exact ⟨_, rfl, HV6.out, HB6.out⟩
 ·have hi2 : ¬ (table_at.idx (fun y => y.f0 == ((⟨a1_0, a1_1, a1_2, a1_3, a1_4, a1_5⟩ : S37)).f0) l0 ≥ 0) := hi
  rw [if_neg hi2] at h
  have hib : decide ((0 : Int) ≤ table_at.idx (fun y => y.f0 == a1_0) l0) = false := decide_eq_false hi
  clear hi hi2
  generalize table_at.idx (fun y => y.f0 == a1_0) l0 = i at HAT hib
  obtain ⟨xs, hxs⟩ : ∃ xs, l0 ++ [(⟨a1_0, a1_1, a1_2, a1_3, a1_4, a1_5⟩ : S37)] = xs := ⟨_, rfl⟩
  rw [hxs] at h
  have HXL := am_ (show xs.length = l0.length + 1 by rw [← hxs]; simp)
  cases m with
  | false =>
   rw [if_neg (by decide)] at h
   simp only [Option.some.injEq, Prod.mk.injEq] at h
   obtain ⟨rfl, rfl⟩ := h
   go_enter Try.func18, Try.ntmps18
   go_wp2_with (first
    | (go_at_call 50; refine (HCL.out _ (c4_ HR.out (p3_ (Below.refl _ _) _))).mono ?_; rintro e w1 ⟨v, rfl, hv, hb1⟩; have HV := am_ (Kd.R_lower hv (show w.heap.size ≤ _ by first | (simp; done) | exact Nat.le_succ _)); have HVB := am_ hv; have E1 := am_ (kb_ (blk_new w (.cells #[.int .i64 a1_0, .int .i64 a1_1, .string a1_2, .int .i64 a1_3, .string a1_4, .bool a1_5] 37)) hb1); have HB := am_ (bt_ (p3_ (Below.refl _ _) _) hb1); have u0 := bc_ E1.out 0; clear hb1 hv)
    | (go_at_call 51; refine (HAT.out _ (c4_ HR.out HB.out)).mono ?_; rintro e w2 ⟨rfl, hb2⟩; have HV2 := am_ (Kd.R_below HV.out hb2); have HVB2 := am_ (Kd.R_below HVB.out hb2); have E2 := am_ (kb_ E1.out hb2); have HB2 := am_ (bt_ HB.out hb2); have x0 := bc_ E2.out 0; have x1 := bc_ E2.out 1; have x2 := bc_ E2.out 2; have x3 := bc_ E2.out 3; have x4 := bc_ E2.out 4; have x5 := bc_ E2.out 5; clear hb2)
    | ((with_reducible refine gate_builtin (b := .append) (xs := #[.tmp 20, .tmp 22]) rfl ?_); at_builtin; refine Kd.R_append k37 (w0 := w) w.heap.size rfl (.tmp 20) (.tmp 22) 27 37 (.agg #[.int .i64 0, .int .i64 0, .string ⟨#[]⟩, .int .i64 0, .string ⟨#[]⟩, .bool false]) 64 rfl Try.underlying27 table_With.info rfl (by decide) (by omega) v l0 (⟨a1_0, a1_1, a1_2, a1_3, a1_4, a1_5⟩ : S37) [.int .i64 a1_0, .int .i64 a1_1, .string a1_2, .int .i64 a1_3, .string a1_4, .bool a1_5] (fun _ => True) (fun _ => False) rfl rfl ?aP (fun _ hk => hk.elim) ?aF ?aO ?aB ?aS ?aL ?_; (case aP => exact k37_mkM _ _ _ (⟨a1_0, a1_1, a1_2, a1_3, a1_4, a1_5⟩ : S37)); (case aF => exact fun _ _ => trivial); (case aO => exact HV2.out); (case aB => exact HB2.out); (case aS => exact HB2.out.size); (case aL => omega); intro v1 w3 ho hb hg hat; rw [hxs] at ho; obtain ⟨g, cap, rfl, hbg, _, _⟩ := Kd.R_form ho (by have := HXL.out; omega); obtain ⟨cur, hc, _, hcap, hmx, hsz, _, _, hx⟩ := table_With.cells_of ho; have HB3 := am_ hb; have HC3 := am_ hc; have HX3 := am_ hx; have HG := am_ hbg; have HN := am_ hcap; have HMX := am_ hmx; have HSZ := am_ hsz; clear ho hb hg hat hc hx hbg hcap hmx hsz)
    | (go_at_call 52; refine (table_With.sortw xs g cap cur w3 HC3.out HN.out HSZ.out HX3.out (by have := HXL.out; omega) (by have := HXL.out; omega)).mono ?_; rintro e w4 ⟨rfl, ys, hys, cur', hc', hs', hx', hg'⟩; have HB4 := am_ (HB3.out.grown hg' HB3.out.size (fun k hk => by cases hk; exact HG.out)); have HV4 := am_ (table_With.of_cells (base := w.heap.size) (ok := fun _ => True) hc' hys.symm HN.out HMX.out hs' HG.out trivial hx'); clear hc' hs' hx' hg')
    | (go_at_call 25; with_reducible refine (HM.out _ (c4_ HR.out HB4.out)).mono ?_; rintro e w5 ⟨rfl, hb5⟩; have HB5 := am_ (bt_ HB4.out hb5); have HV5 := am_ (Kd.R_below HV4.out hb5); clear hb5))
   go_ret2
   exact ⟨_, rfl, Kd.R_nil _ _ _ _ _, HB5.out⟩
  | true =>
   replace h18 := h18 rfl
   rw [if_pos rfl] at h
   replace h := Option.bind_eq_some_iff.1 h
   obtain ⟨q, hq, h⟩ := h
   have HQ := am_ (show ∀ (W : World) (A : Option Addr) (c : Nat), Kd.C k37 W A xs.length (table_With.srt xs) → xs.length ≤ c → Calls Try.prog 25 #[.slice A xs.length c] W fun e w' => e = .returned (.bool q) ∧ Below W.heap.size W w' from fun W A c hr hc => by
    have := table_May_c.calls A c (table_With.srt xs) q W (by rw [table_With.srt_length]; exact hr) (by rw [table_With.srt_length]; exact hc) hq
    rw [table_With.srt_length] at this
    exact this)
   clear hq
   cases q with
   | false =>
    rw [if_neg (by decide)] at h
    simp only [Option.some.injEq, Prod.mk.injEq] at h
    obtain ⟨rfl, rfl⟩ := h
    go_enter Try.func18, Try.ntmps18
    go_wp2_with (first
     | (go_at_call 50; refine (HCL.out _ (c4_ HR.out (p3_ (Below.refl _ _) _))).mono ?_; rintro e w1 ⟨v, rfl, hv, hb1⟩; have HV := am_ (Kd.R_lower hv (show w.heap.size ≤ _ by first | (simp; done) | exact Nat.le_succ _)); have HVB := am_ hv; have E1 := am_ (kb_ (blk_new w (.cells #[.int .i64 a1_0, .int .i64 a1_1, .string a1_2, .int .i64 a1_3, .string a1_4, .bool a1_5] 37)) hb1); have HB := am_ (bt_ (p3_ (Below.refl _ _) _) hb1); have u0 := bc_ E1.out 0; clear hb1 hv)
     | (go_at_call 51; refine (HAT.out _ (c4_ HR.out HB.out)).mono ?_; rintro e w2 ⟨rfl, hb2⟩; have HV2 := am_ (Kd.R_below HV.out hb2); have HVB2 := am_ (Kd.R_below HVB.out hb2); have E2 := am_ (kb_ E1.out hb2); have HB2 := am_ (bt_ HB.out hb2); have x0 := bc_ E2.out 0; have x1 := bc_ E2.out 1; have x2 := bc_ E2.out 2; have x3 := bc_ E2.out 3; have x4 := bc_ E2.out 4; have x5 := bc_ E2.out 5; clear hb2)
     | ((with_reducible refine gate_builtin (b := .append) (xs := #[.tmp 20, .tmp 22]) rfl ?_); at_builtin; refine Kd.R_append k37 (w0 := w) w.heap.size rfl (.tmp 20) (.tmp 22) 27 37 (.agg #[.int .i64 0, .int .i64 0, .string ⟨#[]⟩, .int .i64 0, .string ⟨#[]⟩, .bool false]) 64 rfl Try.underlying27 table_With.info rfl (by decide) (by omega) v l0 (⟨a1_0, a1_1, a1_2, a1_3, a1_4, a1_5⟩ : S37) [.int .i64 a1_0, .int .i64 a1_1, .string a1_2, .int .i64 a1_3, .string a1_4, .bool a1_5] (fun _ => True) (fun _ => False) rfl rfl ?aP (fun _ hk => hk.elim) ?aF ?aO ?aB ?aS ?aL ?_; (case aP => exact k37_mkM _ _ _ (⟨a1_0, a1_1, a1_2, a1_3, a1_4, a1_5⟩ : S37)); (case aF => exact fun _ _ => trivial); (case aO => exact HV2.out); (case aB => exact HB2.out); (case aS => exact HB2.out.size); (case aL => omega); intro v1 w3 ho hb hg hat; rw [hxs] at ho; obtain ⟨g, cap, rfl, hbg, _, _⟩ := Kd.R_form ho (by have := HXL.out; omega); obtain ⟨cur, hc, _, hcap, hmx, hsz, _, _, hx⟩ := table_With.cells_of ho; have HB3 := am_ hb; have HC3 := am_ hc; have HX3 := am_ hx; have HG := am_ hbg; have HN := am_ hcap; have HMX := am_ hmx; have HSZ := am_ hsz; clear ho hb hg hat hc hx hbg hcap hmx hsz)
     | (go_at_call 52; refine (table_With.sort xs g cap cur w3 HC3.out HN.out HSZ.out HX3.out (by have := HXL.out; omega) (by have := HXL.out; omega)).mono ?_; rintro e w4 ⟨rfl, cur', hc', hs', hx', hg'⟩; have HB4 := am_ (HB3.out.grown hg' HB3.out.size (fun k hk => by cases hk; exact HG.out)); have HV4 := am_ (table_With.of_cells (base := w.heap.size) (ok := fun _ => True) hc' (table_With.srt_length xs).symm HN.out HMX.out hs' HG.out trivial hx'); clear hc' hs' hx' hg')
     | (go_at_call 25; with_reducible refine (HM.out _ (c4_ HR.out HB4.out)).mono ?_; rintro e w5 ⟨rfl, hb5⟩; have HB5 := am_ (bt_ HB4.out hb5); have HV5 := am_ (Kd.R_below HV4.out hb5); clear hb5)
     | (go_at_call 25; with_reducible refine (HQ.out _ _ _ (by have := (Kd.R_reads' HV5.out).2.2; rw [table_With.srt_length] at this; exact this) HN.out).mono ?_; rintro e w6 ⟨rfl, hb6⟩; have HB6 := am_ (bt_ HB5.out hb6); have HV6 := am_ (Kd.R_below HV5.out hb6); clear hb6))
    go_ret2
    exact ⟨_, rfl, Kd.R_nil _ _ _ _ _, HB6.out⟩
   | true =>
    rw [if_pos rfl] at h
    simp only [Option.some.injEq, Prod.mk.injEq] at h
    obtain ⟨rfl, rfl⟩ := h
    go_enter Try.func18, Try.ntmps18
    go_wp2_with (first
     | (go_at_call 50; refine (HCL.out _ (c4_ HR.out (p3_ (Below.refl _ _) _))).mono ?_; rintro e w1 ⟨v, rfl, hv, hb1⟩; have HV := am_ (Kd.R_lower hv (show w.heap.size ≤ _ by first | (simp; done) | exact Nat.le_succ _)); have HVB := am_ hv; have E1 := am_ (kb_ (blk_new w (.cells #[.int .i64 a1_0, .int .i64 a1_1, .string a1_2, .int .i64 a1_3, .string a1_4, .bool a1_5] 37)) hb1); have HB := am_ (bt_ (p3_ (Below.refl _ _) _) hb1); have u0 := bc_ E1.out 0; clear hb1 hv)
     | (go_at_call 51; refine (HAT.out _ (c4_ HR.out HB.out)).mono ?_; rintro e w2 ⟨rfl, hb2⟩; have HV2 := am_ (Kd.R_below HV.out hb2); have HVB2 := am_ (Kd.R_below HVB.out hb2); have E2 := am_ (kb_ E1.out hb2); have HB2 := am_ (bt_ HB.out hb2); have x0 := bc_ E2.out 0; have x1 := bc_ E2.out 1; have x2 := bc_ E2.out 2; have x3 := bc_ E2.out 3; have x4 := bc_ E2.out 4; have x5 := bc_ E2.out 5; clear hb2)
     | ((with_reducible refine gate_builtin (b := .append) (xs := #[.tmp 20, .tmp 22]) rfl ?_); at_builtin; refine Kd.R_append k37 (w0 := w) w.heap.size rfl (.tmp 20) (.tmp 22) 27 37 (.agg #[.int .i64 0, .int .i64 0, .string ⟨#[]⟩, .int .i64 0, .string ⟨#[]⟩, .bool false]) 64 rfl Try.underlying27 table_With.info rfl (by decide) (by omega) v l0 (⟨a1_0, a1_1, a1_2, a1_3, a1_4, a1_5⟩ : S37) [.int .i64 a1_0, .int .i64 a1_1, .string a1_2, .int .i64 a1_3, .string a1_4, .bool a1_5] (fun _ => True) (fun _ => False) rfl rfl ?aP (fun _ hk => hk.elim) ?aF ?aO ?aB ?aS ?aL ?_; (case aP => exact k37_mkM _ _ _ (⟨a1_0, a1_1, a1_2, a1_3, a1_4, a1_5⟩ : S37)); (case aF => exact fun _ _ => trivial); (case aO => exact HV2.out); (case aB => exact HB2.out); (case aS => exact HB2.out.size); (case aL => omega); intro v1 w3 ho hb hg hat; rw [hxs] at ho; obtain ⟨g, cap, rfl, hbg, _, _⟩ := Kd.R_form ho (by have := HXL.out; omega); obtain ⟨cur, hc, _, hcap, hmx, hsz, _, _, hx⟩ := table_With.cells_of ho; have HB3 := am_ hb; have HC3 := am_ hc; have HX3 := am_ hx; have HG := am_ hbg; have HN := am_ hcap; have HMX := am_ hmx; have HSZ := am_ hsz; clear ho hb hg hat hc hx hbg hcap hmx hsz)
     | (go_at_call 52; refine (table_With.sort xs g cap cur w3 HC3.out HN.out HSZ.out HX3.out (by have := HXL.out; omega) (by have := HXL.out; omega)).mono ?_; rintro e w4 ⟨rfl, cur', hc', hs', hx', hg'⟩; have HB4 := am_ (HB3.out.grown hg' HB3.out.size (fun k hk => by cases hk; exact HG.out)); have HV4 := am_ (table_With.of_cells (base := w.heap.size) (ok := fun _ => True) hc' (table_With.srt_length xs).symm HN.out HMX.out hs' HG.out trivial hx'); clear hc' hs' hx' hg')
     | (go_at_call 25; with_reducible refine (HM.out _ (c4_ HR.out HB4.out)).mono ?_; rintro e w5 ⟨rfl, hb5⟩; have HB5 := am_ (bt_ HB4.out hb5); have HV5 := am_ (Kd.R_below HV4.out hb5); clear hb5)
     | (go_at_call 25; with_reducible refine (HQ.out _ _ _ (by have := (Kd.R_reads' HV5.out).2.2; rw [table_With.srt_length] at this; exact this) HN.out).mono ?_; rintro e w6 ⟨rfl, hb6⟩; have HB6 := am_ (bt_ HB5.out hb6); have HV6 := am_ (Kd.R_below HV5.out hb6); clear hb6))
    go_ret2
    exact ⟨_, rfl, HV6.out, HB6.out⟩

end Go.Proofs.Ytibmakpghbinbaa.PM
