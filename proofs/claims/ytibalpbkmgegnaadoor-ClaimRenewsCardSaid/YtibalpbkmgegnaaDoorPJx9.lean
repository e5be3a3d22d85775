-- Made by wip/pr.py out of the translation (a turned copy of the kit's print; contracts by hand where said).
import Derived.Test.YtibalpbkmgegnaaDoorPJx0
import Derived.Test.YtibalpbkmgegnaaDoorPJx2
import Derived.Test.YtibalpbkmgegnaaDoorPJx4
import Derived.Test.YtibalpbkmgegnaaDoorPJx5
import Derived.Test.YtibalpbkmgegnaaDoorPJx6
import Derived.Test.YtibalpbkmgegnaaDoorPJx7
import Derived.Test.YtibalpbkmgegnaaDoorPJx8
namespace Go.Proofs.YtibalpbkmgegnaaDoor.PJ
open Go.RowKit Go.Proofs.YtibalpbkmgegnaaDoorW.PrintWords Go.Proofs.YtibalpbkmgegnaaDoorW.PrintLast Go.Proofs.YtibalpbkmgegnaaDoorW.PrintMore
-- shrunk
attribute [local go_sem] max2_int min2_int max_two min_two max_three min_three max_four min_four   -- for this text's walks alone
set_option linter.unusedVariables false
set_option linter.unusedSimpArgs false

/-! ### conf_Lent: function 26 -/
-- BY HAND
-- 46 47
set_option maxHeartbeats 8000000 in
set_option maxRecDepth 100000 in
theorem conf_Lent.calls (g : Nat) (a0_0 : Int) (a0_1 : Int) (A0_2 : Option Addr) (c0_2 : Nat) (l0_2 : List Int) (A0_3 : Option Addr) (c0_3 : Nat) (l0_3 : List S72) (a0_4 : Int) (a0_5 : ByteArray) (A0_6 : Option Addr) (c0_6 : Nat) (l0_6 : List S74) (host : Int) (client : ByteArray) (r : Bool) (w : World) (bk : w.heap[g]? = some (.cells #[.int .i64 a0_0, .int .i64 a0_1, .slice A0_2 l0_2.length c0_2, .slice A0_3 l0_3.length c0_3, .int .i64 a0_4, .string a0_5, .slice A0_6 l0_6.length c0_6] 26)) (hr0_2 : Kd.C (Kd.int .i64) w A0_2 l0_2.length l0_2) (hc0_2 : l0_2.length ≤ c0_2) (hr0_3 : Kd.C k72 w A0_3 l0_3.length l0_3) (hc0_3 : l0_3.length ≤ c0_3) (hr0_6 : Kd.C k74 w A0_6 l0_6.length l0_6) (hc0_6 : l0_6.length ≤ c0_6) (hs : confFit l0_2 l0_3 a0_5 l0_6) (h : lentB a0_0 a0_1 l0_2 l0_3 a0_4 a0_5 l0_6 host client = r) :
  Calls Tryd.prog 26 #[.pointer (some ⟨g, 0, none⟩), .int .i64 host, .string client] w fun e w' => e = .returned (.bool r) ∧ Below w.heap.size w w' := by
 unfold lentB at h
 obtain ⟨N, hN⟩ : ∃ v, foundN (ownerR a0_0 a0_1 l0_2 l0_3 a0_4 a0_5 l0_6 host) = v := ⟨_, rfl⟩
 obtain ⟨I, hI⟩ : ∃ v, foundIs (ownerR a0_0 a0_1 l0_2 l0_3 a0_4 a0_5 l0_6 host) = v := ⟨_, rfl⟩
 obtain ⟨U, hU⟩ : ∃ v, usableB a0_0 a0_1 l0_2 l0_3 a0_4 a0_5 l0_6 host = v := ⟨_, rfl⟩
 rw [hN, hI, hU] at h
 have C1 := am_ (fun W (hb : Below w.heap.size w W) => conf_Owner.calls a0_0 a0_1 A0_2 c0_2 l0_2 A0_3 c0_3 l0_3 a0_4 a0_5 A0_6 c0_6 l0_6 host N I W (c4_ hr0_2 hb) hc0_2 (c4_ hr0_3 hb) hc0_3 (c4_ hr0_6 hb) hc0_6 (by unfold conf_Owner.f; rw [if_pos hs, hN, hI]))
 have C2 := am_ (fun W (hb : Below w.heap.size w W) => conf_Usable.calls a0_0 a0_1 A0_2 c0_2 l0_2 A0_3 c0_3 l0_3 a0_4 a0_5 A0_6 c0_6 l0_6 host U W (c4_ hr0_2 hb) hc0_2 (c4_ hr0_3 hb) hc0_3 (c4_ hr0_6 hb) hc0_6 (by unfold conf_Usable.f; rw [if_pos hs, hU]))
 have HR := am_ h
 have HB := am_ (Below.refl w.heap.size w)
 have BG := am_ bk
 have u0 := bc_ BG.out 0
 have u1 := bc_ BG.out 1
 have u2 := bc_ BG.out 2
 have u3 := bc_ BG.out 3
 have u4 := bc_ BG.out 4
 have u5 := bc_ BG.out 5
 have u6 := bc_ BG.out 6
 clear h hN hI hU bk hr0_2 hr0_3 hr0_6 hc0_2 hc0_3 hc0_6 hs
 go_enter Tryd.func26, Tryd.ntmps26
 go_wp2_with (first
  | (go_at_call 46; (with_reducible refine (C1.out _ (by repeat (with_reducible first | exact HB.out | apply p3_ | apply p1_ | apply p2_))).mono ?_); rintro e w1 ⟨rfl, hb2⟩; replace BG := am_ (kb_ (show _ from (by (with_reducible repeat (first | exact BG.out | refine k2_ ?_ _ | refine k3_ ?_ | refine k1_ ?_ _)))) hb2); replace HB := am_ (bt_ (show Below w.heap.size w _ from (by repeat (with_reducible first | exact HB.out | apply p3_ | apply p1_ | apply p2_))) hb2); clear hb2; have u0 := bc_ BG.out 0; have u1 := bc_ BG.out 1; have u2 := bc_ BG.out 2; have u3 := bc_ BG.out 3; have u4 := bc_ BG.out 4; have u5 := bc_ BG.out 5; have u6 := bc_ BG.out 6)
  | (go_at_call 47; (with_reducible refine (C2.out _ (by repeat (with_reducible first | exact HB.out | apply p3_ | apply p1_ | apply p2_))).mono ?_); rintro e w2 ⟨rfl, hb2⟩; replace HB := am_ (bt_ (show Below w.heap.size w _ from (by repeat (with_reducible first | exact HB.out | apply p3_ | apply p1_ | apply p2_))) hb2); clear hb2; clear u0 u1 u2 u3 u4 u5 u6))
 all_goals (try go_ret)
 all_goals refine ⟨ret_bool ?_, ?_⟩
 all_goals first
  | ((repeat (with_reducible first | exact HB.out | apply p3_ | apply p1_ | apply p2_)); done)
  | (rw [← HR.out]; clear HR HB C1 C2 BG; rw [Bool.eq_iff_iff]; (simp_all; done))
  | (rw [← HR.out]; clear HR HB C1 C2 BG; simp_all)

/-! ### table_With: function 27 -/
-- BY HAND
-- 38 42
instance table_With.inh : Inhabited S36 := ⟨z36⟩
def table_With.enc (x : S36) : List Value := [.int .i64 x.f0, .int .i64 x.f1, .string x.f2, .int .i64 x.f3, .string x.f4, .bool x.f5]
def table_With.cf (x y : S36) : Int := wrap64 (x.f0 - y.f0)
def table_With.ren : Go.Shelf.Ren := ⟨fun i => if i = 20 then 77 else 0, fun i => if i = 3 then 3 else if i = 4 then 4 else if i = 22 then 27 else if i = 24 then 36 else if i = 25 then 84 else 0, fun i => i⟩
theorem table_With.lays : SlLaysF0.n20 Tryd.prog table_With.ren where
 mixed := by kernel_rfl
 f20 := ⟨"slices.insertionSortCmpFunc[pinfold/api.Lease]", by decide, by kernel_rfl⟩
 t0 := by kernel_rfl
 a0 := fun w => by kernel_rfl
 z0 := fun w => by kernel_rfl
 v0 := fun w => by kernel_rfl
 t3 := by kernel_rfl
 a3 := fun w => by kernel_rfl
 z3 := fun w => by kernel_rfl
 v3 := fun w => by kernel_rfl
 t4 := by kernel_rfl
 a4 := fun w => by kernel_rfl
 z4 := fun w => by kernel_rfl
 v4 := fun w => by kernel_rfl
 t22 := by kernel_rfl
 a22 := fun w => by kernel_rfl
 z22 := fun w => by kernel_rfl
 v22 := fun w => by kernel_rfl
 t25 := by kernel_rfl
 a25 := fun w => by kernel_rfl
 z25 := fun w => by kernel_rfl
 v25 := fun w => by kernel_rfl
set_option maxHeartbeats 8000000 in
set_option maxRecDepth 100000 in
theorem table_With.cmp (x y : S36) (W : World) :
  Calls Tryd.prog 50 #[.agg #[.int .i64 x.f0, .int .i64 x.f1, .string x.f2, .int .i64 x.f3, .string x.f4, .bool x.f5], .agg #[.int .i64 y.f0, .int .i64 y.f1, .string y.f2, .int .i64 y.f3, .string y.f4, .bool y.f5]] W fun e w' => e = .returned (.int .i64 (table_With.cf x y)) ∧ ∃ q os', w' = Go.Sort.grow (W.drewN q) os' := by
 go_enter Tryd.func50, Tryd.ntmps50
 go_wp2
 go_ret
 refine ⟨rfl, 0, #[.cells #[.int .i64 x.f0, .int .i64 x.f1, .string x.f2, .int .i64 x.f3, .string x.f4, .bool x.f5] 36, .cells #[.int .i64 y.f0, .int .i64 y.f1, .string y.f2, .int .i64 y.f3, .string y.f4, .bool y.f5] 36], ?_⟩
 rfl
/-- a row's cells. -/
def table_With.Cells (cur : Array Value) (xs : List S36) : Prop := ∀ t, t < xs.length * 6 → cur[t]? = some ((table_With.enc (xs.toArray[t / 6]!))[t % 6]!)
theorem table_With.get (xs : List S36) (j : Nat) (h : j < xs.length) : xs.toArray[j]! = xs[j] := by
 simp [h]
theorem table_With.cells_of {w : World} {base n cap g : Nat} {ok : Nat → Prop} {xs : List S36} (h : Kd.R k36 36 w base ok (.slice (some ⟨g, 0, none⟩) n cap) xs) :
  ∃ cur, w.heap[g]? = some (.cells cur 36 (0, 0)) ∧ n = xs.length ∧ n ≤ cap ∧ cap ≤ maxLen ∧ cur.size = cap * 6 ∧ base ≤ g ∧ ok g ∧ table_With.Cells cur xs := by
 obtain ⟨h0, inner, ⟨hil, hv⟩, hr⟩ := h
 rcases hv with ⟨hv, _⟩ | ⟨g', cap', cur, hv, hb, hc, hn, hm, hs, ht⟩
 ·cases hv
 ·have hn2 : n = xs.length := by cases hv; rfl
  obtain rfl : cap = cap' := by cases hv; rfl
  obtain rfl : g = g' := by cases hv; rfl
  refine ⟨cur, hc, hn2, by omega, hm, hs, hb, h0 g (by simp [Value.ownBlock]), fun t ht2 => ?_⟩
  have hj : t / 6 < xs.length := by omega
  have h1 := k36_openM (hr.2 (t / 6) _ (List.getElem?_eq_getElem hj))
  have h2 : inner[t]? = (table_With.enc xs[t / 6])[t % 6]? := by
   have h1' : ((List.drop (t / 6 * 6) inner).take 6)[t % 6]? = (table_With.enc xs[t / 6])[t % 6]? := congrArg (fun l : List Value => l[t % 6]?) h1
   rw [← h1']
   rw [List.getElem?_take_of_lt (by omega), List.getElem?_drop, show t / 6 * 6 + t % 6 = t by omega]
  have h3 : cur[t]? = inner[t]? := by
   have ht' : cur.toList.take (xs.length * 6) = inner := ht
   rw [← ht', List.getElem?_take_of_lt ht2, Array.getElem?_toList]
  have h4 : t % 6 < (table_With.enc xs[t / 6]).length := by show t % 6 < 6; omega
  rw [h3, h2, table_With.get xs _ hj, List.getElem?_eq_getElem h4, getElem!_pos (table_With.enc xs[t / 6]) (t % 6) h4]
theorem table_With.of_cells {w : World} {base n cap g : Nat} {ok : Nat → Prop} {xs : List S36} {cur : Array Value} (hc : w.heap[g]? = some (.cells cur 36 (0, 0))) (hn : n = xs.length) (hcap : n ≤ cap) (hm : cap ≤ maxLen) (hs : cur.size = cap * 6) (hb : base ≤ g) (ho : ok g) (hx : table_With.Cells cur xs) :
  Kd.R k36 36 w base ok (.slice (some ⟨g, 0, none⟩) n cap) xs := by
 subst hn
 have hl : (cur.toList.take (xs.length * 6)).length = xs.length * 6 := by
  have hz : cur.toList.length = cap * 6 := by simpa using hs
  rw [List.length_take, hz]
  exact Nat.min_eq_left (Nat.mul_le_mul_right _ hcap)
 refine ⟨fun k hk => ?_, cur.toList.take (xs.length * 6), ⟨hl, .inr ⟨g, cap, cur, rfl, hb, hc, hcap, hm, hs, rfl⟩⟩, hl, fun j p hp => ?_⟩
 ·simp only [Value.ownBlock, Option.some.injEq] at hk
  rw [← hk]
  exact ho
 ·obtain ⟨hj, rfl⟩ := List.getElem?_eq_some_iff.1 hp
  have e : ((cur.toList.take (xs.length * 6)).drop (j * 6)).take 6 = table_With.enc xs[j] := by
   apply List.ext_getElem?
   intro r
   by_cases hr : r < 6
   ·have h1 := hx (j * 6 + r) (by omega)
    rw [show (j * 6 + r) / 6 = j by omega, show (j * 6 + r) % 6 = r by omega, table_With.get xs j hj] at h1
    have h4 : r < (table_With.enc xs[j]).length := hr
    rw [getElem!_pos (table_With.enc xs[j]) r h4] at h1
    rw [List.getElem?_take_of_lt hr, List.getElem?_drop, List.getElem?_take_of_lt (by omega), Array.getElem?_toList, h1, List.getElem?_eq_getElem h4]
   ·rw [List.getElem?_eq_none (by rw [List.length_take]; omega), List.getElem?_eq_none (by show 6 ≤ r; omega)]
  show (k36).M _ _ _ _ (((cur.toList.take (xs.length * 6)).drop (j * 6)).take 6)
  rw [e]
  exact k36_mkM _ _ _ _
/-- the rounds of an insertion sort. -/
def table_With.outer (lt : S36 → S36 → Bool) : Nat → Nat → Array S36 → Array S36
 | 0, _, d => d
 | m + 1, i, d => table_With.outer lt m (i + 1) (Go.Sort.insInner lt 0 i d)
theorem table_With.outer_eq (lt : S36 → S36 → Bool) (m : Nat) : ∀ (i b : Nat) (d : Array S36), i + m = b → Go.Sort.insOuter lt 0 b i d = table_With.outer lt m i d := by
 induction m with
 | zero =>
  intro i b d h
  rw [Go.Sort.insOuter, if_neg (by omega)]
  rfl
 | succ m ih =>
  intro i b d h
  rw [Go.Sort.insOuter, if_pos (by omega)]
  exact ih (i + 1) b _ (by omega)
theorem table_With.size_inner (lt : S36 → S36 → Bool) : ∀ (j : Nat) (d : Array S36), (Go.Sort.insInner lt 0 j d).size = d.size
 | 0, d => rfl
 | j + 1, d => by
  unfold Go.Sort.insInner
  split
  ·rw [table_With.size_inner lt j, Go.Sort.size_swp]
  ·rfl
theorem table_With.size_outer (lt : S36 → S36 → Bool) : ∀ (m i : Nat) (d : Array S36), (table_With.outer lt m i d).size = d.size
 | 0, _, d => rfl
 | m + 1, i, d => by rw [table_With.outer, table_With.size_outer lt m, table_With.size_inner]
def table_With.srt (xs : List S36) : List S36 := (table_With.outer (ltOf table_With.cf) (xs.length - 1) 1 xs.toArray).toList
theorem table_With.srt_length (xs : List S36) : (table_With.srt xs).length = xs.length := by
 unfold table_With.srt
 rw [Array.length_toList, table_With.size_outer]
 rfl
/-- what a sort leaves. -/
def table_With.Done (W : World) (g cap : Nat) (xs : List S36) (w' : World) : Prop := ∃ cur', w'.heap[g]? = some (.cells cur' 36 (0, 0)) ∧ cur'.size = cap * 6 ∧ table_With.Cells cur' xs ∧ W.grownBy w' (some g)
theorem table_With.done {W : World} {g cap m : Nat} {cur : Array Value} {dk : Array S36} {os : Array Obj} (hc : W.heap[g]? = some (.cells cur 36 (0, 0))) (hcap : dk.size ≤ cap) (hs : cur.size = cap * 6) :
  table_With.Done W g cap dk.toList (sortWorldK table_With.enc 6 W g 0 m dk os) := by
 have hlt : g < W.heap.size := (Array.getElem?_eq_some_iff.1 hc).1
 have hb : (sortWorldK table_With.enc 6 W g 0 m dk os).heap = (W.heap.modify g (Go.Sort.onCells (Go.Sort.putCells id 0 (Go.Sort.flatK table_With.enc 6 dk)))) ++ os := rfl
 refine ⟨Go.Sort.putCells id 0 (Go.Sort.flatK table_With.enc 6 dk) cur, ?_, ?_, fun t ht => ?_, ⟨rfl, rfl, rfl, ?_, fun k hk hne => ?_⟩⟩
 ·rw [hb, Array.getElem?_append_left (by simpa using hlt), Array.getElem?_modify, if_pos rfl, hc]
  rfl
 ·unfold Go.Sort.putCells
  simpa using hs
 ·have htl : t < dk.size * 6 := by simpa using ht
  have hcur : t < cur.size := by omega
  unfold Go.Sort.putCells
  rw [Array.getElem?_mapIdx, Array.getElem?_eq_getElem hcur]
  simp only [Option.map_some, Go.Sort.size_flatK, Nat.zero_add, Nat.zero_le, true_and, Nat.sub_zero, id_eq]
  rw [if_pos htl, Go.Sort.get_flatK _ _ _ _ htl]
 ·rw [hb]
  simp
 ·have hkg : g ≠ k := fun e => hne (by rw [e])
  rw [hb, Array.getElem?_append_left (by simpa using hk), Array.getElem?_modify, if_neg hkg]
set_option maxHeartbeats 8000000 in
set_option maxRecDepth 100000 in
theorem table_With.stable (xs : List S36) (g cap : Nat) (cur : Array Value) (W : World) (hc : W.heap[g]? = some (.cells cur 36 (0, 0))) (hcap : xs.length ≤ cap) (hs : cur.size = cap * 6) (hx : table_With.Cells cur xs) (hn : xs.length ≤ 19) (hn0 : 0 < xs.length) :
  Calls Tryd.prog 68 #[.slice (some ⟨g, 0, none⟩) xs.length cap, .int .i64 xs.length, .func (.func 50) #[] #[]] W fun e w' => e = .returned (.tuple #[]) ∧ table_With.Done W g cap (table_With.srt xs) w' := by
 have eg : ∀ args w, (callFunc 50 args).run Tryd.prog w = .ok (.enter 50 args) w := enters_of Tryd.func50 (by kernel_rfl) rfl
 have hH : Go.Sort.HoldsK table_With.enc 6 W g 0 xs.toArray := fun j hj => by
  have hj2 : j < xs.length * 6 := by simpa using hj
  rw [Nat.zero_add]
  refine ⟨?_, bf_ hc j⟩
  rw [bc_ hc j, hx j hj2, Go.Sort.get_flatK _ _ _ _ (by simpa using hj2)]
  rfl
 have hI := AnyQ.insertionSortCmpFunc table_With.lays 6 (fun w => by kernel_rfl) (fun w => by kernel_rfl) table_With.enc (fun x => rfl) (fun x v hv => by
  simp only [table_With.enc, List.mem_cons, List.mem_nil_iff, or_false] at hv
  rcases hv with rfl | rfl | rfl | rfl | rfl | rfl <;> rfl) table_With.cf 50 #[] g 0 cap 0 xs.length xs.toArray W eg (fun m os dk _ x y => table_With.cmp x y _) hH (Array.getElem?_eq_some_iff.1 hc).1 (Nat.zero_le _) (by simp) (by simp; omega)
 have hD : ∀ m os, table_With.Done W g cap (table_With.srt xs) (sortWorldK table_With.enc 6 W g 0 m (Go.Sort.insertionSort (ltOf table_With.cf) xs.toArray 0 xs.length) os) := fun m os => by
  have e : Go.Sort.insertionSort (ltOf table_With.cf) xs.toArray 0 xs.length = table_With.outer (ltOf table_With.cf) (xs.length - 1) 1 xs.toArray := table_With.outer_eq _ _ 1 _ _ (by omega)
  rw [e]
  exact table_With.done hc (by rw [table_With.size_outer]; simpa using hcap) hs
 replace hI := am_ (show Calls Tryd.prog 77 #[.slice (some ⟨g, 0, none⟩) xs.length cap, .int .i64 0, .int .i64 xs.length, .func (.func 50) #[] #[]] W fun e w' => e = .returned (.tuple #[]) ∧ table_With.Done W g cap (table_With.srt xs) w' from hI.mono (by
  rintro e w' ⟨rfl, m, os, rfl⟩
  exact ⟨rfl, hD m os⟩))
 clear hD hH eg hc hx hs
 have d1 : decide ((20 : Int) ≤ (xs.length : Int)) = false := decide_eq_false (by omega)
 have d2 : decide ((20 : Int) < (xs.length : Int)) = false := decide_eq_false (by omega)
 go_enter Tryd.func68, Tryd.ntmps68
 go_wp2
 refine wp_loop_rounds 1 ?_
 rw [rounds_succ]
 go_wp2_with (first | (go_at_call 77; refine hI.out.mono ?_; rintro e w' ⟨rfl, hd⟩))
 refine wp_loop_rounds 1 ?_
 rw [rounds_succ]
 go_wp2
 go_end0
 exact ⟨rfl, hd⟩
set_option maxHeartbeats 8000000 in
set_option maxRecDepth 100000 in
theorem table_With.sort (xs : List S36) (g cap : Nat) (cur : Array Value) (W : World) (hc : W.heap[g]? = some (.cells cur 36 (0, 0))) (hcap : xs.length ≤ cap) (hs : cur.size = cap * 6) (hx : table_With.Cells cur xs) (hn : xs.length ≤ 19) (hn0 : 0 < xs.length) :
  Calls Tryd.prog 49 #[.slice (some ⟨g, 0, none⟩) xs.length cap, .func (.func 50) #[] #[]] W fun e w' => e = .returned (.tuple #[]) ∧ table_With.Done W g cap (table_With.srt xs) w' := by
 have hI := am_ (table_With.stable xs g cap cur W hc hcap hs hx hn hn0)
 clear hc hs hx
 go_enter Tryd.func49, Tryd.ntmps49
 go_wp2_with (first | (go_at_call 68; refine hI.out.mono ?_; rintro e w' ⟨rfl, hd⟩))
 go_end0
 exact ⟨rfl, hd⟩
theorem table_With.nil1 (c : Nat) (w : World) : (binOp .eql 27 (.slice none 0 c) (.slice none 0 0)).run Tryd.prog w = .ok (.bool true) w := by kernel_rfl
theorem table_With.nil2 (ad : Addr) (n c : Nat) (w : World) : (binOp .eql 27 (.slice (some ad) n c) (.slice none 0 0)).run Tryd.prog w = .ok (.bool false) w := by kernel_rfl
theorem table_With.info : (Tryd.prog.info? 36).map (fun i => (i.zero, i.size, i.bytes)) = some (some (.agg #[.int .i64 0, .int .i64 0, .string ⟨#[]⟩, .int .i64 0, .string ⟨#[]⟩, .bool false]), 6, 64) := by kernel_rfl
set_option maxHeartbeats 8000000 in
set_option maxRecDepth 100000 in
theorem table_With.clone (A0 : Option Addr) (c0 : Nat) (l0 : List (S36)) (w : World) (hr0 : Kd.C k36 w A0 l0.length l0) (hc0 : l0.length ≤ c0) (hs : l0.length ≤ 1000) :
  Calls Tryd.prog 48 #[.slice A0 l0.length c0] w fun e w' => ∃ v : Value, e = .returned v ∧ Kd.R k36 36 w' w.heap.size (fun _ => True) v l0 ∧ Below w.heap.size w w' := by
 have HR := am_ hr0
 have HC := am_ hc0
 cases A0 with
 | none =>
  have hn : l0 = [] := by
   cases l0 with
   | nil => rfl
   | cons x r =>
    obtain ⟨ad, e, _⟩ := hr0.2.2 (by simp)
    cases e
  clear hr0 hc0
  subst hn
  have he := table_With.nil1 c0
  go_enter Tryd.func48, Tryd.ntmps48
  go_wp2
  go_ret
  exact ⟨_, rfl, Kd.R_nil _ _ _ _ _, Below.refl _ _⟩
 | some ad =>
  clear hr0 hc0
  have he := table_With.nil2 ad l0.length c0
  go_enter Tryd.func48, Tryd.ntmps48
  go_wp2_with (first
   | ((with_reducible refine gate_dst (N := 5) rfl ?_); refine Kd.R_lit k36 _ 36 ?hg (N := 5) ?hd (xs := ([] : List S36)) (inner := []) (ok := fun _ => True) (okp := fun _ => True) ?hr ?hp (fun _ hk => hk) trivial (Below.refl _ _) (Nat.le_refl _) (by simp) ?_; (case hd => rfl); (case hg => rfl); (case hr => first | (go_simp; done) | (go_simp; rfl)); (case hp => exact (Reps.none _ _)); intro v104 w5 ho6 hb hg_ hnew_; clear hg_ hnew_; have HO := am_ ho6; have HB := am_ hb; clear hb ho6)
   | ((with_reducible refine gate_builtin (b := .append) (xs := #[.tmp 5, .tmp 6]) rfl ?_); at_builtin; refine Kd.R_append_rows k36 (w0 := w) w.heap.size rfl (.tmp 5) (.tmp 6) 27 36 (.agg #[.int .i64 0, .int .i64 0, .string ⟨#[]⟩, .int .i64 0, .string ⟨#[]⟩, .bool false]) 64 rfl Tryd.underlying27 table_With.info rfl (by decide) (by omega) v104 [] l0 _ _ _ (fun _ => True) (fun _ => False) rfl rfl ?aO ?aR (fun _ _ h => h) (fun _ h => h.elim) ?aF ?aB ?aS ?aL ?_; (case aR => exact c4_ HR.out HB.out); (case aB => exact HB.out); (case aF => exact (fun _ _ => trivial)); (case aO => exact HO.out); (case aS => exact HB.out.size); (case aL => simp; omega); intro v107 w9 ho hb hg hat; rw [List.nil_append] at ho; clear hg hat))
  go_ret
  exact ⟨_, rfl, ho, hb⟩
theorem table_With.set_cells {cur : Array Value} {l0 : List S36} (hx : table_With.Cells cur l0) (ii : Nat) (hi : ii < l0.length) (hs : l0.length * 6 ≤ cur.size) (x : S36) :
  table_With.Cells ((((((cur.setIfInBounds (ii * 6) (.int .i64 x.f0)).setIfInBounds (ii * 6 + 1) (.int .i64 x.f1)).setIfInBounds (ii * 6 + 2) (.string x.f2)).setIfInBounds (ii * 6 + 3) (.int .i64 x.f3)).setIfInBounds (ii * 6 + 4) (.string x.f4)).setIfInBounds (ii * 6 + 5) (.bool x.f5)) (l0.set ii x) := by
 intro t ht
 rw [List.length_set] at ht
 have h0 := hx t ht
 have hj : t / 6 < l0.length := by omega
 by_cases e : t / 6 = ii
 ·have hg : (l0.set ii x).toArray[t / 6]! = x := by
   rw [table_With.get _ _ (by rw [List.length_set]; exact hj), List.getElem_set, if_pos e.symm]
  rw [hg]
  obtain ⟨r, hr, hr6⟩ : ∃ r, t = ii * 6 + r ∧ r < 6 := ⟨t - ii * 6, by omega, by omega⟩
  subst hr
  rw [show (ii * 6 + r) % 6 = r by omega]
  have hk : ii * 6 + 6 ≤ cur.size := by omega
  match r, hr6 with
  | 0, _ => (have h9 : ii * 6 < cur.size := (by omega)); simp [Array.getElem?_setIfInBounds, h9, table_With.enc]
  | 1, _ => (have h9 : ii * 6 + 1 < cur.size := (by omega)); simp [Array.getElem?_setIfInBounds, h9, table_With.enc]
  | 2, _ => (have h9 : ii * 6 + 2 < cur.size := (by omega)); simp [Array.getElem?_setIfInBounds, h9, table_With.enc]
  | 3, _ => (have h9 : ii * 6 + 3 < cur.size := (by omega)); simp [Array.getElem?_setIfInBounds, h9, table_With.enc]
  | 4, _ => (have h9 : ii * 6 + 4 < cur.size := (by omega)); simp [Array.getElem?_setIfInBounds, h9, table_With.enc]
  | 5, _ => (have h9 : ii * 6 + 5 < cur.size := (by omega)); simp [Array.getElem?_setIfInBounds, h9, table_With.enc]
  | q + 6, h => omega
 ·have hg : (l0.set ii x).toArray[t / 6]! = l0.toArray[t / 6]! := by
   rw [table_With.get _ _ (by rw [List.length_set]; exact hj), table_With.get _ _ hj, List.getElem_set, if_neg (fun h => e h.symm)]
  rw [hg, ← h0]
  simp only [Array.getElem?_setIfInBounds, Array.size_setIfInBounds]
  rw [if_neg (by omega), if_neg (by omega), if_neg (by omega), if_neg (by omega), if_neg (by omega), if_neg (by omega)]
/-- what leaves become with one more. -/
def table_With.out (l0 : List S36) (x : S36) : List S36 := if table_at.idx (fun y => y.f0 == x.f0) l0 ≥ 0 then l0.set (table_at.idx (fun y => y.f0 == x.f0) l0).toNat x else table_With.srt (l0 ++ [x])
def table_With.f (l0 : List S36) (a1_0 : Int) (a1_1 : Int) (a1_2 : ByteArray) (a1_3 : Int) (a1_4 : ByteArray) (a1_5 : Bool) : Option (List S36 × Int) :=
 if l0.length ≤ 18 then ((table_May_c.f l0).bind fun m => if m = true then ((table_May_c.f (table_With.out l0 (⟨a1_0, a1_1, a1_2, a1_3, a1_4, a1_5⟩ : S36))).bind fun q => if q = true then some (table_With.out l0 (⟨a1_0, a1_1, a1_2, a1_3, a1_4, a1_5⟩ : S36), 0) else some ([], 1300)) else some ([], 1300)) else none
set_option maxHeartbeats 8000000 in
set_option maxRecDepth 100000 in
theorem table_With.calls (A0 : Option Addr) (c0 : Nat) (l0 : List (S36)) (a1_0 : Int) (a1_1 : Int) (a1_2 : ByteArray) (a1_3 : Int) (a1_4 : ByteArray) (a1_5 : Bool) (r1 : List (S36)) (r2 : Int) (w : World) (hr0 : Kd.C k36 w A0 l0.length l0) (hc0 : l0.length ≤ c0) (h : table_With.f l0 a1_0 a1_1 a1_2 a1_3 a1_4 a1_5 = some (r1, r2)) :
  Calls Tryd.prog 27 #[.slice A0 l0.length c0, .agg #[.int .i64 a1_0, .int .i64 a1_1, .string a1_2, .int .i64 a1_3, .string a1_4, .bool a1_5]] w fun e w' => ∃ v0_ : Value, e = .returned (.tuple #[v0_, .int .i64 r2]) ∧ Kd.R k36 36 w' w.heap.size (fun _ => True) v0_ r1 ∧ Below w.heap.size w w' := by
 have HR := am_ hr0
 have HC := am_ hc0
 clear hr0 hc0
 unfold table_With.f at h
 by_cases hs : l0.length ≤ 18
 rotate_left
 ·rw [if_neg hs] at h
  cases h
 rw [if_pos hs] at h
 replace h := Option.bind_eq_some_iff.1 h
 obtain ⟨m, hm, h⟩ := h
 have HM := am_ (fun W hr => table_May_c.calls A0 c0 l0 m W hr HC.out hm)
 clear hm
 have HCL := am_ (fun W hr => table_With.clone A0 c0 l0 W hr HC.out (by omega))
 have HAT := am_ (fun W hr => table_at.calls A0 c0 l0 a1_0 (table_at.idx (fun y => y.f0 == a1_0) l0) W hr HC.out (by unfold table_at.f; rw [if_pos (by omega)]))
 unfold table_With.out at h
 by_cases hi : table_at.idx (fun y => y.f0 == a1_0) l0 ≥ 0
 ·rw [if_pos (show table_at.idx (fun y => y.f0 == ((⟨a1_0, a1_1, a1_2, a1_3, a1_4, a1_5⟩ : S36)).f0) l0 ≥ 0 from hi)] at h
  have hlt := (table_at.idx_lt (fun y => y.f0 == a1_0) l0).1
  replace h : ((if m = true then ((table_May_c.f (l0.set (table_at.idx (fun y => y.f0 == a1_0) l0).toNat (⟨a1_0, a1_1, a1_2, a1_3, a1_4, a1_5⟩ : S36))).bind fun q => if q = true then some (l0.set (table_at.idx (fun y => y.f0 == a1_0) l0).toNat (⟨a1_0, a1_1, a1_2, a1_3, a1_4, a1_5⟩ : S36), (0 : Int)) else some ([], 1300)) else some ([], 1300)) : Option (List S36 × Int)) = some (r1, r2) := h
  obtain ⟨ii, hii⟩ : ∃ ii : Nat, table_at.idx (fun y => y.f0 == a1_0) l0 = (ii : Int) := ⟨(table_at.idx (fun y => y.f0 == a1_0) l0).toNat, by omega⟩
  rw [hii] at h hlt
  rw [hii] at HAT
  rw [Int.toNat_natCast] at h
  have hib : decide ((0 : Int) ≤ (ii : Int)) = true := decide_eq_true (by omega)
  have hil : ii < l0.length := by omega
  have hilz : (ii : Int) < (l0.length : Int) := hlt
  clear hi hii hlt
  cases m with
  | false =>
   rw [if_neg (by decide)] at h
   simp only [Option.some.injEq, Prod.mk.injEq] at h
   obtain ⟨rfl, rfl⟩ := h
   go_enter Tryd.func27, Tryd.ntmps27
   go_wp2_with (first
    | (go_at_call 48; refine (HCL.out _ (c4_ HR.out (p3_ (Below.refl _ _) _))).mono ?_; rintro e w1 ⟨v, rfl, hv, hb1⟩; have HV := am_ (Kd.R_lower hv (show w.heap.size ≤ _ by first | (simp; done) | exact Nat.le_succ _)); have HVB := am_ hv; have E1 := am_ (kb_ (blk_new w (.cells #[.int .i64 a1_0, .int .i64 a1_1, .string a1_2, .int .i64 a1_3, .string a1_4, .bool a1_5] 36)) hb1); have HB := am_ (bt_ (p3_ (Below.refl _ _) _) hb1); have u0 := bc_ E1.out 0; clear hb1 hv)
    | (go_at_call 42; refine (HAT.out _ (c4_ HR.out HB.out)).mono ?_; rintro e w2 ⟨rfl, hb2⟩; have HVB2 := Kd.R_below HVB.out hb2; have E2 := am_ (kb_ E1.out hb2); have HB2 := am_ (bt_ HB.out hb2); have x0 := bc_ E2.out 0; have x1 := bc_ E2.out 1; have x2 := bc_ E2.out 2; have x3 := bc_ E2.out 3; have x4 := bc_ E2.out 4; have x5 := bc_ E2.out 5; obtain ⟨g, cap, rfl, hbg, _, _⟩ := Kd.R_form HVB2 (by omega); obtain ⟨cur, hc, _, hcap, hmx, hsz, _, _, hx⟩ := table_With.cells_of HVB2; have hbg0 : w.heap.size ≤ g := Nat.le_trans (by first | (simp; done) | exact Nat.le_succ _) hbg; have hgne : w.heap.size ≠ g := Nat.ne_of_lt (Nat.lt_of_lt_of_le (by simp) hbg); have y0 := bc_ hc (ii * 6); have yh0 := hx (ii * 6 + 0) (by omega); have z0 := bf_ hc (ii * 6); have y1 := bc_ hc (ii * 6 + 1); have yh1 := hx (ii * 6 + 1) (by omega); have z1 := bf_ hc (ii * 6 + 1); have y2 := bc_ hc (ii * 6 + 2); have yh2 := hx (ii * 6 + 2) (by omega); have z2 := bf_ hc (ii * 6 + 2); have y3 := bc_ hc (ii * 6 + 3); have yh3 := hx (ii * 6 + 3) (by omega); have z3 := bf_ hc (ii * 6 + 3); have y4 := bc_ hc (ii * 6 + 4); have yh4 := hx (ii * 6 + 4) (by omega); have z4 := bf_ hc (ii * 6 + 4); have y5 := bc_ hc (ii * 6 + 5); have yh5 := hx (ii * 6 + 5) (by omega); have z5 := bf_ hc (ii * 6 + 5); rw [Nat.add_zero] at yh0; rw [yh0] at y0; rw [yh1] at y1; rw [yh2] at y2; rw [yh3] at y3; rw [yh4] at y4; rw [yh5] at y5; clear yh0 yh1 yh2 yh3 yh4 yh5; have HC3 := am_ (blk_set (blk_set (blk_set (blk_set (blk_set (blk_set hc (ii * 6) (.int .i64 a1_0)) (ii * 6 + 1) (.int .i64 a1_1)) (ii * 6 + 2) (.string a1_2)) (ii * 6 + 3) (.int .i64 a1_3)) (ii * 6 + 4) (.string a1_4)) (ii * 6 + 5) (.bool a1_5)); have HX3 := am_ (table_With.set_cells hx ii hil (by omega) (⟨a1_0, a1_1, a1_2, a1_3, a1_4, a1_5⟩ : S36)); have HB4 := am_ (show Below w.heap.size w ((((((w2.setCell ⟨g, ii * 6, none⟩ (.int .i64 a1_0)).setCell ⟨g, ii * 6 + 1, none⟩ (.int .i64 a1_1)).setCell ⟨g, ii * 6 + 2, none⟩ (.string a1_2)).setCell ⟨g, ii * 6 + 3, none⟩ (.int .i64 a1_3)).setCell ⟨g, ii * 6 + 4, none⟩ (.string a1_4)).setCell ⟨g, ii * 6 + 5, none⟩ (.bool a1_5)) from ((((((HB2.out.setCell hbg0 _).setCell hbg0 _).setCell hbg0 _).setCell hbg0 _).setCell hbg0 _).setCell hbg0 _)); have HV4 := am_ (show Kd.R k36 36 ((((((w2.setCell ⟨g, ii * 6, none⟩ (.int .i64 a1_0)).setCell ⟨g, ii * 6 + 1, none⟩ (.int .i64 a1_1)).setCell ⟨g, ii * 6 + 2, none⟩ (.string a1_2)).setCell ⟨g, ii * 6 + 3, none⟩ (.int .i64 a1_3)).setCell ⟨g, ii * 6 + 4, none⟩ (.string a1_4)).setCell ⟨g, ii * 6 + 5, none⟩ (.bool a1_5)) w.heap.size (fun _ => True) (.slice (some ⟨g, 0, none⟩) l0.length cap) (l0.set ii (⟨a1_0, a1_1, a1_2, a1_3, a1_4, a1_5⟩ : S36)) from table_With.of_cells HC3.out (List.length_set).symm hcap hmx (by simpa using hsz) hbg0 trivial HX3.out); have HN := am_ hcap; clear hb2 HVB2 hx hc hcap hmx hsz hbg HC3 HX3)
    | (go_at_call 38; with_reducible refine (HM.out _ (c4_ HR.out HB4.out)).mono ?_; rintro e w5 ⟨rfl, hb5⟩; have HB5 := am_ (bt_ HB4.out hb5); have HV5 := am_ (Kd.R_below HV4.out hb5); clear hb5))
   go_ret2
   exact ⟨_, rfl, Kd.R_nil _ _ _ _ _, HB5.out⟩
  | true =>
   rw [if_pos rfl] at h
   replace h := Option.bind_eq_some_iff.1 h
   obtain ⟨q, hq, h⟩ := h
   have HQ := am_ (show ∀ (W : World) (A : Option Addr) (c : Nat), Kd.C k36 W A l0.length (l0.set ii (⟨a1_0, a1_1, a1_2, a1_3, a1_4, a1_5⟩ : S36)) → l0.length ≤ c → Calls Tryd.prog 38 #[.slice A l0.length c] W fun e w' => e = .returned (.bool q) ∧ Below W.heap.size W w' from fun W A c hr hc => by
    have := table_May_c.calls A c (l0.set ii (⟨a1_0, a1_1, a1_2, a1_3, a1_4, a1_5⟩ : S36)) q W (by rw [List.length_set]; exact hr) (by rw [List.length_set]; exact hc) hq
    rw [List.length_set] at this
    exact this)
   clear hq
   cases q with
   | false =>
    rw [if_neg (by decide)] at h
    simp only [Option.some.injEq, Prod.mk.injEq] at h
    obtain ⟨rfl, rfl⟩ := h
    go_enter Tryd.func27, Tryd.ntmps27
    go_wp2_with (first
     | (go_at_call 48; refine (HCL.out _ (c4_ HR.out (p3_ (Below.refl _ _) _))).mono ?_; rintro e w1 ⟨v, rfl, hv, hb1⟩; have HV := am_ (Kd.R_lower hv (show w.heap.size ≤ _ by first | (simp; done) | exact Nat.le_succ _)); have HVB := am_ hv; have E1 := am_ (kb_ (blk_new w (.cells #[.int .i64 a1_0, .int .i64 a1_1, .string a1_2, .int .i64 a1_3, .string a1_4, .bool a1_5] 36)) hb1); have HB := am_ (bt_ (p3_ (Below.refl _ _) _) hb1); have u0 := bc_ E1.out 0; clear hb1 hv)
     | (go_at_call 42; refine (HAT.out _ (c4_ HR.out HB.out)).mono ?_; rintro e w2 ⟨rfl, hb2⟩; have HVB2 := Kd.R_below HVB.out hb2; have E2 := am_ (kb_ E1.out hb2); have HB2 := am_ (bt_ HB.out hb2); have x0 := bc_ E2.out 0; have x1 := bc_ E2.out 1; have x2 := bc_ E2.out 2; have x3 := bc_ E2.out 3; have x4 := bc_ E2.out 4; have x5 := bc_ E2.out 5; obtain ⟨g, cap, rfl, hbg, _, _⟩ := Kd.R_form HVB2 (by omega); obtain ⟨cur, hc, _, hcap, hmx, hsz, _, _, hx⟩ := table_With.cells_of HVB2; have hbg0 : w.heap.size ≤ g := Nat.le_trans (by first | (simp; done) | exact Nat.le_succ _) hbg; have hgne : w.heap.size ≠ g := Nat.ne_of_lt (Nat.lt_of_lt_of_le (by simp) hbg); have y0 := bc_ hc (ii * 6); have yh0 := hx (ii * 6 + 0) (by omega); have z0 := bf_ hc (ii * 6); have y1 := bc_ hc (ii * 6 + 1); have yh1 := hx (ii * 6 + 1) (by omega); have z1 := bf_ hc (ii * 6 + 1); have y2 := bc_ hc (ii * 6 + 2); have yh2 := hx (ii * 6 + 2) (by omega); have z2 := bf_ hc (ii * 6 + 2); have y3 := bc_ hc (ii * 6 + 3); have yh3 := hx (ii * 6 + 3) (by omega); have z3 := bf_ hc (ii * 6 + 3); have y4 := bc_ hc (ii * 6 + 4); have yh4 := hx (ii * 6 + 4) (by omega); have z4 := bf_ hc (ii * 6 + 4); have y5 := bc_ hc (ii * 6 + 5); have yh5 := hx (ii * 6 + 5) (by omega); have z5 := bf_ hc (ii * 6 + 5); rw [Nat.add_zero] at yh0; rw [yh0] at y0; rw [yh1] at y1; rw [yh2] at y2; rw [yh3] at y3; rw [yh4] at y4; rw [yh5] at y5; clear yh0 yh1 yh2 yh3 yh4 yh5; have HC3 := am_ (blk_set (blk_set (blk_set (blk_set (blk_set (blk_set hc (ii * 6) (.int .i64 a1_0)) (ii * 6 + 1) (.int .i64 a1_1)) (ii * 6 + 2) (.string a1_2)) (ii * 6 + 3) (.int .i64 a1_3)) (ii * 6 + 4) (.string a1_4)) (ii * 6 + 5) (.bool a1_5)); have HX3 := am_ (table_With.set_cells hx ii hil (by omega) (⟨a1_0, a1_1, a1_2, a1_3, a1_4, a1_5⟩ : S36)); have HB4 := am_ (show Below w.heap.size w ((((((w2.setCell ⟨g, ii * 6, none⟩ (.int .i64 a1_0)).setCell ⟨g, ii * 6 + 1, none⟩ (.int .i64 a1_1)).setCell ⟨g, ii * 6 + 2, none⟩ (.string a1_2)).setCell ⟨g, ii * 6 + 3, none⟩ (.int .i64 a1_3)).setCell ⟨g, ii * 6 + 4, none⟩ (.string a1_4)).setCell ⟨g, ii * 6 + 5, none⟩ (.bool a1_5)) from ((((((HB2.out.setCell hbg0 _).setCell hbg0 _).setCell hbg0 _).setCell hbg0 _).setCell hbg0 _).setCell hbg0 _)); have HV4 := am_ (show Kd.R k36 36 ((((((w2.setCell ⟨g, ii * 6, none⟩ (.int .i64 a1_0)).setCell ⟨g, ii * 6 + 1, none⟩ (.int .i64 a1_1)).setCell ⟨g, ii * 6 + 2, none⟩ (.string a1_2)).setCell ⟨g, ii * 6 + 3, none⟩ (.int .i64 a1_3)).setCell ⟨g, ii * 6 + 4, none⟩ (.string a1_4)).setCell ⟨g, ii * 6 + 5, none⟩ (.bool a1_5)) w.heap.size (fun _ => True) (.slice (some ⟨g, 0, none⟩) l0.length cap) (l0.set ii (⟨a1_0, a1_1, a1_2, a1_3, a1_4, a1_5⟩ : S36)) from table_With.of_cells HC3.out (List.length_set).symm hcap hmx (by simpa using hsz) hbg0 trivial HX3.out); have HN := am_ hcap; clear hb2 HVB2 hx hc hcap hmx hsz hbg HC3 HX3)
     | (go_at_call 38; with_reducible refine (HM.out _ (c4_ HR.out HB4.out)).mono ?_; rintro e w5 ⟨rfl, hb5⟩; have HB5 := am_ (bt_ HB4.out hb5); have HV5 := am_ (Kd.R_below HV4.out hb5); clear hb5)
     | (go_at_call 38; with_reducible refine (HQ.out _ _ _ (by have := (Kd.R_reads' HV5.out).2.2; rw [List.length_set] at this; exact this) HN.out).mono ?_; rintro e w6 ⟨rfl, hb6⟩; have HB6 := am_ (bt_ HB5.out hb6); have HV6 := am_ (Kd.R_below HV5.out hb6); clear hb6))
    go_ret2
    exact ⟨_, rfl, Kd.R_nil _ _ _ _ _, HB6.out⟩
   | true =>
    rw [if_pos rfl] at h
    simp only [Option.some.injEq, Prod.mk.injEq] at h
    obtain ⟨rfl, rfl⟩ := h
    go_enter Tryd.func27, Tryd.ntmps27
    go_wp2_with (first
     | (go_at_call 48; refine (HCL.out _ (c4_ HR.out (p3_ (Below.refl _ _) _))).mono ?_; rintro e w1 ⟨v, rfl, hv, hb1⟩; have HV := am_ (Kd.R_lower hv (show w.heap.size ≤ _ by first | (simp; done) | exact Nat.le_succ _)); have HVB := am_ hv; have E1 := am_ (kb_ (blk_new w (.cells #[.int .i64 a1_0, .int .i64 a1_1, .string a1_2, .int .i64 a1_3, .string a1_4, .bool a1_5] 36)) hb1); have HB := am_ (bt_ (p3_ (Below.refl _ _) _) hb1); have u0 := bc_ E1.out 0; clear hb1 hv)
     | (go_at_call 42; refine (HAT.out _ (c4_ HR.out HB.out)).mono ?_; rintro e w2 ⟨rfl, hb2⟩; have HVB2 := Kd.R_below HVB.out hb2; have E2 := am_ (kb_ E1.out hb2); have HB2 := am_ (bt_ HB.out hb2); have x0 := bc_ E2.out 0; have x1 := bc_ E2.out 1; have x2 := bc_ E2.out 2; have x3 := bc_ E2.out 3; have x4 := bc_ E2.out 4; have x5 := bc_ E2.out 5; obtain ⟨g, cap, rfl, hbg, _, _⟩ := Kd.R_form HVB2 (by omega); obtain ⟨cur, hc, _, hcap, hmx, hsz, _, _, hx⟩ := table_With.cells_of HVB2; have hbg0 : w.heap.size ≤ g := Nat.le_trans (by first | (simp; done) | exact Nat.le_succ _) hbg; have hgne : w.heap.size ≠ g := Nat.ne_of_lt (Nat.lt_of_lt_of_le (by simp) hbg); have y0 := bc_ hc (ii * 6); have yh0 := hx (ii * 6 + 0) (by omega); have z0 := bf_ hc (ii * 6); have y1 := bc_ hc (ii * 6 + 1); have yh1 := hx (ii * 6 + 1) (by omega); have z1 := bf_ hc (ii * 6 + 1); have y2 := bc_ hc (ii * 6 + 2); have yh2 := hx (ii * 6 + 2) (by omega); have z2 := bf_ hc (ii * 6 + 2); have y3 := bc_ hc (ii * 6 + 3); have yh3 := hx (ii * 6 + 3) (by omega); have z3 := bf_ hc (ii * 6 + 3); have y4 := bc_ hc (ii * 6 + 4); have yh4 := hx (ii * 6 + 4) (by omega); have z4 := bf_ hc (ii * 6 + 4); have y5 := bc_ hc (ii * 6 + 5); have yh5 := hx (ii * 6 + 5) (by omega); have z5 := bf_ hc (ii * 6 + 5); rw [Nat.add_zero] at yh0; rw [yh0] at y0; rw [yh1] at y1; rw [yh2] at y2; rw [yh3] at y3; rw [yh4] at y4; rw [yh5] at y5; clear yh0 yh1 yh2 yh3 yh4 yh5; have HC3 := am_ (blk_set (blk_set (blk_set (blk_set (blk_set (blk_set hc (ii * 6) (.int .i64 a1_0)) (ii * 6 + 1) (.int .i64 a1_1)) (ii * 6 + 2) (.string a1_2)) (ii * 6 + 3) (.int .i64 a1_3)) (ii * 6 + 4) (.string a1_4)) (ii * 6 + 5) (.bool a1_5)); have HX3 := am_ (table_With.set_cells hx ii hil (by omega) (⟨a1_0, a1_1, a1_2, a1_3, a1_4, a1_5⟩ : S36)); have HB4 := am_ (show Below w.heap.size w ((((((w2.setCell ⟨g, ii * 6, none⟩ (.int .i64 a1_0)).setCell ⟨g, ii * 6 + 1, none⟩ (.int .i64 a1_1)).setCell ⟨g, ii * 6 + 2, none⟩ (.string a1_2)).setCell ⟨g, ii * 6 + 3, none⟩ (.int .i64 a1_3)).setCell ⟨g, ii * 6 + 4, none⟩ (.string a1_4)).setCell ⟨g, ii * 6 + 5, none⟩ (.bool a1_5)) from ((((((HB2.out.setCell hbg0 _).setCell hbg0 _).setCell hbg0 _).setCell hbg0 _).setCell hbg0 _).setCell hbg0 _)); have HV4 := am_ (show Kd.R k36 36 ((((((w2.setCell ⟨g, ii * 6, none⟩ (.int .i64 a1_0)).setCell ⟨g, ii * 6 + 1, none⟩ (.int .i64 a1_1)).setCell ⟨g, ii * 6 + 2, none⟩ (.string a1_2)).setCell ⟨g, ii * 6 + 3, none⟩ (.int .i64 a1_3)).setCell ⟨g, ii * 6 + 4, none⟩ (.string a1_4)).setCell ⟨g, ii * 6 + 5, none⟩ (.bool a1_5)) w.heap.size (fun _ => True) (.slice (some ⟨g, 0, none⟩) l0.length cap) (l0.set ii (⟨a1_0, a1_1, a1_2, a1_3, a1_4, a1_5⟩ : S36)) from table_With.of_cells HC3.out (List.length_set).symm hcap hmx (by simpa using hsz) hbg0 trivial HX3.out); have HN := am_ hcap; clear hb2 HVB2 hx hc hcap hmx hsz hbg HC3 HX3)
     | (go_at_call 38; with_reducible refine (HM.out _ (c4_ HR.out HB4.out)).mono ?_; rintro e w5 ⟨rfl, hb5⟩; have HB5 := am_ (bt_ HB4.out hb5); have HV5 := am_ (Kd.R_below HV4.out hb5); clear hb5)
     | (go_at_call 38; with_reducible refine (HQ.out _ _ _ (by have := (Kd.R_reads' HV5.out).2.2; rw [List.length_set] at this; exact this) HN.out).mono ?_; rintro e w6 ⟨rfl, hb6⟩; have HB6 := am_ (bt_ HB5.out hb6); have HV6 := am_ (Kd.R_below HV5.out hb6); clear hb6))
    go_ret2
    exact ⟨_, rfl, HV6.out, HB6.out⟩
 ·have hi2 : ¬ (table_at.idx (fun y => y.f0 == ((⟨a1_0, a1_1, a1_2, a1_3, a1_4, a1_5⟩ : S36)).f0) l0 ≥ 0) := hi
  rw [if_neg hi2] at h
  have hib : decide ((0 : Int) ≤ table_at.idx (fun y => y.f0 == a1_0) l0) = false := decide_eq_false hi
  clear hi hi2
  generalize table_at.idx (fun y => y.f0 == a1_0) l0 = i at HAT hib
  obtain ⟨xs, hxs⟩ : ∃ xs, l0 ++ [(⟨a1_0, a1_1, a1_2, a1_3, a1_4, a1_5⟩ : S36)] = xs := ⟨_, rfl⟩
  rw [hxs] at h
  have HXL := am_ (show xs.length = l0.length + 1 by rw [← hxs]; simp)
  cases m with
  | false =>
   rw [if_neg (by decide)] at h
   simp only [Option.some.injEq, Prod.mk.injEq] at h
   obtain ⟨rfl, rfl⟩ := h
   go_enter Tryd.func27, Tryd.ntmps27
   go_wp2_with (first
    | (go_at_call 48; refine (HCL.out _ (c4_ HR.out (p3_ (Below.refl _ _) _))).mono ?_; rintro e w1 ⟨v, rfl, hv, hb1⟩; have HV := am_ (Kd.R_lower hv (show w.heap.size ≤ _ by first | (simp; done) | exact Nat.le_succ _)); have HVB := am_ hv; have E1 := am_ (kb_ (blk_new w (.cells #[.int .i64 a1_0, .int .i64 a1_1, .string a1_2, .int .i64 a1_3, .string a1_4, .bool a1_5] 36)) hb1); have HB := am_ (bt_ (p3_ (Below.refl _ _) _) hb1); have u0 := bc_ E1.out 0; clear hb1 hv)
    | (go_at_call 42; refine (HAT.out _ (c4_ HR.out HB.out)).mono ?_; rintro e w2 ⟨rfl, hb2⟩; have HV2 := am_ (Kd.R_below HV.out hb2); have HVB2 := am_ (Kd.R_below HVB.out hb2); have E2 := am_ (kb_ E1.out hb2); have HB2 := am_ (bt_ HB.out hb2); have x0 := bc_ E2.out 0; have x1 := bc_ E2.out 1; have x2 := bc_ E2.out 2; have x3 := bc_ E2.out 3; have x4 := bc_ E2.out 4; have x5 := bc_ E2.out 5; clear hb2)
    | ((with_reducible refine gate_builtin (b := .append) (xs := #[.tmp 20, .tmp 22]) rfl ?_); at_builtin; refine Kd.R_append k36 (w0 := w) w.heap.size rfl (.tmp 20) (.tmp 22) 27 36 (.agg #[.int .i64 0, .int .i64 0, .string ⟨#[]⟩, .int .i64 0, .string ⟨#[]⟩, .bool false]) 64 rfl Tryd.underlying27 table_With.info rfl (by decide) (by omega) v l0 (⟨a1_0, a1_1, a1_2, a1_3, a1_4, a1_5⟩ : S36) [.int .i64 a1_0, .int .i64 a1_1, .string a1_2, .int .i64 a1_3, .string a1_4, .bool a1_5] (fun _ => True) (fun _ => False) rfl rfl ?aP (fun _ hk => hk.elim) ?aF ?aO ?aB ?aS ?aL ?_; (case aP => exact k36_mkM _ _ _ (⟨a1_0, a1_1, a1_2, a1_3, a1_4, a1_5⟩ : S36)); (case aF => exact fun _ _ => trivial); (case aO => exact HV2.out); (case aB => exact HB2.out); (case aS => exact HB2.out.size); (case aL => omega); intro v1 w3 ho hb hg hat; rw [hxs] at ho; obtain ⟨g, cap, rfl, hbg, _, _⟩ := Kd.R_form ho (by have := HXL.out; omega); obtain ⟨cur, hc, _, hcap, hmx, hsz, _, _, hx⟩ := table_With.cells_of ho; have HB3 := am_ hb; have HC3 := am_ hc; have HX3 := am_ hx; have HG := am_ hbg; have HN := am_ hcap; have HMX := am_ hmx; have HSZ := am_ hsz; clear ho hb hg hat hc hx hbg hcap hmx hsz)
    | (go_at_call 49; refine (table_With.sort xs g cap cur w3 HC3.out HN.out HSZ.out HX3.out (by have := HXL.out; omega) (by have := HXL.out; omega)).mono ?_; rintro e w4 ⟨rfl, cur', hc', hs', hx', hg'⟩; have HB4 := am_ (HB3.out.grown hg' HB3.out.size (fun k hk => by cases hk; exact HG.out)); have HV4 := am_ (table_With.of_cells (base := w.heap.size) (ok := fun _ => True) hc' (table_With.srt_length xs).symm HN.out HMX.out hs' HG.out trivial hx'); clear hc' hs' hx' hg')
    | (go_at_call 38; with_reducible refine (HM.out _ (c4_ HR.out HB4.out)).mono ?_; rintro e w5 ⟨rfl, hb5⟩; have HB5 := am_ (bt_ HB4.out hb5); have HV5 := am_ (Kd.R_below HV4.out hb5); clear hb5))
   go_ret2
   exact ⟨_, rfl, Kd.R_nil _ _ _ _ _, HB5.out⟩
  | true =>
   rw [if_pos rfl] at h
   replace h := Option.bind_eq_some_iff.1 h
   obtain ⟨q, hq, h⟩ := h
   have HQ := am_ (show ∀ (W : World) (A : Option Addr) (c : Nat), Kd.C k36 W A xs.length (table_With.srt xs) → xs.length ≤ c → Calls Tryd.prog 38 #[.slice A xs.length c] W fun e w' => e = .returned (.bool q) ∧ Below W.heap.size W w' from fun W A c hr hc => by
    have := table_May_c.calls A c (table_With.srt xs) q W (by rw [table_With.srt_length]; exact hr) (by rw [table_With.srt_length]; exact hc) hq
    rw [table_With.srt_length] at this
    exact this)
   clear hq
   cases q with
   | false =>
    rw [if_neg (by decide)] at h
    simp only [Option.some.injEq, Prod.mk.injEq] at h
    obtain ⟨rfl, rfl⟩ := h
    go_enter Tryd.func27, Tryd.ntmps27
    go_wp2_with (first
     | (go_at_call 48; refine (HCL.out _ (c4_ HR.out (p3_ (Below.refl _ _) _))).mono ?_; rintro e w1 ⟨v, rfl, hv, hb1⟩; have HV := am_ (Kd.R_lower hv (show w.heap.size ≤ _ by first | (simp; done) | exact Nat.le_succ _)); have HVB := am_ hv; have E1 := am_ (kb_ (blk_new w (.cells #[.int .i64 a1_0, .int .i64 a1_1, .string a1_2, .int .i64 a1_3, .string a1_4, .bool a1_5] 36)) hb1); have HB := am_ (bt_ (p3_ (Below.refl _ _) _) hb1); have u0 := bc_ E1.out 0; clear hb1 hv)
     | (go_at_call 42; refine (HAT.out _ (c4_ HR.out HB.out)).mono ?_; rintro e w2 ⟨rfl, hb2⟩; have HV2 := am_ (Kd.R_below HV.out hb2); have HVB2 := am_ (Kd.R_below HVB.out hb2); have E2 := am_ (kb_ E1.out hb2); have HB2 := am_ (bt_ HB.out hb2); have x0 := bc_ E2.out 0; have x1 := bc_ E2.out 1; have x2 := bc_ E2.out 2; have x3 := bc_ E2.out 3; have x4 := bc_ E2.out 4; have x5 := bc_ E2.out 5; clear hb2)
     | ((with_reducible refine gate_builtin (b := .append) (xs := #[.tmp 20, .tmp 22]) rfl ?_); at_builtin; refine Kd.R_append k36 (w0 := w) w.heap.size rfl (.tmp 20) (.tmp 22) 27 36 (.agg #[.int .i64 0, .int .i64 0, .string ⟨#[]⟩, .int .i64 0, .string ⟨#[]⟩, .bool false]) 64 rfl Tryd.underlying27 table_With.info rfl (by decide) (by omega) v l0 (⟨a1_0, a1_1, a1_2, a1_3, a1_4, a1_5⟩ : S36) [.int .i64 a1_0, .int .i64 a1_1, .string a1_2, .int .i64 a1_3, .string a1_4, .bool a1_5] (fun _ => True) (fun _ => False) rfl rfl ?aP (fun _ hk => hk.elim) ?aF ?aO ?aB ?aS ?aL ?_; (case aP => exact k36_mkM _ _ _ (⟨a1_0, a1_1, a1_2, a1_3, a1_4, a1_5⟩ : S36)); (case aF => exact fun _ _ => trivial); (case aO => exact HV2.out); (case aB => exact HB2.out); (case aS => exact HB2.out.size); (case aL => omega); intro v1 w3 ho hb hg hat; rw [hxs] at ho; obtain ⟨g, cap, rfl, hbg, _, _⟩ := Kd.R_form ho (by have := HXL.out; omega); obtain ⟨cur, hc, _, hcap, hmx, hsz, _, _, hx⟩ := table_With.cells_of ho; have HB3 := am_ hb; have HC3 := am_ hc; have HX3 := am_ hx; have HG := am_ hbg; have HN := am_ hcap; have HMX := am_ hmx; have HSZ := am_ hsz; clear ho hb hg hat hc hx hbg hcap hmx hsz)
     | (go_at_call 49; refine (table_With.sort xs g cap cur w3 HC3.out HN.out HSZ.out HX3.out (by have := HXL.out; omega) (by have := HXL.out; omega)).mono ?_; rintro e w4 ⟨rfl, cur', hc', hs', hx', hg'⟩; have HB4 := am_ (HB3.out.grown hg' HB3.out.size (fun k hk => by cases hk; exact HG.out)); have HV4 := am_ (table_With.of_cells (base := w.heap.size) (ok := fun _ => True) hc' (table_With.srt_length xs).symm HN.out HMX.out hs' HG.out trivial hx'); clear hc' hs' hx' hg')
     | (go_at_call 38; with_reducible refine (HM.out _ (c4_ HR.out HB4.out)).mono ?_; rintro e w5 ⟨rfl, hb5⟩; have HB5 := am_ (bt_ HB4.out hb5); have HV5 := am_ (Kd.R_below HV4.out hb5); clear hb5)
     | (go_at_call 38; with_reducible refine (HQ.out _ _ _ (by have := (Kd.R_reads' HV5.out).2.2; rw [table_With.srt_length] at this; exact this) HN.out).mono ?_; rintro e w6 ⟨rfl, hb6⟩; have HB6 := am_ (bt_ HB5.out hb6); have HV6 := am_ (Kd.R_below HV5.out hb6); clear hb6))
    go_ret2
    exact ⟨_, rfl, Kd.R_nil _ _ _ _ _, HB6.out⟩
   | true =>
    rw [if_pos rfl] at h
    simp only [Option.some.injEq, Prod.mk.injEq] at h
    obtain ⟨rfl, rfl⟩ := h
    go_enter Tryd.func27, Tryd.ntmps27
    go_wp2_with (first
     | (go_at_call 48; refine (HCL.out _ (c4_ HR.out (p3_ (Below.refl _ _) _))).mono ?_; rintro e w1 ⟨v, rfl, hv, hb1⟩; have HV := am_ (Kd.R_lower hv (show w.heap.size ≤ _ by first | (simp; done) | exact Nat.le_succ _)); have HVB := am_ hv; have E1 := am_ (kb_ (blk_new w (.cells #[.int .i64 a1_0, .int .i64 a1_1, .string a1_2, .int .i64 a1_3, .string a1_4, .bool a1_5] 36)) hb1); have HB := am_ (bt_ (p3_ (Below.refl _ _) _) hb1); have u0 := bc_ E1.out 0; clear hb1 hv)
     | (go_at_call 42; refine (HAT.out _ (c4_ HR.out HB.out)).mono ?_; rintro e w2 ⟨rfl, hb2⟩; have HV2 := am_ (Kd.R_below HV.out hb2); have HVB2 := am_ (Kd.R_below HVB.out hb2); have E2 := am_ (kb_ E1.out hb2); have HB2 := am_ (bt_ HB.out hb2); have x0 := bc_ E2.out 0; have x1 := bc_ E2.out 1; have x2 := bc_ E2.out 2; have x3 := bc_ E2.out 3; have x4 := bc_ E2.out 4; have x5 := bc_ E2.out 5; clear hb2)
     | ((with_reducible refine gate_builtin (b := .append) (xs := #[.tmp 20, .tmp 22]) rfl ?_); at_builtin; refine Kd.R_append k36 (w0 := w) w.heap.size rfl (.tmp 20) (.tmp 22) 27 36 (.agg #[.int .i64 0, .int .i64 0, .string ⟨#[]⟩, .int .i64 0, .string ⟨#[]⟩, .bool false]) 64 rfl Tryd.underlying27 table_With.info rfl (by decide) (by omega) v l0 (⟨a1_0, a1_1, a1_2, a1_3, a1_4, a1_5⟩ : S36) [.int .i64 a1_0, .int .i64 a1_1, .string a1_2, .int .i64 a1_3, .string a1_4, .bool a1_5] (fun _ => True) (fun _ => False) rfl rfl ?aP (fun _ hk => hk.elim) ?aF ?aO ?aB ?aS ?aL ?_; (case aP => exact k36_mkM _ _ _ (⟨a1_0, a1_1, a1_2, a1_3, a1_4, a1_5⟩ : S36)); (case aF => exact fun _ _ => trivial); (case aO => exact HV2.out); (case aB => exact HB2.out); (case aS => exact HB2.out.size); (case aL => omega); intro v1 w3 ho hb hg hat; rw [hxs] at ho; obtain ⟨g, cap, rfl, hbg, _, _⟩ := Kd.R_form ho (by have := HXL.out; omega); obtain ⟨cur, hc, _, hcap, hmx, hsz, _, _, hx⟩ := table_With.cells_of ho; have HB3 := am_ hb; have HC3 := am_ hc; have HX3 := am_ hx; have HG := am_ hbg; have HN := am_ hcap; have HMX := am_ hmx; have HSZ := am_ hsz; clear ho hb hg hat hc hx hbg hcap hmx hsz)
     | (go_at_call 49; refine (table_With.sort xs g cap cur w3 HC3.out HN.out HSZ.out HX3.out (by have := HXL.out; omega) (by have := HXL.out; omega)).mono ?_; rintro e w4 ⟨rfl, cur', hc', hs', hx', hg'⟩; have HB4 := am_ (HB3.out.grown hg' HB3.out.size (fun k hk => by cases hk; exact HG.out)); have HV4 := am_ (table_With.of_cells (base := w.heap.size) (ok := fun _ => True) hc' (table_With.srt_length xs).symm HN.out HMX.out hs' HG.out trivial hx'); clear hc' hs' hx' hg')
     | (go_at_call 38; with_reducible refine (HM.out _ (c4_ HR.out HB4.out)).mono ?_; rintro e w5 ⟨rfl, hb5⟩; have HB5 := am_ (bt_ HB4.out hb5); have HV5 := am_ (Kd.R_below HV4.out hb5); clear hb5)
     | (go_at_call 38; with_reducible refine (HQ.out _ _ _ (by have := (Kd.R_reads' HV5.out).2.2; rw [table_With.srt_length] at this; exact this) HN.out).mono ?_; rintro e w6 ⟨rfl, hb6⟩; have HB6 := am_ (bt_ HB5.out hb6); have HV6 := am_ (Kd.R_below HV5.out hb6); clear hb6))
    go_ret2
    exact ⟨_, rfl, HV6.out, HB6.out⟩

/-! ### lease_Freed: function 51 -/
def lease_Freed.f (a0_0 : Int) (a0_1 : Int) (a0_2 : ByteArray) (a0_3 : Int) (a0_4 : ByteArray) (a0_5 : Bool) : Option (Int × Int × ByteArray × Int × ByteArray × Bool) := some (a0_0, 0, a0_2, a0_3, (⟨#[]⟩ : ByteArray), false)
set_option maxHeartbeats 8000000 in
set_option maxRecDepth 100000 in
theorem lease_Freed.calls (a0_0 : Int) (a0_1 : Int) (a0_2 : ByteArray) (a0_3 : Int) (a0_4 : ByteArray) (a0_5 : Bool) (r1 : Int) (r2 : Int) (r3 : ByteArray) (r4 : Int) (r5 : ByteArray) (r6 : Bool) (w : World) (h : lease_Freed.f a0_0 a0_1 a0_2 a0_3 a0_4 a0_5 = some (r1, r2, r3, r4, r5, r6)) :
  Calls Tryd.prog 51 #[.agg #[.int .i64 a0_0, .int .i64 a0_1, .string a0_2, .int .i64 a0_3, .string a0_4, .bool a0_5]] w fun e w' => e = .returned (.agg #[.int .i64 r1, .int .i64 r2, .string r3, .int .i64 r4, .string r5, .bool r6]) ∧ Below w.heap.size w w' := by
 have hu36 := Tryd.underlying36
 have HB := am_ (Below.refl w.heap.size w)
 have H : (some (a0_0, 0, a0_2, a0_3, (⟨#[]⟩ : ByteArray), false)) = some (r1, r2, r3, r4, r5, r6) := h
 clear h
 simp only [Option.some.injEq, Prod.mk.injEq] at H
 obtain ⟨rfl, rfl, rfl, rfl, rfl, rfl⟩ := H
 go_enter Tryd.func51, Tryd.ntmps51
 go_wp2_with (first | ((with_reducible refine gate_dst (N := 1) rfl ?_); refine box_event ?hg (N := 1) ?hd (cs := #[.int .i64 a0_0, .int .i64 a0_1, .string a0_2, .int .i64 a0_3, .string a0_4, .bool a0_5]) (t := 36) ?hr ?_; (case hd => rfl); (case hg => rfl); (case hr => first | (go_simp; done) | (go_simp; rfl)); intro gb119 hg w2 hbox hb; have n0_ := am_ (bt_ (by repeat (with_reducible first | exact HB.out | apply p3_ | apply p1_ | apply p2_)) hb); have n1_ := am_ (hbox); have n2_ := am_ ((by rw [hg]; exact (bz_ (by repeat (with_reducible first | exact HB.out | apply p3_ | apply p1_ | apply p2_))) : w.heap.size ≤ gb119)); have n3_ := am_ ((by rw [hg]; exact (bz_ (by repeat (with_reducible first | exact HB.out | apply p3_ | apply p1_ | apply p2_))) : w.heap.size ≤ gb119)); clear HB; have HB := n0_; have BK119 := n1_; have GW119 := n2_; have GE119 := n3_; clear n0_ n1_ n2_ n3_; clear hb hbox hg) | ((with_reducible refine gate_dst (N := 2) rfl ?_); refine box_event ?hg (N := 2) ?hd (cs := #[.int .i64 0, .int .i64 0, .string (⟨#[]⟩ : ByteArray), .int .i64 0, .string (⟨#[]⟩ : ByteArray), .bool false]) (t := 36) ?hr ?_; (case hd => rfl); (case hg => rfl); (case hr => first | (go_simp; done) | (go_simp; rfl)); intro gb120 hg w3 hbox hb; have n0_ := am_ (kb_ (g := gb119) (o := .cells #[.int .i64 a0_0, .int .i64 a0_1, .string a0_2, .int .i64 a0_3, .string a0_4, .bool a0_5] 36 (0, 0)) (by (with_reducible repeat (first | refine k2_ ?_ _ | refine k3_ ?_ | refine k1_ ?_ _)); exact BK119.out) hb); have n1_ := am_ (bt_ (by repeat (with_reducible first | exact HB.out | apply p3_ | apply p1_ | apply p2_ | refine bs_ ?_ GE119.out)) hb); have n2_ := am_ (hbox); have n3_ := am_ ((by rw [hg]; exact (bz_ (by repeat (with_reducible first | exact HB.out | apply p3_ | apply p1_ | apply p2_ | refine bs_ ?_ GE119.out))) : w.heap.size ≤ gb120)); have n4_ := am_ ((by rw [hg]; exact (bz_ (by repeat (with_reducible first | exact HB.out | apply p3_ | apply p1_ | apply p2_ | refine bs_ ?_ GE119.out))) : w.heap.size ≤ gb120)); have n5_ := am_ ((by rw [hg]; exact Nat.ne_of_lt (blk_lt (g := gb119) (o := .cells #[.int .i64 a0_0, .int .i64 a0_1, .string a0_2, .int .i64 a0_3, .string a0_4, .bool a0_5] 36 (0, 0)) (by (with_reducible repeat (first | refine k2_ ?_ _ | refine k3_ ?_ | refine k1_ ?_ _)); exact BK119.out)) : gb119 ≠ gb120)); have n6_ := am_ ((by rw [hg]; exact Nat.ne_of_gt (blk_lt (g := gb119) (o := .cells #[.int .i64 a0_0, .int .i64 a0_1, .string a0_2, .int .i64 a0_3, .string a0_4, .bool a0_5] 36 (0, 0)) (by (with_reducible repeat (first | refine k2_ ?_ _ | refine k3_ ?_ | refine k1_ ?_ _)); exact BK119.out)) : gb120 ≠ gb119)); clear BK119; clear HB; have BK119 := n0_; have HB := n1_; have BK120 := n2_; have GW120 := n3_; have GE120 := n4_; have NB119_120 := n5_; have NB120_119 := n6_; clear n0_ n1_ n2_ n3_ n4_ n5_ n6_; clear hb hbox hg; have hnb4 := NB119_120.out; have hnc4 := NB120_119.out; have hcz5_0 : w3.cell? ⟨gb119, 0, none⟩ = some (.int .i64 a0_0) := (bc_ BK119.out 0).trans rfl; have hcz5_1 : w3.cell? ⟨gb119, 1, none⟩ = some (.int .i64 a0_1) := (bc_ BK119.out 1).trans rfl; have hcz5_2 : w3.cell? ⟨gb119, 2, none⟩ = some (.string a0_2) := (bc_ BK119.out 2).trans rfl; have hcz5_3 : w3.cell? ⟨gb119, 3, none⟩ = some (.int .i64 a0_3) := (bc_ BK119.out 3).trans rfl; have hcz5_4 : w3.cell? ⟨gb119, 4, none⟩ = some (.string a0_4) := (bc_ BK119.out 4).trans rfl; have hcz5_5 : w3.cell? ⟨gb119, 5, none⟩ = some (.bool a0_5) := (bc_ BK119.out 5).trans rfl; have hfz5_0 := bf_ BK119.out 0; have hfz5_1 := bf_ BK119.out 1; have hfz5_2 := bf_ BK119.out 2; have hfz5_3 := bf_ BK119.out 3; have hfz5_4 := bf_ BK119.out 4; have hfz5_5 := bf_ BK119.out 5; have hcz6_0 : w3.cell? ⟨gb120, 0, none⟩ = some (.int .i64 0) := (bc_ BK120.out 0).trans rfl; have hcz6_1 : w3.cell? ⟨gb120, 1, none⟩ = some (.int .i64 0) := (bc_ BK120.out 1).trans rfl; have hcz6_2 : w3.cell? ⟨gb120, 2, none⟩ = some (.string (⟨#[]⟩ : ByteArray)) := (bc_ BK120.out 2).trans rfl; have hcz6_3 : w3.cell? ⟨gb120, 3, none⟩ = some (.int .i64 0) := (bc_ BK120.out 3).trans rfl; have hcz6_4 : w3.cell? ⟨gb120, 4, none⟩ = some (.string (⟨#[]⟩ : ByteArray)) := (bc_ BK120.out 4).trans rfl; have hcz6_5 : w3.cell? ⟨gb120, 5, none⟩ = some (.bool false) := (bc_ BK120.out 5).trans rfl; have hfz6_0 := bf_ BK120.out 0; have hfz6_1 := bf_ BK120.out 1; have hfz6_2 := bf_ BK120.out 2; have hfz6_3 := bf_ BK120.out 3; have hfz6_4 := bf_ BK120.out 4; have hfz6_5 := bf_ BK120.out 5))
 refine bodyPost_ret (results_cell_row rfl _ _ gb120 36 #[.int .i64 a0_0, .int .i64 0, .string a0_2, .int .i64 a0_3, .string (⟨#[]⟩ : ByteArray), .bool false] (0, 0) _ rfl (by (with_reducible repeat (first | refine k2_ ?_ _ | refine k3_ ?_ | refine k1_ ?_ _)); refine blk_put (cs := #[.int .i64 a0_0, .int .i64 0, .string a0_2, .int .i64 a0_3, .string (⟨#[]⟩ : ByteArray), .bool false]) ?_ 5 _ rfl; (with_reducible repeat (first | refine k2_ ?_ _ | refine k3_ ?_ | refine k1_ ?_ _)); refine blk_put (cs := #[.int .i64 a0_0, .int .i64 0, .string a0_2, .int .i64 a0_3, .string (⟨#[]⟩ : ByteArray), .bool false]) ?_ 4 _ rfl; (with_reducible repeat (first | refine k2_ ?_ _ | refine k3_ ?_ | refine k1_ ?_ _)); refine blk_put (cs := #[.int .i64 a0_0, .int .i64 0, .string a0_2, .int .i64 0, .string (⟨#[]⟩ : ByteArray), .bool false]) ?_ 3 _ rfl; (with_reducible repeat (first | refine k2_ ?_ _ | refine k3_ ?_ | refine k1_ ?_ _)); refine blk_put (cs := #[.int .i64 a0_0, .int .i64 0, .string (⟨#[]⟩ : ByteArray), .int .i64 0, .string (⟨#[]⟩ : ByteArray), .bool false]) ?_ 2 _ rfl; (with_reducible repeat (first | refine k2_ ?_ _ | refine k3_ ?_ | refine k1_ ?_ _)); refine blk_put (cs := #[.int .i64 a0_0, .int .i64 0, .string (⟨#[]⟩ : ByteArray), .int .i64 0, .string (⟨#[]⟩ : ByteArray), .bool false]) ?_ 1 _ rfl; (with_reducible repeat (first | refine k2_ ?_ _ | refine k3_ ?_ | refine k1_ ?_ _)); refine blk_put (cs := #[.int .i64 0, .int .i64 0, .string (⟨#[]⟩ : ByteArray), .int .i64 0, .string (⟨#[]⟩ : ByteArray), .bool false]) ?_ 0 _ rfl; (with_reducible repeat (first | refine k2_ ?_ _ | refine k3_ ?_ | refine k1_ ?_ _)); exact BK120.out) Tryd.underlying36 rfl (by kernel_rfl)) rfl ?_
 exact ⟨by first | rfl | (simp [errW_none, errW_some] <;> rfl) | (simp [*, errW_none, errW_some] <;> rfl), by repeat (with_reducible first | exact HB.out | apply p3_ | apply p1_ | apply p2_ | refine bs_ ?_ GE119.out | refine bs_ ?_ GE120.out)⟩

/-! ### offer_Drop: function 28 -/
-- BY HAND
-- 44 51
theorem offer_Drop.info : (Tryd.prog.info? 36).map (fun i => (i.zero, i.size, i.bytes)) = some (some (.agg #[.int .i64 0, .int .i64 0, .string ⟨#[]⟩, .int .i64 0, .string ⟨#[]⟩, .bool false]), 6, 64) := by kernel_rfl
theorem drop_step (p : S36 → Bool) (c : ByteArray) (now but : Int) (l : List S36) (i : Nat) (h : i < l.length) : dropL p c now but (l.take (i + 1)) = dropL p c now but (l.take i) ++ [if dropX p c now but l[i] = true then freedX l[i] else l[i]] := by
 unfold dropL
 rw [List.take_succ_eq_append_getElem h, List.map_append]
 rfl
set_option maxHeartbeats 8000000 in
set_option maxRecDepth 100000 in
theorem offer_Drop.freed (x0 x1 : Int) (x2 : ByteArray) (x3 : Int) (x4 : ByteArray) (x5 : Bool) (w : World) :
  Calls Tryd.prog 51 #[.agg #[.int .i64 x0, .int .i64 x1, .string x2, .int .i64 x3, .string x4, .bool x5]] w fun e w' => e = .returned (.agg #[.int .i64 x0, .int .i64 0, .string x2, .int .i64 x3, .string (⟨#[]⟩ : ByteArray), .bool false]) ∧ Below w.heap.size w w' := by
 go_enter Tryd.func51, Tryd.ntmps51
 go_wp2
 exact bodyPost_ret (v := .agg #[.int .i64 x0, .int .i64 0, .string x2, .int .i64 x3, .string (⟨#[]⟩ : ByteArray), .bool false]) (by simp [results, Tryd.results51, go_sem]) rfl ⟨rfl, by repeat (first | exact Below.refl _ _ | apply p3_)⟩
set_option maxHeartbeats 8000000 in
set_option maxRecDepth 100000 in
theorem offer_Drop.calls (p : S36 → Bool) (G : Nat) (lb : Array Value) (A1 : Option Addr) (c1 : Nat) (l1 : List S36) (now : Int) (client : ByteArray) (but : Int) (w : World) (hr1 : Kd.C k36 w A1 l1.length l1) (hc1 : l1.length ≤ c1) (hs : l1.length ≤ 1099511627776 ∧ ∀ x ∈ l1, x.f4.size ≤ 140737488351232)
  (eg : ∀ args w, (callFunc G args).run Tryd.prog w = .ok (.enter G args) w)
  (hp : ∀ (W : World) (gl : Nat) (x : S36), W.heap[gl]? = some (.cells #[.int .i64 x.f0, .int .i64 x.f1, .string x.f2, .int .i64 x.f3, .string x.f4, .bool x.f5] 36) → Calls Tryd.prog G (#[.pointer (some ⟨gl, 0, none⟩)] ++ lb) W fun e w' => e = .returned (.bool (p x)) ∧ Below W.heap.size W w') :
  Calls Tryd.prog 28 #[.slice A1 l1.length c1, .int .i64 now, .string client, .int .i64 but, .func (.func G) #[] lb] w fun e w' => ∃ v0_ : Value, e = .returned v0_ ∧ Kd.R k36 36 w' w.heap.size (fun _ => True) v0_ (dropL p client now but l1) ∧ Below w.heap.size w w' := by
 have HR1 := am_ hr1
 have HX := am_ hs.2
 have hl := hs.1
 have HP := am_ hp
 have HB := am_ (Below.refl w.heap.size w)
 have CF := am_ (fun x0 x1 x2 x3 x4 x5 W => offer_Drop.freed x0 x1 x2 x3 x4 x5 W)
 clear hr1 hc1 hs hp
 go_enter Tryd.func28, Tryd.ntmps28
 go_wp2
 go_loopg [11, 16] l1.length (fun d v11 v16 w' => ∃ i : Nat, i + d = l1.length ∧ v16 = .int .i64 (i : Int) ∧ Aside0 (Below w.heap.size w w') ∧ Aside0 (Kd.R k36 36 w' w.heap.size (fun _ => True) v11 (dropL p client now but (l1.take i))))
 case atStart => exact ⟨0, by omega, rfl, HB, ⟨Kd.R_nil _ _ _ _ _⟩⟩
 case round =>
  clear HB
  obtain ⟨i, hd, rfl, HB, HO⟩ := hrel
  by_cases hlt : i < l1.length
  ·have hlz : (i : Int) < (l1.length : Int) := by omega
   obtain ⟨ad, e1, hw0, hw1, hw2, hw3, hw4, hw5⟩ := at_T36 HR1.out (i : Int) (by omega) hlz
   cases e1
   rw [Int.toNat_natCast] at hw0 hw1 hw2 hw3 hw4 hw5
   have hx0 := (HB.out.cell (wb_ w _ hw0)).trans hw0; have hx1 := (HB.out.cell (wb_ w _ hw1)).trans hw1; have hx2 := (HB.out.cell (wb_ w _ hw2)).trans hw2; have hx3 := (HB.out.cell (wb_ w _ hw3)).trans hw3; have hx4 := (HB.out.cell (wb_ w _ hw4)).trans hw4; have hx5 := (HB.out.cell (wb_ w _ hw5)).trans hw5
   have hmem := (dropLease l1 (i : Int) (by omega) hlz).2
   have hsz := HX.out _ hmem
   have hrd : rd_T36 l1 (i : Int) = l1[i] := by
    unfold rd_T36
    rw [Int.toNat_natCast, List.getD_eq_getElem?_getD, List.getElem?_eq_getElem hlt]
    rfl
   have hst := drop_step p client now but l1 i hlt
   rw [← hrd] at hst
   clear hmem hrd hw0 hw1 hw2 hw3 hw4 hw5
   generalize rd_T36 l1 (i : Int) = x at hx0 hx1 hx2 hx3 hx4 hx5 hsz hst
   obtain ⟨x0, x1, x2, x3, x4, x5⟩ := x
   simp only at hx0 hx1 hx2 hx3 hx4 hx5 hsz
   obtain ⟨bh, hbh⟩ : ∃ b, holdsB x0 x1 x2 x3 x4 x5 client now = b := ⟨_, rfl⟩
   obtain ⟨bp, hbp⟩ : ∃ b, p ⟨x0, x1, x2, x3, x4, x5⟩ = b := ⟨_, rfl⟩
   have hdx : dropX p client now but ⟨x0, x1, x2, x3, x4, x5⟩ = (decide (x0 ≠ but) && (bh && bp)) := by rw [← hbh, ← hbp]; rfl
   rw [hdx] at hst
   have CH := am_ (fun W (gl : Nat) (bx : W.heap[gl]? = some (.cells #[.int .i64 x0, .int .i64 x1, .string x2, .int .i64 x3, .string x4, .bool x5] 36)) => lease_Holds.calls gl x0 x1 x2 x3 x4 x5 client now bh W bx hsz hbh)
   have HPx := am_ (fun W (gl : Nat) (bx : W.heap[gl]? = some (.cells #[.int .i64 x0, .int .i64 x1, .string x2, .int .i64 x3, .string x4, .bool x5] 36)) => HP.out W gl ⟨x0, x1, x2, x3, x4, x5⟩ bx)
   rw [hbp] at HPx
   have hlen : (dropL p client now but (l1.take i)).length ≤ i := by unfold dropL; rw [List.length_map, List.length_take]; omega
   have LEN := am_ (show ((dropL p client now but (l1.take i)).length + 1) * 64 ≤ 140737488355328 by omega)
   have BX := am_ (blk_new wr (.cells #[.int .i64 x0, .int .i64 x1, .string x2, .int .i64 x3, .string x4, .bool x5] 36))
   clear hbh hbp hdx hsz hlen
   generalize dropL p client now but (l1.take i) = acc at hst HO LEN
   by_cases q0 : x0 = but
   ·subst q0
    have qb : (x0 == x0) = true := by simp
    have HST := am_ (show dropL p client now x0 (l1.take (i + 1)) = acc ++ [(⟨x0, x1, x2, x3, x4, x5⟩ : S36)] by rw [hst, decide_eq_false (fun e => e rfl), Bool.false_and]; rfl)
    clear hst CH HPx CF
    go_upto_region 5 with (fail)
    replace HB := am_ (p3_ HB.out (.cells #[.int .i64 x0, .int .i64 x1, .string x2, .int .i64 x3, .string x4, .bool x5] 36))
    replace HO := am_ (r1_ HO.out (.cells #[.int .i64 x0, .int .i64 x1, .string x2, .int .i64 x3, .string x4, .bool x5] 36))
    clear hx0 hx1 hx2 hx3 hx4 hx5
    generalize wr.alloc (.cells #[.int .i64 x0, .int .i64 x1, .string x2, .int .i64 x3, .string x4, .bool x5] 36) = w2 at HB BX HO ⊢
    have v0 := bc_ BX.out 0; have v1 := bc_ BX.out 1; have v2 := bc_ BX.out 2; have v3 := bc_ BX.out 3; have v4 := bc_ BX.out 4; have v5 := bc_ BX.out 5
    go_wp2_with (first | ((with_reducible refine gate_builtin (b := .append) (xs := #[.tmp 35, .tmp 37]) rfl ?_); at_builtin; refine Kd.R_append k36 (w0 := w) w.heap.size rfl (.tmp 35) (.tmp 37) 27 36 (.agg #[(.int .i64 0), (.int .i64 0), (.string ⟨#[]⟩), (.int .i64 0), (.string ⟨#[]⟩), (.bool false)]) 64 rfl Tryd.underlying27 offer_Drop.info rfl (by decide) (by omega) u11 acc (⟨x0, x1, x2, x3, x4, x5⟩ : S36) [.int .i64 x0, .int .i64 x1, .string x2, .int .i64 x3, .string x4, .bool x5] (fun _ => True) (fun _ => False) rfl rfl ?aP (fun _ hk => hk.elim) ?aF ?aO ?aB ?aS ?aL ?_; (case aP => exact k36_mkM _ _ _ (⟨x0, x1, x2, x3, x4, x5⟩ : S36)); (case aF => exact (fun _ _ => trivial)); (case aO => exact (by (with_reducible repeat (first | apply r1_ | apply r2_ | apply r3_)); exact HO.out)); (case aB => exact (by repeat (with_reducible first | exact HB.out | apply p3_ | apply p1_ | apply p2_))); (case aS => exact (bz_ (by repeat (with_reducible first | exact HB.out | apply p3_ | apply p1_ | apply p2_)))); (case aL => exact LEN.out); intro v9 w9 ho hb hg hat; replace HB := am_ hb; replace HO := am_ ho; clear ho hb hg hat))
    go_roundg (l1.length - (i + 1))
    case measure => first | omega | (simp; omega)
    case rel => exact ⟨i + 1, by omega, by go_num, HB, ⟨by rw [HST.out]; exact HO.out⟩⟩
   have qb : (x0 == but) = false := by simpa using q0
   have qn : (x0 != but) = true := by simpa using q0
   rw [decide_eq_true q0, Bool.true_and] at hst
   clear q0
   cases bh with
   | false =>
    have HST := am_ (show dropL p client now but (l1.take (i + 1)) = acc ++ [(⟨x0, x1, x2, x3, x4, x5⟩ : S36)] from hst)
    clear hst HPx CF
    go_upto_region 5 with (fail)
    replace HB := am_ (p3_ HB.out (.cells #[.int .i64 x0, .int .i64 x1, .string x2, .int .i64 x3, .string x4, .bool x5] 36))
    replace HO := am_ (r1_ HO.out (.cells #[.int .i64 x0, .int .i64 x1, .string x2, .int .i64 x3, .string x4, .bool x5] 36))
    clear hx0 hx1 hx2 hx3 hx4 hx5
    generalize wr.alloc (.cells #[.int .i64 x0, .int .i64 x1, .string x2, .int .i64 x3, .string x4, .bool x5] 36) = w2 at HB BX HO ⊢
    have v0 := bc_ BX.out 0; have v1 := bc_ BX.out 1; have v2 := bc_ BX.out 2; have v3 := bc_ BX.out 3; have v4 := bc_ BX.out 4; have v5 := bc_ BX.out 5
    go_wp2_with (first | (go_at_call 44; (with_reducible refine (CH.out _ _ BX.out).mono ?_); rintro e w3 ⟨rfl, hb2⟩; have HO3 := am_ (Kd.R_below (by (with_reducible repeat (first | apply r1_ | apply r2_ | apply r3_)); exact HO.out) hb2); replace HO := HO3; clear HO3; replace BX := am_ (kb_ BX.out hb2); replace HB := am_ (bt_ HB.out hb2); clear hb2 v0 v1 v2 v3 v4 v5; have v0 := bc_ BX.out 0; have v1 := bc_ BX.out 1; have v2 := bc_ BX.out 2; have v3 := bc_ BX.out 3; have v4 := bc_ BX.out 4; have v5 := bc_ BX.out 5) | ((with_reducible refine gate_builtin (b := .append) (xs := #[.tmp 35, .tmp 37]) rfl ?_); at_builtin; refine Kd.R_append k36 (w0 := w) w.heap.size rfl (.tmp 35) (.tmp 37) 27 36 (.agg #[(.int .i64 0), (.int .i64 0), (.string ⟨#[]⟩), (.int .i64 0), (.string ⟨#[]⟩), (.bool false)]) 64 rfl Tryd.underlying27 offer_Drop.info rfl (by decide) (by omega) u11 acc (⟨x0, x1, x2, x3, x4, x5⟩ : S36) [.int .i64 x0, .int .i64 x1, .string x2, .int .i64 x3, .string x4, .bool x5] (fun _ => True) (fun _ => False) rfl rfl ?aP (fun _ hk => hk.elim) ?aF ?aO ?aB ?aS ?aL ?_; (case aP => exact k36_mkM _ _ _ (⟨x0, x1, x2, x3, x4, x5⟩ : S36)); (case aF => exact (fun _ _ => trivial)); (case aO => exact (by (with_reducible repeat (first | apply r1_ | apply r2_ | apply r3_)); exact HO.out)); (case aB => exact (by repeat (with_reducible first | exact HB.out | apply p3_ | apply p1_ | apply p2_))); (case aS => exact (bz_ (by repeat (with_reducible first | exact HB.out | apply p3_ | apply p1_ | apply p2_)))); (case aL => exact LEN.out); intro v9 w9 ho hb hg hat; replace HB := am_ hb; replace HO := am_ ho; clear ho hb hg hat))
    go_roundg (l1.length - (i + 1))
    case measure => first | omega | (simp; omega)
    case rel => exact ⟨i + 1, by omega, by go_num, HB, ⟨by rw [HST.out]; exact HO.out⟩⟩
   | true =>
   cases bp with
   | false =>
    have HST := am_ (show dropL p client now but (l1.take (i + 1)) = acc ++ [(⟨x0, x1, x2, x3, x4, x5⟩ : S36)] from hst)
    clear hst CF
    go_upto_region 5 with (fail)
    replace HB := am_ (p3_ HB.out (.cells #[.int .i64 x0, .int .i64 x1, .string x2, .int .i64 x3, .string x4, .bool x5] 36))
    replace HO := am_ (r1_ HO.out (.cells #[.int .i64 x0, .int .i64 x1, .string x2, .int .i64 x3, .string x4, .bool x5] 36))
    clear hx0 hx1 hx2 hx3 hx4 hx5
    generalize wr.alloc (.cells #[.int .i64 x0, .int .i64 x1, .string x2, .int .i64 x3, .string x4, .bool x5] 36) = w2 at HB BX HO ⊢
    have v0 := bc_ BX.out 0; have v1 := bc_ BX.out 1; have v2 := bc_ BX.out 2; have v3 := bc_ BX.out 3; have v4 := bc_ BX.out 4; have v5 := bc_ BX.out 5
    go_wp2_with (first | (go_at_call 44; (with_reducible refine (CH.out _ _ BX.out).mono ?_); rintro e w3 ⟨rfl, hb2⟩; have HO3 := am_ (Kd.R_below (by (with_reducible repeat (first | apply r1_ | apply r2_ | apply r3_)); exact HO.out) hb2); replace HO := HO3; clear HO3; replace BX := am_ (kb_ BX.out hb2); replace HB := am_ (bt_ HB.out hb2); clear hb2 v0 v1 v2 v3 v4 v5; have v0 := bc_ BX.out 0; have v1 := bc_ BX.out 1; have v2 := bc_ BX.out 2; have v3 := bc_ BX.out 3; have v4 := bc_ BX.out 4; have v5 := bc_ BX.out 5))
    refine (HPx.out _ _ BX.out).mono ?_
    rintro e w4 ⟨rfl, hb2⟩
    replace HO := am_ (Kd.R_below HO.out hb2)
    replace BX := am_ (kb_ BX.out hb2)
    replace HB := am_ (bt_ HB.out hb2)
    clear hb2 v0 v1 v2 v3 v4 v5
    have v0 := bc_ BX.out 0; have v1 := bc_ BX.out 1; have v2 := bc_ BX.out 2; have v3 := bc_ BX.out 3; have v4 := bc_ BX.out 4; have v5 := bc_ BX.out 5
    have fz0 := bf_ BX.out 0; have fz1 := bf_ BX.out 1; have fz2 := bf_ BX.out 2; have fz3 := bf_ BX.out 3; have fz4 := bf_ BX.out 4; have fz5 := bf_ BX.out 5
    go_wp2_with (first | ((with_reducible refine gate_builtin (b := .append) (xs := #[.tmp 35, .tmp 37]) rfl ?_); at_builtin; refine Kd.R_append k36 (w0 := w) w.heap.size rfl (.tmp 35) (.tmp 37) 27 36 (.agg #[(.int .i64 0), (.int .i64 0), (.string ⟨#[]⟩), (.int .i64 0), (.string ⟨#[]⟩), (.bool false)]) 64 rfl Tryd.underlying27 offer_Drop.info rfl (by decide) (by omega) u11 acc (⟨x0, x1, x2, x3, x4, x5⟩ : S36) [.int .i64 x0, .int .i64 x1, .string x2, .int .i64 x3, .string x4, .bool x5] (fun _ => True) (fun _ => False) rfl rfl ?aP (fun _ hk => hk.elim) ?aF ?aO ?aB ?aS ?aL ?_; (case aP => exact k36_mkM _ _ _ (⟨x0, x1, x2, x3, x4, x5⟩ : S36)); (case aF => exact (fun _ _ => trivial)); (case aO => exact (by (with_reducible repeat (first | apply r1_ | apply r2_ | apply r3_)); exact HO.out)); (case aB => exact (by repeat (with_reducible first | exact HB.out | apply p3_ | apply p1_ | apply p2_))); (case aS => exact (bz_ (by repeat (with_reducible first | exact HB.out | apply p3_ | apply p1_ | apply p2_)))); (case aL => exact LEN.out); intro v9 w9 ho hb hg hat; replace HB := am_ hb; replace HO := am_ ho; clear ho hb hg hat))
    go_roundg (l1.length - (i + 1))
    case measure => first | omega | (simp; omega)
    case rel => exact ⟨i + 1, by omega, by go_num, HB, ⟨by rw [HST.out]; exact HO.out⟩⟩
   | true =>
    have HST := am_ (show dropL p client now but (l1.take (i + 1)) = acc ++ [(⟨x0, 0, x2, x3, (⟨#[]⟩ : ByteArray), false⟩ : S36)] from hst)
    have CFx := am_ (fun W => CF.out x0 x1 x2 x3 x4 x5 W)
    clear hst CF
    have CF := CFx
    have SZ := am_ (show w.heap.size ≤ wr.heap.size from HB.out.size)
    replace HO := am_ (Kd.R_mono (ok' := fun k => k ≠ wr.heap.size) (Kd.R_bound HO.out) (fun k hk => by have := hk.2.2.1; omega))
    go_upto_region 5 with (fail)
    replace HB := am_ (p3_ HB.out (.cells #[.int .i64 x0, .int .i64 x1, .string x2, .int .i64 x3, .string x4, .bool x5] 36))
    replace HO := am_ (r1_ HO.out (.cells #[.int .i64 x0, .int .i64 x1, .string x2, .int .i64 x3, .string x4, .bool x5] 36))
    clear hx0 hx1 hx2 hx3 hx4 hx5
    generalize wr.alloc (.cells #[.int .i64 x0, .int .i64 x1, .string x2, .int .i64 x3, .string x4, .bool x5] 36) = w2 at HB BX HO ⊢
    have v0 := bc_ BX.out 0; have v1 := bc_ BX.out 1; have v2 := bc_ BX.out 2; have v3 := bc_ BX.out 3; have v4 := bc_ BX.out 4; have v5 := bc_ BX.out 5
    go_wp2_with (first | (go_at_call 44; (with_reducible refine (CH.out _ _ BX.out).mono ?_); rintro e w3 ⟨rfl, hb2⟩; have HO3 := am_ (Kd.R_below (by (with_reducible repeat (first | apply r1_ | apply r2_ | apply r3_)); exact HO.out) hb2); replace HO := HO3; clear HO3; replace BX := am_ (kb_ BX.out hb2); replace HB := am_ (bt_ HB.out hb2); clear hb2 v0 v1 v2 v3 v4 v5; have v0 := bc_ BX.out 0; have v1 := bc_ BX.out 1; have v2 := bc_ BX.out 2; have v3 := bc_ BX.out 3; have v4 := bc_ BX.out 4; have v5 := bc_ BX.out 5))
    refine (HPx.out _ _ BX.out).mono ?_
    rintro e w4 ⟨rfl, hb2⟩
    replace HO := am_ (Kd.R_below HO.out hb2)
    replace BX := am_ (kb_ BX.out hb2)
    replace HB := am_ (bt_ HB.out hb2)
    clear hb2 v0 v1 v2 v3 v4 v5
    have v0 := bc_ BX.out 0; have v1 := bc_ BX.out 1; have v2 := bc_ BX.out 2; have v3 := bc_ BX.out 3; have v4 := bc_ BX.out 4; have v5 := bc_ BX.out 5
    have fz0 := bf_ BX.out 0; have fz1 := bf_ BX.out 1; have fz2 := bf_ BX.out 2; have fz3 := bf_ BX.out 3; have fz4 := bf_ BX.out 4; have fz5 := bf_ BX.out 5
    go_upto_region 7 with (first | (go_at_call 51; (with_reducible refine (CF.out _).mono ?_); rintro e w5 ⟨rfl, hb2⟩; have HO3 := am_ (Kd.R_below HO.out hb2); replace HO := HO3; clear HO3; replace BX := am_ (kb_ BX.out hb2); replace HB := am_ (bt_ HB.out hb2); clear hb2 v0 v1 v2 v3 v4 v5; have v0 := bc_ BX.out 0; have v1 := bc_ BX.out 1; have v2 := bc_ BX.out 2; have v3 := bc_ BX.out 3; have v4 := bc_ BX.out 4; have v5 := bc_ BX.out 5; have fz0 := bf_ BX.out 0; have fz1 := bf_ BX.out 1; have fz2 := bf_ BX.out 2; have fz3 := bf_ BX.out 3; have fz4 := bf_ BX.out 4; have fz5 := bf_ BX.out 5))
    have HBW := am_ (show Below w.heap.size w ((((((w5.setCell ⟨wr.heap.size, 0, none⟩ (.int .i64 x0)).setCell ⟨wr.heap.size, 1, none⟩ (.int .i64 0)).setCell ⟨wr.heap.size, 2, none⟩ (.string x2)).setCell ⟨wr.heap.size, 3, none⟩ (.int .i64 x3)).setCell ⟨wr.heap.size, 4, none⟩ (.string (⟨#[]⟩ : ByteArray))).setCell ⟨wr.heap.size, 5, none⟩ (.bool false)) from by repeat (first | exact HB.out | refine bs_ ?_ SZ.out))
    have BXW := am_ (show ((((((w5.setCell ⟨wr.heap.size, 0, none⟩ (.int .i64 x0)).setCell ⟨wr.heap.size, 1, none⟩ (.int .i64 0)).setCell ⟨wr.heap.size, 2, none⟩ (.string x2)).setCell ⟨wr.heap.size, 3, none⟩ (.int .i64 x3)).setCell ⟨wr.heap.size, 4, none⟩ (.string (⟨#[]⟩ : ByteArray))).setCell ⟨wr.heap.size, 5, none⟩ (.bool false)).heap[wr.heap.size]? = some (.cells #[.int .i64 x0, .int .i64 0, .string x2, .int .i64 x3, .string (⟨#[]⟩ : ByteArray), .bool false] 36) from by refine blk_put (cs := #[.int .i64 x0, .int .i64 0, .string x2, .int .i64 x3, .string (⟨#[]⟩ : ByteArray), .bool x5]) ?_ 5 _ rfl; refine blk_put (cs := #[.int .i64 x0, .int .i64 0, .string x2, .int .i64 x3, .string x4, .bool x5]) ?_ 4 _ rfl; refine blk_put (cs := #[.int .i64 x0, .int .i64 0, .string x2, .int .i64 x3, .string x4, .bool x5]) ?_ 3 _ rfl; refine blk_put (cs := #[.int .i64 x0, .int .i64 0, .string x2, .int .i64 x3, .string x4, .bool x5]) ?_ 2 _ rfl; refine blk_put (cs := #[.int .i64 x0, .int .i64 x1, .string x2, .int .i64 x3, .string x4, .bool x5]) ?_ 1 _ rfl; refine blk_put (cs := #[.int .i64 x0, .int .i64 x1, .string x2, .int .i64 x3, .string x4, .bool x5]) ?_ 0 _ rfl; exact BX.out)
    have HOW := am_ (show Kd.R k36 36 ((((((w5.setCell ⟨wr.heap.size, 0, none⟩ (.int .i64 x0)).setCell ⟨wr.heap.size, 1, none⟩ (.int .i64 0)).setCell ⟨wr.heap.size, 2, none⟩ (.string x2)).setCell ⟨wr.heap.size, 3, none⟩ (.int .i64 x3)).setCell ⟨wr.heap.size, 4, none⟩ (.string (⟨#[]⟩ : ByteArray))).setCell ⟨wr.heap.size, 5, none⟩ (.bool false)) w.heap.size (fun k => k ≠ wr.heap.size) u11 acc from (Kd.R_far (p := ⟨wr.heap.size, 5, none⟩) (Kd.R_far (p := ⟨wr.heap.size, 4, none⟩) (Kd.R_far (p := ⟨wr.heap.size, 3, none⟩) (Kd.R_far (p := ⟨wr.heap.size, 2, none⟩) (Kd.R_far (p := ⟨wr.heap.size, 1, none⟩) (Kd.R_far (p := ⟨wr.heap.size, 0, none⟩) HO.out (fun _ hk => hk) (.int .i64 x0)) (fun _ hk => hk) (.int .i64 0)) (fun _ hk => hk) (.string x2)) (fun _ hk => hk) (.int .i64 x3)) (fun _ hk => hk) (.string (⟨#[]⟩ : ByteArray))) (fun _ hk => hk) (.bool false)))
    clear HB BX HO v0 v1 v2 v3 v4 v5 fz0 fz1 fz2 fz3 fz4 fz5
    generalize ((((((w5.setCell ⟨wr.heap.size, 0, none⟩ (.int .i64 x0)).setCell ⟨wr.heap.size, 1, none⟩ (.int .i64 0)).setCell ⟨wr.heap.size, 2, none⟩ (.string x2)).setCell ⟨wr.heap.size, 3, none⟩ (.int .i64 x3)).setCell ⟨wr.heap.size, 4, none⟩ (.string (⟨#[]⟩ : ByteArray))).setCell ⟨wr.heap.size, 5, none⟩ (.bool false)) = w7 at HBW BXW HOW ⊢
    have HB := HBW
    have BX := BXW
    have HO := HOW
    clear HBW BXW HOW
    have v0 := bc_ BX.out 0; have v1 := bc_ BX.out 1; have v2 := bc_ BX.out 2; have v3 := bc_ BX.out 3; have v4 := bc_ BX.out 4; have v5 := bc_ BX.out 5
    go_wp2_with (first | ((with_reducible refine gate_builtin (b := .append) (xs := #[.tmp 35, .tmp 37]) rfl ?_); at_builtin; refine Kd.R_append k36 (w0 := w) w.heap.size rfl (.tmp 35) (.tmp 37) 27 36 (.agg #[(.int .i64 0), (.int .i64 0), (.string ⟨#[]⟩), (.int .i64 0), (.string ⟨#[]⟩), (.bool false)]) 64 rfl Tryd.underlying27 offer_Drop.info rfl (by decide) (by omega) u11 acc (⟨x0, 0, x2, x3, (⟨#[]⟩ : ByteArray), false⟩ : S36) [.int .i64 x0, .int .i64 0, .string x2, .int .i64 x3, .string (⟨#[]⟩ : ByteArray), .bool false] (fun k_ => k_ ≠ wr.heap.size) (fun _ => False) rfl rfl ?aP (fun _ hk => hk.elim) ?aF ?aO ?aB ?aS ?aL ?_; (case aP => exact k36_mkM _ _ _ (⟨x0, 0, x2, x3, (⟨#[]⟩ : ByteArray), false⟩ : S36)); (case aF => exact (fun k_ hk => Kd.freshB (g := wr.heap.size) (o := (.cells #[.int .i64 x0, .int .i64 0, .string x2, .int .i64 x3, .string (⟨#[]⟩ : ByteArray), .bool false] 36)) BX.out k_ hk)); (case aO => exact (by (with_reducible repeat (first | apply r1_ | apply r2_ | apply r3_)); exact HO.out)); (case aB => exact (by repeat (with_reducible first | exact HB.out | apply p3_ | apply p1_ | apply p2_))); (case aS => exact (bz_ (by repeat (with_reducible first | exact HB.out | apply p3_ | apply p1_ | apply p2_)))); (case aL => exact LEN.out); intro v9 w9 ho hb hg hat; replace HB := am_ hb; replace HO := am_ (Kd.R_mono ho (fun _ _ => trivial)); clear ho hb hg hat))
    go_roundg (l1.length - (i + 1))
    case measure => first | omega | (simp; omega)
    case rel => exact ⟨i + 1, by omega, by go_num, HB, ⟨by rw [HST.out]; exact HO.out⟩⟩
  ·have HF := am_ (show dropL p client now but (l1.take i) = dropL p client now but l1 by rw [List.take_of_length_le (by omega)])
   have hlz : ¬ (i : Int) < (l1.length : Int) := by omega
   clear CF HP
   go_wp2
   go_ret
   exact ⟨_, rfl, by rw [← HF.out]; exact HO.out, HB.out⟩

/-! ### regis_Full: function 69 -/
def regis_Full.j0 : Nat → ByteArray → Int → Int → List Int → List (S72) → Int → ByteArray → List (S74) → Option (ByteArray)
 | 0, _, _, _, _, _, _, _, _ => none
 | k + 1, x5, x122000, x122001, x122002, x122003, x122004, x122005, x122006 => (name_May_c.f x5).bind fun t126 => (if t126 = true then ((conf_May.f x122000 x122001 x122002 x122003 x122004 x122005 x122006).bind fun t127 => (if t127 = true then (some x5) else (some (⟨#[]⟩ : ByteArray)))) else (some (⟨#[]⟩ : ByteArray)))
def regis_Full.f (k : Nat) (a0_0 : Int) (a0_1 : Int) (l0_2 : List Int) (l0_3 : List (S72)) (a0_4 : Int) (a0_5 : ByteArray) (l0_6 : List (S74)) (a1 : ByteArray) : Option (ByteArray) := (name_Labels_c.f a1).bind fun t122 => (if (t122.length : Int) = 1 then (if a1.size + 1 ≤ 9223372036854775807 then (if (a1 ++ (⟨#[46]⟩ : ByteArray)).size + a0_5.size ≤ 9223372036854775807 then (regis_Full.j0 k ((a1 ++ (⟨#[46]⟩ : ByteArray)) ++ a0_5) a0_0 a0_1 l0_2 l0_3 a0_4 a0_5 l0_6) else (none)) else (none)) else (if a1.toList = a0_5.toList then (some (⟨#[]⟩ : ByteArray)) else ((name_Under_c.f a1 a0_5).bind fun t125 => (if t125 = true then (regis_Full.j0 k a1 a0_0 a0_1 l0_2 l0_3 a0_4 a0_5 l0_6) else (some (⟨#[]⟩ : ByteArray))))))
theorem regis_Full.mono_l : ∀ k, (∀ y0 y1 y2 y3 y4 y5 y6 y7, LeO (regis_Full.j0 k y0 y1 y2 y3 y4 y5 y6 y7) (regis_Full.j0 (k + 1) y0 y1 y2 y3 y4 y5 y6 y7))
 | 0 => fun _ _ _ _ _ _ _ _ r h => by simp [regis_Full.j0] at h
 | k + 1 => by
  have ih0 := regis_Full.mono_l k
  ·intro y0 y1 y2 y3 y4 y5 y6 y7
   unfold regis_Full.j0
   repeat' first
   | (with_reducible exact ih0 _ _ _ _ _ _ _ _)
   | (with_reducible exact LeO.refl _)
   | (with_reducible exact LeO.none _)
   | (with_reducible refine LeO.ite ?_ ?_)
   | (with_reducible refine LeO.bind ?_ (fun _ => ?_))
   | exact ih0 _ _ _ _ _ _ _ _
   | exact LeO.none _
   | refine LeO.ite ?_ ?_
   | refine LeO.bind ?_ (fun _ => ?_)
theorem regis_Full.mono : ∀ a0 a1 a2 a3 a4 a5 a6 a7 k, LeO (regis_Full.f k a0 a1 a2 a3 a4 a5 a6 a7) (regis_Full.f (k + 1) a0 a1 a2 a3 a4 a5 a6 a7) := by
 intro a0 a1 a2 a3 a4 a5 a6 a7 k
 have ih0 := regis_Full.mono_l k
 unfold regis_Full.f
 repeat' first
   | (with_reducible exact ih0 _ _ _ _ _ _ _ _)
   | (with_reducible exact LeO.refl _)
   | (with_reducible exact LeO.none _)
   | (with_reducible refine LeO.ite ?_ ?_)
   | (with_reducible refine LeO.bind ?_ (fun _ => ?_))
   | exact ih0 _ _ _ _ _ _ _ _
   | exact LeO.none _
   | refine LeO.ite ?_ ?_
   | refine LeO.bind ?_ (fun _ => ?_)
set_option maxHeartbeats 8000000 in
set_option maxRecDepth 100000 in
theorem regis_Full.calls (k : Nat) (a0_0 : Int) (a0_1 : Int) (A0_2 : Option Addr) (c0_2 : Nat) (l0_2 : List Int) (A0_3 : Option Addr) (c0_3 : Nat) (l0_3 : List (S72)) (a0_4 : Int) (a0_5 : ByteArray) (A0_6 : Option Addr) (c0_6 : Nat) (l0_6 : List (S74)) (a1 : ByteArray) (r : ByteArray) (w : World) (hr0_2 : Kd.C (Kd.int .i64) w A0_2 l0_2.length l0_2) (hc0_2 : l0_2.length ≤ c0_2) (hr0_3 : Kd.C k72 w A0_3 l0_3.length l0_3) (hc0_3 : l0_3.length ≤ c0_3) (hr0_6 : Kd.C k74 w A0_6 l0_6.length l0_6) (hc0_6 : l0_6.length ≤ c0_6) (h : regis_Full.f k a0_0 a0_1 l0_2 l0_3 a0_4 a0_5 l0_6 a1 = some r) :
  Calls Tryd.prog 69 #[.agg #[.int .i64 a0_0, .int .i64 a0_1, .slice A0_2 l0_2.length c0_2, .slice A0_3 l0_3.length c0_3, .int .i64 a0_4, .string a0_5, .slice A0_6 l0_6.length c0_6], .string a1] w fun e w' => e = .returned (.string r) ∧ Below w.heap.size w w' := by
 have hu26 := Tryd.underlying26
 have HR0_2 := am_ hr0_2
 have HC0_2 := am_ hc0_2
 clear hr0_2 hc0_2
 have HR0_3 := am_ hr0_3
 have HC0_3 := am_ hc0_3
 clear hr0_3 hc0_3
 have HR0_6 := am_ hr0_6
 have HC0_6 := am_ hc0_6
 clear hr0_6 hc0_6
 have HB := am_ (Below.refl w.heap.size w)
 have H : ((name_Labels_c.f a1).bind fun t122 => (if (t122.length : Int) = 1 then (if a1.size + 1 ≤ 9223372036854775807 then (if (a1 ++ (⟨#[46]⟩ : ByteArray)).size + a0_5.size ≤ 9223372036854775807 then (regis_Full.j0 k ((a1 ++ (⟨#[46]⟩ : ByteArray)) ++ a0_5) a0_0 a0_1 l0_2 l0_3 a0_4 a0_5 l0_6) else (none)) else (none)) else (if a1.toList = a0_5.toList then (some (⟨#[]⟩ : ByteArray)) else ((name_Under_c.f a1 a0_5).bind fun t125 => (if t125 = true then (regis_Full.j0 k a1 a0_0 a0_1 l0_2 l0_3 a0_4 a0_5 l0_6) else (some (⟨#[]⟩ : ByteArray))))))) = some r := h
 clear h
 replace H := e4_ H
 obtain ⟨t122, A30, H⟩ := H
 replace H : (if (t122.length : Int) = 1 then (if a1.size + 1 ≤ 9223372036854775807 then (if (a1 ++ (⟨#[46]⟩ : ByteArray)).size + a0_5.size ≤ 9223372036854775807 then (regis_Full.j0 k ((a1 ++ (⟨#[46]⟩ : ByteArray)) ++ a0_5) a0_0 a0_1 l0_2 l0_3 a0_4 a0_5 l0_6) else (none)) else (none)) else (if a1.toList = a0_5.toList then (some (⟨#[]⟩ : ByteArray)) else ((name_Under_c.f a1 a0_5).bind fun t125 => (if t125 = true then (regis_Full.j0 k a1 a0_0 a0_1 l0_2 l0_3 a0_4 a0_5 l0_6) else (some (⟨#[]⟩ : ByteArray)))))) = some r := H
 have A3 := am_ A30
 clear A30
 have HC4 := am_ H
 clear H
 go_enter Tryd.func69, Tryd.ntmps69
 go_upto_block 0 with (first | ((with_reducible refine gate_dst (N := 2) rfl ?_); refine box_event ?hg (N := 2) ?hd (cs := #[.int .i64 a0_0, .int .i64 a0_1, .slice A0_2 l0_2.length c0_2, .slice A0_3 l0_3.length c0_3, .int .i64 a0_4, .string a0_5, .slice A0_6 l0_6.length c0_6]) (t := 26) ?hr ?_; (case hd => rfl); (case hg => rfl); (case hr => first | (go_simp; done) | (go_simp; rfl)); intro gb121 hg w5 hbox hb; have n0_ := am_ (bt_ (by repeat (with_reducible first | exact HB.out | apply p3_ | apply p1_ | apply p2_)) hb); have n1_ := am_ (hbox); have n2_ := am_ ((by rw [hg]; exact (bz_ (by repeat (with_reducible first | exact HB.out | apply p3_ | apply p1_ | apply p2_))) : w.heap.size ≤ gb121)); have n3_ := am_ ((by rw [hg]; exact (bz_ (by repeat (with_reducible first | exact HB.out | apply p3_ | apply p1_ | apply p2_))) : w.heap.size ≤ gb121)); clear HB; have HB := n0_; have BK121 := n1_; have GW121 := n2_; have GE121 := n3_; clear n0_ n1_ n2_ n3_; clear hb hbox hg) | ((with_reducible refine gate_callee (f := 57) rfl ?_); refine goesL_ (some 9) rfl rfl Tryd.func57 (by kernel_rfl) rfl #[.string a1] rfl (by (try simp only [List.map_toArray, List.map_cons, List.map_nil]); first | done | rfl | (simp only [List.length_drop, List.length_take]; rfl)) ?_; (with_reducible refine (name_Labels_c.calls a1 t122 _ A3.out).mono ?_); rintro e w6 ⟨v123, rfl, ho0, hb⟩; refine ⟨_, rfl, ?_⟩; have n0_ := am_ (Kd.R_lower ho0 (bz_ (by repeat (with_reducible first | exact HB.out | apply p3_ | apply p1_ | apply p2_ | refine bs_ ?_ GE121.out)))); have n1_ := am_ (kb_ (g := gb121) (o := .cells #[.int .i64 a0_0, .int .i64 a0_1, .slice A0_2 l0_2.length c0_2, .slice A0_3 l0_3.length c0_3, .int .i64 a0_4, .string a0_5, .slice A0_6 l0_6.length c0_6] 26 (0, 0)) (by (with_reducible repeat (first | refine k2_ ?_ _ | refine k3_ ?_ | refine k1_ ?_ _)); exact BK121.out) hb); have n2_ := am_ (bt_ (by repeat (with_reducible first | exact HB.out | apply p3_ | apply p1_ | apply p2_ | refine bs_ ?_ GE121.out)) hb); clear BK121; clear HB; have HO124 := n0_; have BK121 := n1_; have HB := n2_; clear n0_ n1_ n2_; (try clear hb); (try clear ho0)))
 (try simp only [Act.put, sa_, sb_, sc_])
 go_cut [5] (fun v5 wc => ∃ (kq : Nat) (x5_3 : ByteArray), v5 = .string x5_3 ∧ Aside0 (regis_Full.j0 kq x5_3 a0_0 a0_1 l0_2 l0_3 a0_4 a0_5 l0_6 = some r) ∧ Aside0 (kq ≤ k) ∧ Aside0 (wc.heap[gb121]? = some (.cells #[.int .i64 a0_0, .int .i64 a0_1, (.slice A0_2 l0_2.length c0_2), (.slice A0_3 l0_3.length c0_3), .int .i64 a0_4, .string a0_5, (.slice A0_6 l0_6.length c0_6)] 26 (0, 0))) ∧ Aside0 (Below w.heap.size w wc))
 case first =>
  have H := HC4.out
  clear HC4
  by_cases c7 : (t122.length : Int) = 1
  ·rw [if_pos c7] at H
   have c7b0 : ((t122.length : Int) == 1) = true := beq_iff_eq.mpr c7
   have c7b1 : ((t122.length : Int) != 1) = false := e1_ c7
   clear c7
   (first | rw [c7b0] | (simp only [i64_w, i32_w]; rw [c7b0]) | skip)
   by_cases c8 : a1.size + 1 ≤ 9223372036854775807
   rotate_left
   ·rw [if_neg c8] at H
    exact absurd H (by simp)
   rw [if_pos c8] at H
   have c8b0 := eq_true c8
   have c8b1 : decide (a1.size + 1 ≤ 9223372036854775807) = true := decide_eq_true c8
   try have c8b2 : (9223372036854775807 < a1.size + 1) = False := eq_false (Nat.not_lt.2 c8)
   by_cases c9 : (a1 ++ (⟨#[46]⟩ : ByteArray)).size + a0_5.size ≤ 9223372036854775807
   rotate_left
   ·rw [if_neg c9] at H
    exact absurd H (by simp)
   rw [if_pos c9] at H
   have c9b0 := eq_true c9
   have c9b1 : decide ((a1 ++ (⟨#[46]⟩ : ByteArray)).size + a0_5.size ≤ 9223372036854775807) = true := decide_eq_true c9
   try have c9b2 : (9223372036854775807 < (a1 ++ (⟨#[46]⟩ : ByteArray)).size + a0_5.size) = False := eq_false (Nat.not_lt.2 c9)
   have H' := am_ H
   clear H
   obtain ⟨Ao10, co10, eo10⟩ := Kd.R_slice HO124.out
   subst eo10
   have hcz11_0 : w6.cell? ⟨gb121, 0, none⟩ = some (.int .i64 a0_0) := (bc_ BK121.out 0).trans rfl; have hcz11_1 : w6.cell? ⟨gb121, 1, none⟩ = some (.int .i64 a0_1) := (bc_ BK121.out 1).trans rfl; have hcz11_2 : w6.cell? ⟨gb121, 2, none⟩ = some (.slice A0_2 l0_2.length c0_2) := (bc_ BK121.out 2).trans rfl; have hcz11_3 : w6.cell? ⟨gb121, 3, none⟩ = some (.slice A0_3 l0_3.length c0_3) := (bc_ BK121.out 3).trans rfl; have hcz11_4 : w6.cell? ⟨gb121, 4, none⟩ = some (.int .i64 a0_4) := (bc_ BK121.out 4).trans rfl; have hcz11_5 : w6.cell? ⟨gb121, 5, none⟩ = some (.string a0_5) := (bc_ BK121.out 5).trans rfl; have hcz11_6 : w6.cell? ⟨gb121, 6, none⟩ = some (.slice A0_6 l0_6.length c0_6) := (bc_ BK121.out 6).trans rfl; have hfz11_0 := bf_ BK121.out 0; have hfz11_1 := bf_ BK121.out 1; have hfz11_2 := bf_ BK121.out 2; have hfz11_3 := bf_ BK121.out 3; have hfz11_4 := bf_ BK121.out 4; have hfz11_5 := bf_ BK121.out 5; have hfz11_6 := bf_ BK121.out 6
   go_wp2
   go_meet
   case rel => exact ⟨_, ((a1 ++ (⟨#[46]⟩ : ByteArray)) ++ a0_5), (by first | rfl | (simp; done) | (simp [*]; done)), H', ⟨by first | omega | exact Nat.le_refl _⟩, ⟨by (with_reducible repeat (first | refine k2_ ?_ _ | refine k3_ ?_ | refine k1_ ?_ _)); exact BK121.out⟩, ⟨by repeat (with_reducible first | exact HB.out | apply p3_ | apply p1_ | apply p2_ | refine bs_ ?_ GE121.out)⟩⟩
  rw [if_neg c7] at H
  have c7b0 : ((t122.length : Int) == 1) = false := e2_ c7
  have c7b1 : ((t122.length : Int) != 1) = true := bne_iff_ne.mpr c7
  (first | rw [c7b0] | (simp only [i64_w, i32_w]; rw [c7b0]) | skip)
  by_cases c12 : a1.toList = a0_5.toList
  ·rw [if_pos c12] at H
   have c12b0 : (a1.toList == a0_5.toList) = true := beq_iff_eq.mpr c12
   have c12b1 : (a1.toList != a0_5.toList) = false := e1_ c12
   clear c12
   obtain rfl := e5_ H
   obtain ⟨Ao13, co13, eo13⟩ := Kd.R_slice HO124.out
   subst eo13
   have hcz14_0 : w6.cell? ⟨gb121, 0, none⟩ = some (.int .i64 a0_0) := (bc_ BK121.out 0).trans rfl; have hcz14_1 : w6.cell? ⟨gb121, 1, none⟩ = some (.int .i64 a0_1) := (bc_ BK121.out 1).trans rfl; have hcz14_2 : w6.cell? ⟨gb121, 2, none⟩ = some (.slice A0_2 l0_2.length c0_2) := (bc_ BK121.out 2).trans rfl; have hcz14_3 : w6.cell? ⟨gb121, 3, none⟩ = some (.slice A0_3 l0_3.length c0_3) := (bc_ BK121.out 3).trans rfl; have hcz14_4 : w6.cell? ⟨gb121, 4, none⟩ = some (.int .i64 a0_4) := (bc_ BK121.out 4).trans rfl; have hcz14_5 : w6.cell? ⟨gb121, 5, none⟩ = some (.string a0_5) := (bc_ BK121.out 5).trans rfl; have hcz14_6 : w6.cell? ⟨gb121, 6, none⟩ = some (.slice A0_6 l0_6.length c0_6) := (bc_ BK121.out 6).trans rfl; have hfz14_0 := bf_ BK121.out 0; have hfz14_1 := bf_ BK121.out 1; have hfz14_2 := bf_ BK121.out 2; have hfz14_3 := bf_ BK121.out 3; have hfz14_4 := bf_ BK121.out 4; have hfz14_5 := bf_ BK121.out 5; have hfz14_6 := bf_ BK121.out 6
   go_wp2
   go_ret
   exact ⟨by first | rfl | (simp [errW_none, errW_some] <;> rfl) | (simp [*, errW_none, errW_some] <;> rfl), by repeat (with_reducible first | exact HB.out | apply p3_ | apply p1_ | apply p2_ | refine bs_ ?_ GE121.out)⟩
  rw [if_neg c12] at H
  have c12b0 : (a1.toList == a0_5.toList) = false := e2_ c12
  have c12b1 : (a1.toList != a0_5.toList) = true := bne_iff_ne.mpr c12
  replace H := e4_ H
  obtain ⟨t125, A150, H⟩ := H
  replace H : (if t125 = true then (regis_Full.j0 k a1 a0_0 a0_1 l0_2 l0_3 a0_4 a0_5 l0_6) else (some (⟨#[]⟩ : ByteArray))) = some r := H
  have A15 := am_ A150
  clear A150
  by_cases c16 : t125 = true
  ·subst c16
   have H1 : (regis_Full.j0 k a1 a0_0 a0_1 l0_2 l0_3 a0_4 a0_5 l0_6) = some r := by rw [if_pos rfl] at H; exact H
   clear H
   have H := H1
   clear H1
   have H' := am_ H
   clear H
   obtain ⟨Ao17, co17, eo17⟩ := Kd.R_slice HO124.out
   subst eo17
   have hcz18_0 : w6.cell? ⟨gb121, 0, none⟩ = some (.int .i64 a0_0) := (bc_ BK121.out 0).trans rfl; have hcz18_1 : w6.cell? ⟨gb121, 1, none⟩ = some (.int .i64 a0_1) := (bc_ BK121.out 1).trans rfl; have hcz18_2 : w6.cell? ⟨gb121, 2, none⟩ = some (.slice A0_2 l0_2.length c0_2) := (bc_ BK121.out 2).trans rfl; have hcz18_3 : w6.cell? ⟨gb121, 3, none⟩ = some (.slice A0_3 l0_3.length c0_3) := (bc_ BK121.out 3).trans rfl; have hcz18_4 : w6.cell? ⟨gb121, 4, none⟩ = some (.int .i64 a0_4) := (bc_ BK121.out 4).trans rfl; have hcz18_5 : w6.cell? ⟨gb121, 5, none⟩ = some (.string a0_5) := (bc_ BK121.out 5).trans rfl; have hcz18_6 : w6.cell? ⟨gb121, 6, none⟩ = some (.slice A0_6 l0_6.length c0_6) := (bc_ BK121.out 6).trans rfl; have hfz18_0 := bf_ BK121.out 0; have hfz18_1 := bf_ BK121.out 1; have hfz18_2 := bf_ BK121.out 2; have hfz18_3 := bf_ BK121.out 3; have hfz18_4 := bf_ BK121.out 4; have hfz18_5 := bf_ BK121.out 5; have hfz18_6 := bf_ BK121.out 6
   go_wp2_with (first | (go_at_call 73; (with_reducible refine (name_Under_c.calls a1 a0_5 true _ A15.out).mono ?_); rintro e w' ⟨rfl, ⟨nd, rfl⟩⟩))
   go_meet
   case rel => exact ⟨_, (a1), (by first | rfl | (simp; done) | (simp [*]; done)), H', ⟨by first | omega | exact Nat.le_refl _⟩, ⟨by (with_reducible repeat (first | refine k2_ ?_ _ | refine k3_ ?_ | refine k1_ ?_ _)); exact BK121.out⟩, ⟨by repeat (with_reducible first | exact HB.out | apply p3_ | apply p1_ | apply p2_ | refine bs_ ?_ GE121.out)⟩⟩
  replace c16 := e3_ c16
  subst c16
  have H1 : (some (⟨#[]⟩ : ByteArray)) = some r := by rw [if_neg (show ¬ (false = true) by decide)] at H; exact H
  clear H
  have H := H1
  clear H1
  obtain rfl := e5_ H
  obtain ⟨Ao19, co19, eo19⟩ := Kd.R_slice HO124.out
  subst eo19
  have hcz20_0 : w6.cell? ⟨gb121, 0, none⟩ = some (.int .i64 a0_0) := (bc_ BK121.out 0).trans rfl; have hcz20_1 : w6.cell? ⟨gb121, 1, none⟩ = some (.int .i64 a0_1) := (bc_ BK121.out 1).trans rfl; have hcz20_2 : w6.cell? ⟨gb121, 2, none⟩ = some (.slice A0_2 l0_2.length c0_2) := (bc_ BK121.out 2).trans rfl; have hcz20_3 : w6.cell? ⟨gb121, 3, none⟩ = some (.slice A0_3 l0_3.length c0_3) := (bc_ BK121.out 3).trans rfl; have hcz20_4 : w6.cell? ⟨gb121, 4, none⟩ = some (.int .i64 a0_4) := (bc_ BK121.out 4).trans rfl; have hcz20_5 : w6.cell? ⟨gb121, 5, none⟩ = some (.string a0_5) := (bc_ BK121.out 5).trans rfl; have hcz20_6 : w6.cell? ⟨gb121, 6, none⟩ = some (.slice A0_6 l0_6.length c0_6) := (bc_ BK121.out 6).trans rfl; have hfz20_0 := bf_ BK121.out 0; have hfz20_1 := bf_ BK121.out 1; have hfz20_2 := bf_ BK121.out 2; have hfz20_3 := bf_ BK121.out 3; have hfz20_4 := bf_ BK121.out 4; have hfz20_5 := bf_ BK121.out 5; have hfz20_6 := bf_ BK121.out 6
  go_wp2_with (first | (go_at_call 73; (with_reducible refine (name_Under_c.calls a1 a0_5 false _ A15.out).mono ?_); rintro e w' ⟨rfl, ⟨nd, rfl⟩⟩))
  go_ret
  exact ⟨by first | rfl | (simp [errW_none, errW_some] <;> rfl) | (simp [*, errW_none, errW_some] <;> rfl), by repeat (with_reducible first | exact HB.out | apply p3_ | apply p1_ | apply p2_ | refine bs_ ?_ GE121.out)⟩
 case rest =>
  clear HC4
  obtain ⟨kq, x5_3, rfl, HA, HJ3, BK121, HB⟩ := hcut
  cases kq with
  | zero => exact absurd HA.out (by simp [regis_Full.j0])
  | succ kj3 =>
   have H := HA.out
   clear HA
   simp only [regis_Full.j0] at H
   replace H := e4_ H
   obtain ⟨t126, A210, H⟩ := H
   replace H : (if t126 = true then ((conf_May.f a0_0 a0_1 l0_2 l0_3 a0_4 a0_5 l0_6).bind fun t127 => (if t127 = true then (some x5_3) else (some (⟨#[]⟩ : ByteArray)))) else (some (⟨#[]⟩ : ByteArray))) = some r := H
   have A21 := am_ A210
   clear A210
   by_cases c22 : t126 = true
   ·subst c22
    have H1 : ((conf_May.f a0_0 a0_1 l0_2 l0_3 a0_4 a0_5 l0_6).bind fun t127 => (if t127 = true then (some x5_3) else (some (⟨#[]⟩ : ByteArray)))) = some r := by rw [if_pos rfl] at H; exact H
    clear H
    have H := H1
    clear H1
    replace H := e4_ H
    obtain ⟨t127, A230, H⟩ := H
    replace H : (if t127 = true then (some x5_3) else (some (⟨#[]⟩ : ByteArray))) = some r := H
    have A23 := am_ A230
    clear A230
    by_cases c24 : t127 = true
    ·subst c24
     have H1 : (some x5_3) = some r := by rw [if_pos rfl] at H; exact H
     clear H
     have H := H1
     clear H1
     obtain rfl := e5_ H
     go_wp2_with (first | ((with_reducible refine gate_callee (f := 41) rfl ?_); refine goesL_ (some 32) rfl rfl Tryd.func41 (by kernel_rfl) rfl #[.string x5_3] rfl (by (try simp only [List.map_toArray, List.map_cons, List.map_nil]); first | done | rfl | (simp only [List.length_drop, List.length_take]; rfl)) ?_; (with_reducible refine (name_May_c.calls x5_3 true _ A21.out).mono ?_); rintro e w' ⟨rfl, ⟨nd, rfl⟩⟩; refine ⟨_, rfl, ?_⟩; have hcz25_0 : wc.cell? ⟨gb121, 0, none⟩ = some (.int .i64 a0_0) := (bc_ BK121.out 0).trans rfl; have hcz25_1 : wc.cell? ⟨gb121, 1, none⟩ = some (.int .i64 a0_1) := (bc_ BK121.out 1).trans rfl; have hcz25_2 : wc.cell? ⟨gb121, 2, none⟩ = some (.slice A0_2 l0_2.length c0_2) := (bc_ BK121.out 2).trans rfl; have hcz25_3 : wc.cell? ⟨gb121, 3, none⟩ = some (.slice A0_3 l0_3.length c0_3) := (bc_ BK121.out 3).trans rfl; have hcz25_4 : wc.cell? ⟨gb121, 4, none⟩ = some (.int .i64 a0_4) := (bc_ BK121.out 4).trans rfl; have hcz25_5 : wc.cell? ⟨gb121, 5, none⟩ = some (.string a0_5) := (bc_ BK121.out 5).trans rfl; have hcz25_6 : wc.cell? ⟨gb121, 6, none⟩ = some (.slice A0_6 l0_6.length c0_6) := (bc_ BK121.out 6).trans rfl; have hfz25_0 := bf_ BK121.out 0; have hfz25_1 := bf_ BK121.out 1; have hfz25_2 := bf_ BK121.out 2; have hfz25_3 := bf_ BK121.out 3; have hfz25_4 := bf_ BK121.out 4; have hfz25_5 := bf_ BK121.out 5; have hfz25_6 := bf_ BK121.out 6) | (go_at_call 37; (with_reducible refine (conf_May.calls a0_0 a0_1 _ _ l0_2 _ _ l0_3 a0_4 a0_5 _ _ l0_6 true _ ?side1 ?side2 ?side3 ?side4 ?side5 ?side6 A23.out).mono ?_); (case side1 => repeat (first | exact (c4_ HR0_2.out (by repeat (with_reducible first | exact HB.out | apply p3_ | apply p1_ | apply p2_ | refine bs_ ?_ GE121.out))) | (with_reducible refine c1_ ?_ _) | (with_reducible refine c2_ ?_ _) | (with_reducible refine c3_ ?_))); (case side2 => exact HC0_2.out); (case side3 => repeat (first | exact (c4_ HR0_3.out (by repeat (with_reducible first | exact HB.out | apply p3_ | apply p1_ | apply p2_ | refine bs_ ?_ GE121.out))) | (with_reducible refine c1_ ?_ _) | (with_reducible refine c2_ ?_ _) | (with_reducible refine c3_ ?_))); (case side4 => exact HC0_3.out); (case side5 => repeat (first | exact (c4_ HR0_6.out (by repeat (with_reducible first | exact HB.out | apply p3_ | apply p1_ | apply p2_ | refine bs_ ?_ GE121.out))) | (with_reducible refine c1_ ?_ _) | (with_reducible refine c2_ ?_ _) | (with_reducible refine c3_ ?_))); (case side6 => exact HC0_6.out); rintro e w26 ⟨rfl, hb⟩; have n0_ := am_ (kb_ (g := gb121) (o := .cells #[.int .i64 a0_0, .int .i64 a0_1, .slice A0_2 l0_2.length c0_2, .slice A0_3 l0_3.length c0_3, .int .i64 a0_4, .string a0_5, .slice A0_6 l0_6.length c0_6] 26 (0, 0)) (by (with_reducible repeat (first | refine k2_ ?_ _ | refine k3_ ?_ | refine k1_ ?_ _)); exact BK121.out) hb); have n1_ := am_ (bt_ (by repeat (with_reducible first | exact HB.out | apply p3_ | apply p1_ | apply p2_ | refine bs_ ?_ GE121.out)) hb); clear BK121; clear HB; have BK121 := n0_; have HB := n1_; clear n0_ n1_; (try clear hb)))
     go_ret
     exact ⟨by first | rfl | (simp [errW_none, errW_some] <;> rfl) | (simp [*, errW_none, errW_some] <;> rfl), by repeat (with_reducible first | exact HB.out | apply p3_ | apply p1_ | apply p2_ | refine bs_ ?_ GE121.out)⟩
    replace c24 := e3_ c24
    subst c24
    have H1 : (some (⟨#[]⟩ : ByteArray)) = some r := by rw [if_neg (show ¬ (false = true) by decide)] at H; exact H
    clear H
    have H := H1
    clear H1
    obtain rfl := e5_ H
    go_wp2_with (first | ((with_reducible refine gate_callee (f := 41) rfl ?_); refine goesL_ (some 32) rfl rfl Tryd.func41 (by kernel_rfl) rfl #[.string x5_3] rfl (by (try simp only [List.map_toArray, List.map_cons, List.map_nil]); first | done | rfl | (simp only [List.length_drop, List.length_take]; rfl)) ?_; (with_reducible refine (name_May_c.calls x5_3 true _ A21.out).mono ?_); rintro e w' ⟨rfl, ⟨nd, rfl⟩⟩; refine ⟨_, rfl, ?_⟩; have hcz27_0 : wc.cell? ⟨gb121, 0, none⟩ = some (.int .i64 a0_0) := (bc_ BK121.out 0).trans rfl; have hcz27_1 : wc.cell? ⟨gb121, 1, none⟩ = some (.int .i64 a0_1) := (bc_ BK121.out 1).trans rfl; have hcz27_2 : wc.cell? ⟨gb121, 2, none⟩ = some (.slice A0_2 l0_2.length c0_2) := (bc_ BK121.out 2).trans rfl; have hcz27_3 : wc.cell? ⟨gb121, 3, none⟩ = some (.slice A0_3 l0_3.length c0_3) := (bc_ BK121.out 3).trans rfl; have hcz27_4 : wc.cell? ⟨gb121, 4, none⟩ = some (.int .i64 a0_4) := (bc_ BK121.out 4).trans rfl; have hcz27_5 : wc.cell? ⟨gb121, 5, none⟩ = some (.string a0_5) := (bc_ BK121.out 5).trans rfl; have hcz27_6 : wc.cell? ⟨gb121, 6, none⟩ = some (.slice A0_6 l0_6.length c0_6) := (bc_ BK121.out 6).trans rfl; have hfz27_0 := bf_ BK121.out 0; have hfz27_1 := bf_ BK121.out 1; have hfz27_2 := bf_ BK121.out 2; have hfz27_3 := bf_ BK121.out 3; have hfz27_4 := bf_ BK121.out 4; have hfz27_5 := bf_ BK121.out 5; have hfz27_6 := bf_ BK121.out 6) | (go_at_call 37; (with_reducible refine (conf_May.calls a0_0 a0_1 _ _ l0_2 _ _ l0_3 a0_4 a0_5 _ _ l0_6 false _ ?side1 ?side2 ?side3 ?side4 ?side5 ?side6 A23.out).mono ?_); (case side1 => repeat (first | exact (c4_ HR0_2.out (by repeat (with_reducible first | exact HB.out | apply p3_ | apply p1_ | apply p2_ | refine bs_ ?_ GE121.out))) | (with_reducible refine c1_ ?_ _) | (with_reducible refine c2_ ?_ _) | (with_reducible refine c3_ ?_))); (case side2 => exact HC0_2.out); (case side3 => repeat (first | exact (c4_ HR0_3.out (by repeat (with_reducible first | exact HB.out | apply p3_ | apply p1_ | apply p2_ | refine bs_ ?_ GE121.out))) | (with_reducible refine c1_ ?_ _) | (with_reducible refine c2_ ?_ _) | (with_reducible refine c3_ ?_))); (case side4 => exact HC0_3.out); (case side5 => repeat (first | exact (c4_ HR0_6.out (by repeat (with_reducible first | exact HB.out | apply p3_ | apply p1_ | apply p2_ | refine bs_ ?_ GE121.out))) | (with_reducible refine c1_ ?_ _) | (with_reducible refine c2_ ?_ _) | (with_reducible refine c3_ ?_))); (case side6 => exact HC0_6.out); rintro e w28 ⟨rfl, hb⟩; have n0_ := am_ (kb_ (g := gb121) (o := .cells #[.int .i64 a0_0, .int .i64 a0_1, .slice A0_2 l0_2.length c0_2, .slice A0_3 l0_3.length c0_3, .int .i64 a0_4, .string a0_5, .slice A0_6 l0_6.length c0_6] 26 (0, 0)) (by (with_reducible repeat (first | refine k2_ ?_ _ | refine k3_ ?_ | refine k1_ ?_ _)); exact BK121.out) hb); have n1_ := am_ (bt_ (by repeat (with_reducible first | exact HB.out | apply p3_ | apply p1_ | apply p2_ | refine bs_ ?_ GE121.out)) hb); clear BK121; clear HB; have BK121 := n0_; have HB := n1_; clear n0_ n1_; (try clear hb)))
    go_ret
    exact ⟨by first | rfl | (simp [errW_none, errW_some] <;> rfl) | (simp [*, errW_none, errW_some] <;> rfl), by repeat (with_reducible first | exact HB.out | apply p3_ | apply p1_ | apply p2_ | refine bs_ ?_ GE121.out)⟩
   replace c22 := e3_ c22
   subst c22
   have H1 : (some (⟨#[]⟩ : ByteArray)) = some r := by rw [if_neg (show ¬ (false = true) by decide)] at H; exact H
   clear H
   have H := H1
   clear H1
   obtain rfl := e5_ H
   go_wp2_with (first | ((with_reducible refine gate_callee (f := 41) rfl ?_); refine goesL_ (some 32) rfl rfl Tryd.func41 (by kernel_rfl) rfl #[.string x5_3] rfl (by (try simp only [List.map_toArray, List.map_cons, List.map_nil]); first | done | rfl | (simp only [List.length_drop, List.length_take]; rfl)) ?_; (with_reducible refine (name_May_c.calls x5_3 false _ A21.out).mono ?_); rintro e w' ⟨rfl, ⟨nd, rfl⟩⟩; refine ⟨_, rfl, ?_⟩))
   go_ret
   exact ⟨by first | rfl | (simp [errW_none, errW_some] <;> rfl) | (simp [*, errW_none, errW_some] <;> rfl), by repeat (with_reducible first | exact HB.out | apply p3_ | apply p1_ | apply p2_ | refine bs_ ?_ GE121.out)⟩

/-! ### regis_Full_c: function 69 -/
theorem regis_Full.eq (a0 a1 : Int) (l2 : List Int) (l3 : List S72) (a4 : Int) (z : ByteArray) (l6 : List S74) (h : ByteArray) (hf : fullFit l2 l3 z l6 h) : regis_Full.f 1 a0 a1 l2 l3 a4 z l6 h = some (fullB a0 a1 l2 l3 a4 z l6 h) := by
 have hz := hf.2
 have hzs := hf.1.2.2.1
 have e1 : ∀ (k : Nat) (x : ByteArray), x.size ≤ 562949953421312 → regis_Full.j0 (k + 1) x a0 a1 l2 l3 a4 z l6 = some (if nameB (bytesOf x) && confB a0 a1 l2 l3 a4 z l6 then x else ⟨#[]⟩) := fun k x hx => by
  unfold regis_Full.j0 name_May_c.f conf_May.f
  dsimp only
  rw [if_pos hx, Option.bind_some]
  cases nameB (bytesOf x) with
  | false => rfl
  | true =>
   rw [if_pos rfl, if_pos hf.1, Option.bind_some, Bool.true_and]
   cases confB a0 a1 l2 l3 a4 z l6 <;> rfl
 unfold regis_Full.f fullB name_Labels_c.f name_Under_c.f
 rw [if_pos (by omega), Option.bind_some]
 by_cases q : (labelsS h).length = 1
 ·have s1 : (h ++ (⟨#[46]⟩ : ByteArray)).size = h.size + 1 := by rw [ByteArray.size_append]; rfl
  rw [if_pos (by omega), if_pos (by omega), if_pos (by omega), if_pos q, e1 0 _ (by rw [ByteArray.size_append]; omega)]
 ·rw [if_neg (by omega), if_neg q]
  by_cases q2 : h.toList = z.toList
  ·rw [if_pos q2, if_pos (Or.inl q2)]
  ·rw [if_neg q2, if_pos (by omega), Option.bind_some]
   cases q3 : underB (bytesOf h) (bytesOf z) with
   | false => rw [if_neg (by simp), if_pos (Or.inr rfl)]
   | true => rw [if_pos rfl, if_neg (by simp [q2]), e1 0 _ (by omega)]
def regis_Full_c.f (a0_0 : Int) (a0_1 : Int) (l0_2 : List Int) (l0_3 : List S72) (a0_4 : Int) (a0_5 : ByteArray) (l0_6 : List S74) (a1 : ByteArray) : Option ByteArray := if fullFit l0_2 l0_3 a0_5 l0_6 a1 then some (fullB a0_0 a0_1 l0_2 l0_3 a0_4 a0_5 l0_6 a1) else none
theorem regis_Full_c.calls (a0_0 : Int) (a0_1 : Int) (A0_2 : Option Addr) (c0_2 : Nat) (l0_2 : List Int) (A0_3 : Option Addr) (c0_3 : Nat) (l0_3 : List S72) (a0_4 : Int) (a0_5 : ByteArray) (A0_6 : Option Addr) (c0_6 : Nat) (l0_6 : List S74) (a1 : ByteArray) (r : ByteArray) (w : World) (hr0_2 : Kd.C (Kd.int .i64) w A0_2 l0_2.length l0_2) (hc0_2 : l0_2.length ≤ c0_2) (hr0_3 : Kd.C k72 w A0_3 l0_3.length l0_3) (hc0_3 : l0_3.length ≤ c0_3) (hr0_6 : Kd.C k74 w A0_6 l0_6.length l0_6) (hc0_6 : l0_6.length ≤ c0_6) (h : regis_Full_c.f a0_0 a0_1 l0_2 l0_3 a0_4 a0_5 l0_6 a1 = some r) :
  Calls Tryd.prog 69 #[.agg #[.int .i64 a0_0, .int .i64 a0_1, .slice A0_2 l0_2.length c0_2, .slice A0_3 l0_3.length c0_3, .int .i64 a0_4, .string a0_5, .slice A0_6 l0_6.length c0_6], .string a1] w fun e w' => e = .returned (.string r) ∧ Below w.heap.size w w' := by
 unfold regis_Full_c.f at h
 by_cases hs : fullFit l0_2 l0_3 a0_5 l0_6 a1
 ·rw [if_pos hs] at h
  obtain rfl := e5_ h
  exact regis_Full.calls 1 a0_0 a0_1 A0_2 c0_2 l0_2 A0_3 c0_3 l0_3 a0_4 a0_5 A0_6 c0_6 l0_6 a1 _ w hr0_2 hc0_2 hr0_3 hc0_3 hr0_6 hc0_6 (regis_Full.eq _ _ _ _ _ _ _ _ hs)
 ·rw [if_neg hs] at h
  cases h

end Go.Proofs.YtibalpbkmgegnaaDoor.PJ
