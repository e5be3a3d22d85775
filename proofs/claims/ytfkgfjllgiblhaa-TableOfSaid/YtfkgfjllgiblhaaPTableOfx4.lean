-- Made by wip/pr.py out of the translation (a turned copy of the kit's print; contracts by hand where said).
import Derived.Test.YtfkgfjllgiblhaaPTableOfx0
import Derived.Test.YtfkgfjllgiblhaaPTableOfx2
import Derived.Test.YtfkgfjllgiblhaaPTableOfx3
namespace Go.Proofs.Ytfkgfjllgiblhaa.PTableOf
open Go.RowKit Go.Proofs.YtfkgfjllgiblhaaW.PrintWords Go.Proofs.YtfkgfjllgiblhaaW.PrintLast Go.Proofs.YtfkgfjllgiblhaaW.PrintMore
attribute [local go_sem] max2_int min2_int max_two min_two max_three min_three max_four min_four   -- for this text's walks alone
set_option linter.unusedVariables false
set_option linter.unusedSimpArgs false

/-! ### table_at: function 24 -/
-- BY HAND
/-- where the first of a row stands that is so; below 0: none is. -/
def table_at.idx (p : S24 → Bool) (l : List S24) : Int := match l.findIdx? p with
  | some i => (i : Int)
  | none => -1
theorem table_at.idx_hit (p : S24 → Bool) (l : List S24) (k : Nat) (hk : k < l.length) (h : p l[k] = true) (hn : ∀ (j : Nat) (hj : j < l.length), j < k → p l[j] = false) : table_at.idx p l = k := by
  have e : l.findIdx? p = some k := List.findIdx?_eq_some_iff_getElem.2 ⟨hk, h, fun j hj => by simp [hn j (by omega) hj]⟩
  unfold table_at.idx
  rw [e]
theorem table_at.idx_miss (p : S24 → Bool) (l : List S24) (hn : ∀ (j : Nat) (hj : j < l.length), p l[j] = false) : table_at.idx p l = -1 := by
  have e : l.findIdx? p = none := List.findIdx?_eq_none_iff.2 fun x hx => by
    obtain ⟨j, hj, rfl⟩ := List.getElem_of_mem hx
    exact hn j hj
  unfold table_at.idx
  rw [e]
theorem table_at.idx_lt (p : S24 → Bool) (l : List S24) : table_at.idx p l < l.length ∧ -1 ≤ table_at.idx p l := by
  unfold table_at.idx
  cases e : l.findIdx? p with
  | none => simp only; omega
  | some i =>
    obtain ⟨h, _⟩ := List.findIdx?_eq_some_iff_getElem.1 e
    simp only
    omega
theorem table_at.idx_congr (p q : S24 → Bool) (l : List S24) (h : ∀ x ∈ l, p x = q x) : table_at.idx p l = table_at.idx q l := by
  cases e : l.findIdx? p with
  | none =>
    have hn := List.findIdx?_eq_none_iff.1 e
    rw [table_at.idx_miss p l (fun j hj => hn _ (List.getElem_mem hj)), table_at.idx_miss q l (fun j hj => by rw [← h _ (List.getElem_mem hj)]; exact hn _ (List.getElem_mem hj))]
  | some i =>
    obtain ⟨hi, h1, h2⟩ := List.findIdx?_eq_some_iff_getElem.1 e
    have h3 : ∀ (j : Nat) (hj : j < l.length), j < i → p l[j] = false := fun j hj hji => by simpa using h2 j hji
    rw [table_at.idx_hit p l i hi h1 h3, table_at.idx_hit q l i hi (by rw [← h _ (List.getElem_mem hi)]; exact h1) (fun j hj hji => by rw [← h _ (List.getElem_mem hj)]; exact h3 j hj hji)]
theorem table_at.rd (l : List S24) (k : Nat) (h : k < l.length) : rd_T24 l (k : Int) = l[k] := by
  unfold rd_T24
  rw [Int.toNat_natCast, List.getD_eq_getElem?_getD, List.getElem?_eq_getElem h]
  rfl
set_option maxHeartbeats 8000000 in
set_option maxRecDepth 100000 in
theorem table_at.index (p : S24 → Bool) (G : Nat) (lb : Array Value) (A0 : Option Addr) (c0 : Nat) (l0 : List S24) (w : World) (hr : Kd.C k24 w A0 l0.length l0) (hs : l0.length ≤ 140737488351232)
    (eg : ∀ args w, (callFunc G args).run Try.prog w = .ok (.enter G args) w)
    (hp : ∀ (W : World) (x : S24), x ∈ l0 → Below w.heap.size w W → Calls Try.prog G (#[.agg #[.int .i64 x.f0, .int .i64 x.f1, .string x.f2, .int .i64 x.f3, .string x.f4, .bool x.f5]] ++ lb) W fun e w' => e = .returned (.bool (p x)) ∧ Below W.heap.size W w') :
    Calls Try.prog 28 #[.slice A0 l0.length c0, .func (.func G) #[] lb] w fun e w' => e = .returned (.int .i64 (table_at.idx p l0)) ∧ Below w.heap.size w w' := by
  have HR := Aside0.mk hr
  have HP := Aside0.mk hp
  clear hr hp
  go_enter Try.func28, Try.ntmps28
  go_wp2
  go_loopg [5, 8] l0.length (fun gg _ s8 wr => ∃ kk : Nat, kk + gg = l0.length ∧ s8 = .int .i64 kk ∧ Aside0 (Below w.heap.size w wr) ∧ Aside0 (∀ (j : Nat) (h : j < l0.length), j < kk → p (l0[j]'h) = false))
  case atStart => exact ⟨0, by omega, rfl, ⟨Below.refl _ w⟩, ⟨fun j _ hj => absurd hj (Nat.not_lt_zero _)⟩⟩
  case round =>
    obtain ⟨kk, hg, rfl, BW, A⟩ := hrel
    by_cases hlt : kk < l0.length
    · have hltz : (kk : Int) < (l0.length : Int) := by omega
      obtain ⟨ad, e1, h0, h1, h2, h3, h4, h5⟩ := at_T24 HR.out (kk : Int) (by omega) hltz
      cases e1
      rw [table_at.rd l0 kk hlt] at h0 h1 h2 h3 h4 h5
      rw [Int.toNat_natCast] at h0 h1 h2 h3 h4 h5
      obtain ⟨x, hx⟩ : ∃ x, l0[kk]'hlt = x := ⟨_, rfl⟩
      have B := Aside0.mk hx
      rw [hx] at h0 h1 h2 h3 h4 h5
      clear hx
      replace h0 := (BW.out.cell (World.block_lt_of_cell? w _ h0)).trans h0
      replace h1 := (BW.out.cell (World.block_lt_of_cell? w _ h1)).trans h1
      replace h2 := (BW.out.cell (World.block_lt_of_cell? w _ h2)).trans h2
      replace h3 := (BW.out.cell (World.block_lt_of_cell? w _ h3)).trans h3
      replace h4 := (BW.out.cell (World.block_lt_of_cell? w _ h4)).trans h4
      replace h5 := (BW.out.cell (World.block_lt_of_cell? w _ h5)).trans h5
      have hcall := HP.out wr x (by rw [← B.out]; exact List.getElem_mem hlt) BW.out
      cases hq : p x with
      | true =>
        rw [hq] at hcall
        have hq' := Aside0.mk hq
        clear hq
        go_wp2_with (go_at_fn G; refine hcall.mono ?_; rintro e w' ⟨rfl, hb'⟩)
        go_ret
        refine ⟨?_, below_step BW.out hb'⟩
        rw [table_at.idx_hit p l0 kk hlt (by rw [B.out]; exact hq'.out) A.out]
        rfl
      | false =>
        rw [hq] at hcall
        have hq' := Aside0.mk hq
        clear hq
        go_wp2_with (go_at_fn G; refine hcall.mono ?_; rintro e w' ⟨rfl, hb'⟩)
        go_roundg (l0.length - (kk + 1))
        case measure => omega
        case rel =>
          refine ⟨kk + 1, by omega, by go_num, ⟨below_step BW.out hb'⟩, ⟨fun j h hj => ?_⟩⟩
          by_cases e : j = kk
          · subst e
            rw [B.out]
            exact hq'.out
          · exact A.out j h (by omega)
    · have hltz : ¬ (kk : Int) < (l0.length : Int) := by omega
      go_wp2
      go_ret
      refine ⟨?_, BW.out⟩
      rw [table_at.idx_miss p l0 (fun j hj => A.out j hj (by omega))]
      rfl
set_option maxHeartbeats 8000000 in
set_option maxRecDepth 100000 in
theorem table_at.closure (host : Int) (B : Nat) (x : S24) (w : World) (hc : w.cell? ⟨B, 0, none⟩ = some (.int .i64 host)) :
    Calls Try.prog 34 #[.agg #[.int .i64 x.f0, .int .i64 x.f1, .string x.f2, .int .i64 x.f3, .string x.f4, .bool x.f5], .pointer (some ⟨B, 0, none⟩)] w fun e w' => e = .returned (.bool (x.f0 == host)) ∧ Below w.heap.size w w' := by
  have hlt : B < w.heap.size := World.block_lt_of_cell? w _ hc
  have hne : B ≠ w.heap.size := by omega
  go_enter Try.func34, Try.ntmps34
  go_wp2
  go_ret
  exact ⟨rfl, by repeat (first | exact Below.refl _ _ | apply below_alloc | apply pw_below_drewN | apply below_drew1)⟩
def table_at.f (l0 : List S24) (a1 : Int) : Option Int := if l0.length ≤ 140737488351232 then some (table_at.idx (fun x => x.f0 == a1) l0) else none
set_option maxHeartbeats 8000000 in
set_option maxRecDepth 100000 in
theorem table_at.calls (A0 : Option Addr) (c0 : Nat) (l0 : List (S24)) (a1 : Int) (r : Int) (w : World) (hr0 : Kd.C k24 w A0 l0.length l0) (hc0 : l0.length ≤ c0) (h : table_at.f l0 a1 = some r) :
    Calls Try.prog 24 #[.slice A0 l0.length c0, .int .i64 a1] w fun e w' => e = .returned (.int .i64 r) ∧ Below w.heap.size w w' := by
  unfold table_at.f at h
  by_cases hs : l0.length ≤ 140737488351232
  · rw [if_pos hs] at h
    obtain rfl := Option.some.inj h
    clear h
    have eg : ∀ args w, (callFunc 34 args).run Try.prog w = .ok (.enter 34 args) w := enters_of Try.func34 (by kernel_rfl) rfl
    have hb := below_alloc (Below.refl w.heap.size w) (.cells #[.int .i64 a1] 3)
    have hcell : (w.alloc (.cells #[.int .i64 a1] 3)).cell? ⟨w.heap.size, 0, none⟩ = some (.int .i64 a1) := (blk_cell (blk_new w _) 0).trans rfl
    have hI := table_at.index (fun x => x.f0 == a1) 34 #[.pointer (some ⟨w.heap.size, 0, none⟩)] A0 c0 l0 (w.alloc (.cells #[.int .i64 a1] 3)) (Kd.C_below hr0 hb) hs eg (fun W x _ hW => table_at.closure a1 w.heap.size x W ((hW.cell (p := ⟨w.heap.size, 0, none⟩) (World.block_lt_of_cell? _ _ hcell)).trans hcell))
    replace hI := Aside0.mk hI
    clear hcell eg hr0 hc0
    generalize table_at.idx (fun x => x.f0 == a1) l0 = r at hI ⊢
    go_enter Try.func24, Try.ntmps24
    go_wp2_with (first | (go_at_call 28; refine hI.out.mono ?_; rintro e w' ⟨rfl, hb'⟩))
    go_ret
    exact ⟨rfl, below_step hb hb'⟩
  · rw [if_neg hs] at h
    cases h

/-! ### lease_Live: function 36 -/
def lease_Live.f (k : Nat) (a0_0 : Int) (a0_1 : Int) (a0_2 : ByteArray) (a0_3 : Int) (a0_4 : ByteArray) (a0_5 : Bool) (a1 : Int) : Option (Bool) := (lease_May.f k a0_0 a0_1 a0_2 a0_3 a0_4 a0_5).bind fun t115 => (if t115 = true then (if a0_1 = 0 then (some false) else (some (decide (a0_3 > a1)))) else (some false))
theorem lease_Live.mono : ∀ a0 a1 a2 a3 a4 a5 a6 k, LeO (lease_Live.f k a0 a1 a2 a3 a4 a5 a6) (lease_Live.f (k + 1) a0 a1 a2 a3 a4 a5 a6) := by
  intro a0 a1 a2 a3 a4 a5 a6 k
  unfold lease_Live.f
  repeat' first
      | (with_reducible exact lease_May.mono _ _ _ _ _ _ _)
      | (with_reducible exact LeO.refl _)
      | (with_reducible exact LeO.none _)
      | (with_reducible refine LeO.ite ?_ ?_)
      | (with_reducible refine LeO.bind ?_ (fun _ => ?_))
      | exact lease_May.mono _ _ _ _ _ _ _
      | exact LeO.none _
      | refine LeO.ite ?_ ?_
      | refine LeO.bind ?_ (fun _ => ?_)
set_option maxHeartbeats 8000000 in
set_option maxRecDepth 100000 in
theorem lease_Live.calls (k : Nat) (a0_0 : Int) (a0_1 : Int) (a0_2 : ByteArray) (a0_3 : Int) (a0_4 : ByteArray) (a0_5 : Bool) (a1 : Int) (r : Bool) (w : World) (h : lease_Live.f k a0_0 a0_1 a0_2 a0_3 a0_4 a0_5 a1 = some r) :
    Calls Try.prog 36 #[.agg #[.int .i64 a0_0, .int .i64 a0_1, .string a0_2, .int .i64 a0_3, .string a0_4, .bool a0_5], .int .i64 a1] w fun e w' => e = .returned (.bool r) ∧ Below w.heap.size w w' := by
  have hu24 := Try.underlying24
  have HB := Aside0.mk (Below.refl w.heap.size w)
  have H : ((lease_May.f k a0_0 a0_1 a0_2 a0_3 a0_4 a0_5).bind fun t115 => (if t115 = true then (if a0_1 = 0 then (some false) else (some (decide (a0_3 > a1)))) else (some false))) = some r := h
  clear h
  replace H := Option.bind_eq_some_iff.mp H
  obtain ⟨t115, A30, H⟩ := H
  replace H : (if t115 = true then (if a0_1 = 0 then (some false) else (some (decide (a0_3 > a1)))) else (some false)) = some r := H
  have A3 := Aside0.mk A30
  clear A30
  by_cases c4 : t115 = true
  · subst c4
    have H1 : (if a0_1 = 0 then (some false) else (some (decide (a0_3 > a1)))) = some r := by rw [if_pos rfl] at H; exact H
    clear H
    have H := H1
    clear H1
    by_cases c5 : a0_1 = 0
    · rw [if_pos c5] at H
      have c5b0 : (a0_1 == 0) = true := beq_iff_eq.mpr c5
      have c5b1 : (a0_1 != 0) = false := bne_eq_false_iff_eq.mpr c5
      clear c5
      obtain rfl := Option.some.inj H
      go_enter Try.func36, Try.ntmps36
      go_wp2_with (first | ((with_reducible refine gate_dst (N := 2) rfl ?_); refine box_event ?hg (N := 2) ?hd (cs := #[.int .i64 a0_0, .int .i64 a0_1, .string a0_2, .int .i64 a0_3, .string a0_4, .bool a0_5]) (t := 24) ?hr ?_; (case hd => rfl); (case hg => rfl); (case hr => first | (go_simp; done) | (go_simp; rfl)); intro gb114 hg w6 hbox hb; have n0_ := Aside0.mk (below_step (by repeat (with_reducible first | exact HB.out | apply below_alloc | apply pw_below_drewN | apply below_drew1)) hb); have n1_ := Aside0.mk (hbox); have n2_ := Aside0.mk ((by rw [hg]; exact (below_size (by repeat (with_reducible first | exact HB.out | apply below_alloc | apply pw_below_drewN | apply below_drew1))) : w.heap.size ≤ gb114)); have n3_ := Aside0.mk ((by rw [hg]; exact (below_size (by repeat (with_reducible first | exact HB.out | apply below_alloc | apply pw_below_drewN | apply below_drew1))) : w.heap.size ≤ gb114)); clear HB; have HB := n0_; have BK114 := n1_; have GW114 := n2_; have GE114 := n3_; clear n0_ n1_ n2_ n3_; clear hb hbox hg; have hcz7_0 : w6.cell? ⟨gb114, 0, none⟩ = some (.int .i64 a0_0) := (blk_cell BK114.out 0).trans rfl; have hcz7_1 : w6.cell? ⟨gb114, 1, none⟩ = some (.int .i64 a0_1) := (blk_cell BK114.out 1).trans rfl; have hcz7_2 : w6.cell? ⟨gb114, 2, none⟩ = some (.string a0_2) := (blk_cell BK114.out 2).trans rfl; have hcz7_3 : w6.cell? ⟨gb114, 3, none⟩ = some (.int .i64 a0_3) := (blk_cell BK114.out 3).trans rfl; have hcz7_4 : w6.cell? ⟨gb114, 4, none⟩ = some (.string a0_4) := (blk_cell BK114.out 4).trans rfl; have hcz7_5 : w6.cell? ⟨gb114, 5, none⟩ = some (.bool a0_5) := (blk_cell BK114.out 5).trans rfl; have hfz7_0 := blk_frozen BK114.out 0; have hfz7_1 := blk_frozen BK114.out 1; have hfz7_2 := blk_frozen BK114.out 2; have hfz7_3 := blk_frozen BK114.out 3; have hfz7_4 := blk_frozen BK114.out 4; have hfz7_5 := blk_frozen BK114.out 5) | ((with_reducible refine gate_callee (f := 32) rfl ?_); refine goesL_ (some 6) rfl rfl Try.func32 (by kernel_rfl) rfl #[.agg #[.int .i64 a0_0, .int .i64 a0_1, .string a0_2, .int .i64 a0_3, .string a0_4, .bool a0_5]] rfl (by (try simp only [List.map_toArray, List.map_cons, List.map_nil]); first | done | rfl | (simp only [List.length_drop, List.length_take]; rfl)) ?_; (with_reducible refine (lease_May.calls k a0_0 a0_1 a0_2 a0_3 a0_4 a0_5 true _ A3.out).mono ?_); rintro e w8 ⟨rfl, hb⟩; refine ⟨_, rfl, ?_⟩; have n0_ := Aside0.mk (blk_below (g := gb114) (o := .cells #[.int .i64 a0_0, .int .i64 a0_1, .string a0_2, .int .i64 a0_3, .string a0_4, .bool a0_5] 24 (0, 0)) (by (with_reducible repeat (first | refine blk_drewN ?_ _ | refine blk_drew ?_ | refine blk_alloc ?_ _)); exact BK114.out) hb); have n1_ := Aside0.mk (below_step (by repeat (with_reducible first | exact HB.out | apply below_alloc | apply pw_below_drewN | apply below_drew1 | refine below_set ?_ GE114.out)) hb); clear BK114; clear HB; have BK114 := n0_; have HB := n1_; clear n0_ n1_; (try clear hb); have hcz9_0 : w8.cell? ⟨gb114, 0, none⟩ = some (.int .i64 a0_0) := (blk_cell BK114.out 0).trans rfl; have hcz9_1 : w8.cell? ⟨gb114, 1, none⟩ = some (.int .i64 a0_1) := (blk_cell BK114.out 1).trans rfl; have hcz9_2 : w8.cell? ⟨gb114, 2, none⟩ = some (.string a0_2) := (blk_cell BK114.out 2).trans rfl; have hcz9_3 : w8.cell? ⟨gb114, 3, none⟩ = some (.int .i64 a0_3) := (blk_cell BK114.out 3).trans rfl; have hcz9_4 : w8.cell? ⟨gb114, 4, none⟩ = some (.string a0_4) := (blk_cell BK114.out 4).trans rfl; have hcz9_5 : w8.cell? ⟨gb114, 5, none⟩ = some (.bool a0_5) := (blk_cell BK114.out 5).trans rfl; have hfz9_0 := blk_frozen BK114.out 0; have hfz9_1 := blk_frozen BK114.out 1; have hfz9_2 := blk_frozen BK114.out 2; have hfz9_3 := blk_frozen BK114.out 3; have hfz9_4 := blk_frozen BK114.out 4; have hfz9_5 := blk_frozen BK114.out 5))
      go_ret
      exact ⟨by first | rfl | (simp [errW_none, errW_some] <;> rfl) | (simp [*, errW_none, errW_some] <;> rfl), by repeat (with_reducible first | exact HB.out | apply below_alloc | apply pw_below_drewN | apply below_drew1 | refine below_set ?_ GE114.out)⟩
    rw [if_neg c5] at H
    have c5b0 : (a0_1 == 0) = false := beq_eq_false_iff_ne.mpr c5
    have c5b1 : (a0_1 != 0) = true := bne_iff_ne.mpr c5
    obtain rfl := Option.some.inj H
    go_enter Try.func36, Try.ntmps36
    go_wp2_with (first | ((with_reducible refine gate_dst (N := 2) rfl ?_); refine box_event ?hg (N := 2) ?hd (cs := #[.int .i64 a0_0, .int .i64 a0_1, .string a0_2, .int .i64 a0_3, .string a0_4, .bool a0_5]) (t := 24) ?hr ?_; (case hd => rfl); (case hg => rfl); (case hr => first | (go_simp; done) | (go_simp; rfl)); intro gb114 hg w10 hbox hb; have n0_ := Aside0.mk (below_step (by repeat (with_reducible first | exact HB.out | apply below_alloc | apply pw_below_drewN | apply below_drew1)) hb); have n1_ := Aside0.mk (hbox); have n2_ := Aside0.mk ((by rw [hg]; exact (below_size (by repeat (with_reducible first | exact HB.out | apply below_alloc | apply pw_below_drewN | apply below_drew1))) : w.heap.size ≤ gb114)); have n3_ := Aside0.mk ((by rw [hg]; exact (below_size (by repeat (with_reducible first | exact HB.out | apply below_alloc | apply pw_below_drewN | apply below_drew1))) : w.heap.size ≤ gb114)); clear HB; have HB := n0_; have BK114 := n1_; have GW114 := n2_; have GE114 := n3_; clear n0_ n1_ n2_ n3_; clear hb hbox hg; have hcz11_0 : w10.cell? ⟨gb114, 0, none⟩ = some (.int .i64 a0_0) := (blk_cell BK114.out 0).trans rfl; have hcz11_1 : w10.cell? ⟨gb114, 1, none⟩ = some (.int .i64 a0_1) := (blk_cell BK114.out 1).trans rfl; have hcz11_2 : w10.cell? ⟨gb114, 2, none⟩ = some (.string a0_2) := (blk_cell BK114.out 2).trans rfl; have hcz11_3 : w10.cell? ⟨gb114, 3, none⟩ = some (.int .i64 a0_3) := (blk_cell BK114.out 3).trans rfl; have hcz11_4 : w10.cell? ⟨gb114, 4, none⟩ = some (.string a0_4) := (blk_cell BK114.out 4).trans rfl; have hcz11_5 : w10.cell? ⟨gb114, 5, none⟩ = some (.bool a0_5) := (blk_cell BK114.out 5).trans rfl; have hfz11_0 := blk_frozen BK114.out 0; have hfz11_1 := blk_frozen BK114.out 1; have hfz11_2 := blk_frozen BK114.out 2; have hfz11_3 := blk_frozen BK114.out 3; have hfz11_4 := blk_frozen BK114.out 4; have hfz11_5 := blk_frozen BK114.out 5) | ((with_reducible refine gate_callee (f := 32) rfl ?_); refine goesL_ (some 6) rfl rfl Try.func32 (by kernel_rfl) rfl #[.agg #[.int .i64 a0_0, .int .i64 a0_1, .string a0_2, .int .i64 a0_3, .string a0_4, .bool a0_5]] rfl (by (try simp only [List.map_toArray, List.map_cons, List.map_nil]); first | done | rfl | (simp only [List.length_drop, List.length_take]; rfl)) ?_; (with_reducible refine (lease_May.calls k a0_0 a0_1 a0_2 a0_3 a0_4 a0_5 true _ A3.out).mono ?_); rintro e w12 ⟨rfl, hb⟩; refine ⟨_, rfl, ?_⟩; have n0_ := Aside0.mk (blk_below (g := gb114) (o := .cells #[.int .i64 a0_0, .int .i64 a0_1, .string a0_2, .int .i64 a0_3, .string a0_4, .bool a0_5] 24 (0, 0)) (by (with_reducible repeat (first | refine blk_drewN ?_ _ | refine blk_drew ?_ | refine blk_alloc ?_ _)); exact BK114.out) hb); have n1_ := Aside0.mk (below_step (by repeat (with_reducible first | exact HB.out | apply below_alloc | apply pw_below_drewN | apply below_drew1 | refine below_set ?_ GE114.out)) hb); clear BK114; clear HB; have BK114 := n0_; have HB := n1_; clear n0_ n1_; (try clear hb); have hcz13_0 : w12.cell? ⟨gb114, 0, none⟩ = some (.int .i64 a0_0) := (blk_cell BK114.out 0).trans rfl; have hcz13_1 : w12.cell? ⟨gb114, 1, none⟩ = some (.int .i64 a0_1) := (blk_cell BK114.out 1).trans rfl; have hcz13_2 : w12.cell? ⟨gb114, 2, none⟩ = some (.string a0_2) := (blk_cell BK114.out 2).trans rfl; have hcz13_3 : w12.cell? ⟨gb114, 3, none⟩ = some (.int .i64 a0_3) := (blk_cell BK114.out 3).trans rfl; have hcz13_4 : w12.cell? ⟨gb114, 4, none⟩ = some (.string a0_4) := (blk_cell BK114.out 4).trans rfl; have hcz13_5 : w12.cell? ⟨gb114, 5, none⟩ = some (.bool a0_5) := (blk_cell BK114.out 5).trans rfl; have hfz13_0 := blk_frozen BK114.out 0; have hfz13_1 := blk_frozen BK114.out 1; have hfz13_2 := blk_frozen BK114.out 2; have hfz13_3 := blk_frozen BK114.out 3; have hfz13_4 := blk_frozen BK114.out 4; have hfz13_5 := blk_frozen BK114.out 5))
    go_ret
    exact ⟨by first | rfl | (simp [errW_none, errW_some] <;> rfl) | (simp [*, errW_none, errW_some] <;> rfl), by repeat (with_reducible first | exact HB.out | apply below_alloc | apply pw_below_drewN | apply below_drew1 | refine below_set ?_ GE114.out)⟩
  replace c4 := Bool.eq_false_iff.mpr c4
  subst c4
  have H1 : (some false) = some r := by rw [if_neg (show ¬ (false = true) by decide)] at H; exact H
  clear H
  have H := H1
  clear H1
  obtain rfl := Option.some.inj H
  go_enter Try.func36, Try.ntmps36
  go_wp2_with (first | ((with_reducible refine gate_dst (N := 2) rfl ?_); refine box_event ?hg (N := 2) ?hd (cs := #[.int .i64 a0_0, .int .i64 a0_1, .string a0_2, .int .i64 a0_3, .string a0_4, .bool a0_5]) (t := 24) ?hr ?_; (case hd => rfl); (case hg => rfl); (case hr => first | (go_simp; done) | (go_simp; rfl)); intro gb114 hg w14 hbox hb; have n0_ := Aside0.mk (below_step (by repeat (with_reducible first | exact HB.out | apply below_alloc | apply pw_below_drewN | apply below_drew1)) hb); have n1_ := Aside0.mk (hbox); have n2_ := Aside0.mk ((by rw [hg]; exact (below_size (by repeat (with_reducible first | exact HB.out | apply below_alloc | apply pw_below_drewN | apply below_drew1))) : w.heap.size ≤ gb114)); have n3_ := Aside0.mk ((by rw [hg]; exact (below_size (by repeat (with_reducible first | exact HB.out | apply below_alloc | apply pw_below_drewN | apply below_drew1))) : w.heap.size ≤ gb114)); clear HB; have HB := n0_; have BK114 := n1_; have GW114 := n2_; have GE114 := n3_; clear n0_ n1_ n2_ n3_; clear hb hbox hg; have hcz15_0 : w14.cell? ⟨gb114, 0, none⟩ = some (.int .i64 a0_0) := (blk_cell BK114.out 0).trans rfl; have hcz15_1 : w14.cell? ⟨gb114, 1, none⟩ = some (.int .i64 a0_1) := (blk_cell BK114.out 1).trans rfl; have hcz15_2 : w14.cell? ⟨gb114, 2, none⟩ = some (.string a0_2) := (blk_cell BK114.out 2).trans rfl; have hcz15_3 : w14.cell? ⟨gb114, 3, none⟩ = some (.int .i64 a0_3) := (blk_cell BK114.out 3).trans rfl; have hcz15_4 : w14.cell? ⟨gb114, 4, none⟩ = some (.string a0_4) := (blk_cell BK114.out 4).trans rfl; have hcz15_5 : w14.cell? ⟨gb114, 5, none⟩ = some (.bool a0_5) := (blk_cell BK114.out 5).trans rfl; have hfz15_0 := blk_frozen BK114.out 0; have hfz15_1 := blk_frozen BK114.out 1; have hfz15_2 := blk_frozen BK114.out 2; have hfz15_3 := blk_frozen BK114.out 3; have hfz15_4 := blk_frozen BK114.out 4; have hfz15_5 := blk_frozen BK114.out 5) | ((with_reducible refine gate_callee (f := 32) rfl ?_); refine goesL_ (some 6) rfl rfl Try.func32 (by kernel_rfl) rfl #[.agg #[.int .i64 a0_0, .int .i64 a0_1, .string a0_2, .int .i64 a0_3, .string a0_4, .bool a0_5]] rfl (by (try simp only [List.map_toArray, List.map_cons, List.map_nil]); first | done | rfl | (simp only [List.length_drop, List.length_take]; rfl)) ?_; (with_reducible refine (lease_May.calls k a0_0 a0_1 a0_2 a0_3 a0_4 a0_5 false _ A3.out).mono ?_); rintro e w16 ⟨rfl, hb⟩; refine ⟨_, rfl, ?_⟩; have n0_ := Aside0.mk (blk_below (g := gb114) (o := .cells #[.int .i64 a0_0, .int .i64 a0_1, .string a0_2, .int .i64 a0_3, .string a0_4, .bool a0_5] 24 (0, 0)) (by (with_reducible repeat (first | refine blk_drewN ?_ _ | refine blk_drew ?_ | refine blk_alloc ?_ _)); exact BK114.out) hb); have n1_ := Aside0.mk (below_step (by repeat (with_reducible first | exact HB.out | apply below_alloc | apply pw_below_drewN | apply below_drew1 | refine below_set ?_ GE114.out)) hb); clear BK114; clear HB; have BK114 := n0_; have HB := n1_; clear n0_ n1_; (try clear hb)))
  go_ret
  exact ⟨by first | rfl | (simp [errW_none, errW_some] <;> rfl) | (simp [*, errW_none, errW_some] <;> rfl), by repeat (with_reducible first | exact HB.out | apply below_alloc | apply pw_below_drewN | apply below_drew1 | refine below_set ?_ GE114.out)⟩

/-! ### lease_Holds: function 30 -/
def lease_Holds.f (k : Nat) (s0_0 : Int) (s0_1 : Int) (s0_2 : ByteArray) (s0_3 : Int) (s0_4 : ByteArray) (s0_5 : Bool) (a1 : ByteArray) (a2 : Int) : Option (Bool × Int × Int × ByteArray × Int × ByteArray × Bool) := (lease_Live.f k s0_0 s0_1 s0_2 s0_3 s0_4 s0_5 a2).bind fun t116 => (if t116 = true then (if s0_1 = 3 then (some (false, s0_0, s0_1, s0_2, s0_3, s0_4, s0_5)) else (some ((s0_2.toList == a1.toList), s0_0, s0_1, s0_2, s0_3, s0_4, s0_5))) else (some (false, s0_0, s0_1, s0_2, s0_3, s0_4, s0_5)))
theorem lease_Holds.mono : ∀ a0 a1 a2 a3 a4 a5 a6 a7 k, LeO (lease_Holds.f k a0 a1 a2 a3 a4 a5 a6 a7) (lease_Holds.f (k + 1) a0 a1 a2 a3 a4 a5 a6 a7) := by
  intro a0 a1 a2 a3 a4 a5 a6 a7 k
  unfold lease_Holds.f
  repeat' first
      | (with_reducible exact lease_Live.mono _ _ _ _ _ _ _ _)
      | (with_reducible exact LeO.refl _)
      | (with_reducible exact LeO.none _)
      | (with_reducible refine LeO.ite ?_ ?_)
      | (with_reducible refine LeO.bind ?_ (fun _ => ?_))
      | exact lease_Live.mono _ _ _ _ _ _ _ _
      | exact LeO.none _
      | refine LeO.ite ?_ ?_
      | refine LeO.bind ?_ (fun _ => ?_)
set_option maxHeartbeats 8000000 in
set_option maxRecDepth 100000 in
theorem lease_Holds.calls (k : Nat) (g : Nat) (s0_0 : Int) (s0_1 : Int) (s0_2 : ByteArray) (s0_3 : Int) (s0_4 : ByteArray) (s0_5 : Bool) (a1 : ByteArray) (a2 : Int) (r1 : Bool) (r2 : Int) (r3 : Int) (r4 : ByteArray) (r5 : Int) (r6 : ByteArray) (r7 : Bool) (w0 w : World) (hI : IsS24 w0 w g s0_0 s0_1 s0_2 s0_3 s0_4 s0_5) (hB : Below w0.heap.size w0 w) (h : lease_Holds.f k s0_0 s0_1 s0_2 s0_3 s0_4 s0_5 a1 a2 = some (r1, r2, r3, r4, r5, r6, r7)) :
    Calls Try.prog 30 #[.pointer (some ⟨g, 0, none⟩), .string a1, .int .i64 a2] w fun e w' => e = .returned (.bool r1) ∧ IsS24 w0 w' g r2 r3 r4 r5 r6 r7 ∧ Below w0.heap.size w0 w' ∧ KeepBut w w' g none := by
  have hu24 := Try.underlying24
  have HI0 := Aside0.mk hI
  have HK := Aside0.mk (KeepBut.refl w g none)
  have HL := Aside0.mk hB.size
  clear hI
  have HW0 := Aside0.mk hB.size
  have HB := Aside0.mk hB
  clear hB
  have H : ((lease_Live.f k s0_0 s0_1 s0_2 s0_3 s0_4 s0_5 a2).bind fun t116 => (if t116 = true then (if s0_1 = 3 then (some (false, s0_0, s0_1, s0_2, s0_3, s0_4, s0_5)) else (some ((s0_2.toList == a1.toList), s0_0, s0_1, s0_2, s0_3, s0_4, s0_5))) else (some (false, s0_0, s0_1, s0_2, s0_3, s0_4, s0_5)))) = some (r1, r2, r3, r4, r5, r6, r7) := h
  clear h
  replace H := Option.bind_eq_some_iff.mp H
  obtain ⟨t116, A40, H⟩ := H
  replace H : (if t116 = true then (if s0_1 = 3 then (some (false, s0_0, s0_1, s0_2, s0_3, s0_4, s0_5)) else (some ((s0_2.toList == a1.toList), s0_0, s0_1, s0_2, s0_3, s0_4, s0_5))) else (some (false, s0_0, s0_1, s0_2, s0_3, s0_4, s0_5))) = some (r1, r2, r3, r4, r5, r6, r7) := H
  have A4 := Aside0.mk A40
  clear A40
  by_cases c5 : t116 = true
  · subst c5
    have H1 : (if s0_1 = 3 then (some (false, s0_0, s0_1, s0_2, s0_3, s0_4, s0_5)) else (some ((s0_2.toList == a1.toList), s0_0, s0_1, s0_2, s0_3, s0_4, s0_5))) = some (r1, r2, r3, r4, r5, r6, r7) := by rw [if_pos rfl] at H; exact H
    clear H
    have H := H1
    clear H1
    by_cases c6 : s0_1 = 3
    · rw [if_pos c6] at H
      have c6b0 : (s0_1 == 3) = true := beq_iff_eq.mpr c6
      have c6b1 : (s0_1 != 3) = false := bne_eq_false_iff_eq.mpr c6
      clear c6
      simp only [Option.some.injEq, Prod.mk.injEq] at H
      obtain ⟨rfl, rfl, rfl, rfl, rfl, rfl, rfl⟩ := H
      obtain ⟨HGz7, hgz7⟩ := HI0.out
      have hcz7_0 := cellS24_0 HGz7
      have hcz7_1 := cellS24_1 HGz7
      have hcz7_2 := cellS24_2 HGz7
      have hcz7_3 := cellS24_3 HGz7
      have hcz7_4 := cellS24_4 HGz7
      have hcz7_5 := cellS24_5 HGz7
      have hfz7_0 := blk_frozen HGz7 0; have hfz7_1 := blk_frozen HGz7 1; have hfz7_2 := blk_frozen HGz7 2; have hfz7_3 := blk_frozen HGz7 3; have hfz7_4 := blk_frozen HGz7 4; have hfz7_5 := blk_frozen HGz7 5
      clear HGz7 hgz7
      go_enter Try.func30, Try.ntmps30
      go_wp2_with (first | ((with_reducible refine gate_callee (f := 36) rfl ?_); refine goesL_ (some 11) rfl rfl Try.func36 (by kernel_rfl) rfl #[.agg #[.int .i64 s0_0, .int .i64 s0_1, .string s0_2, .int .i64 s0_3, .string s0_4, .bool s0_5], .int .i64 a2] rfl (by (try simp only [List.map_toArray, List.map_cons, List.map_nil]); first | done | rfl | (simp only [List.length_drop, List.length_take]; rfl)) ?_; (with_reducible refine (lease_Live.calls k s0_0 s0_1 s0_2 s0_3 s0_4 s0_5 a2 true _ A4.out).mono ?_); rintro e w8 ⟨rfl, hb⟩; refine ⟨_, rfl, ?_⟩; have n0_ := Aside0.mk (IsS24.below (by repeat (with_reducible first | exact HI0.out | apply IsS24.alloc | apply IsS24.drewN | apply IsS24.drew | apply IsS24.set_0 | apply IsS24.set_1 | apply IsS24.set_2 | apply IsS24.set_3 | apply IsS24.set_4 | apply IsS24.set_5)) hb); have n1_ := Aside0.mk (KeepBut.trans (by repeat (with_reducible first | exact HK.out | apply KeepBut.set_ | apply keep_drewN | apply keep_drew | apply keep_alloc)) (KeepBut.of_below hb g none) (.inl rfl)); have n2_ := Aside0.mk (below_step (by repeat (first | (with_reducible first | exact HB.out | apply below_alloc | apply pw_below_drewN | apply below_drew1 | refine below_set ?_ (IsS24.ge HI0.out)) | exact HB.out)) hb); clear HI0; clear HK; clear HB; have HI0 := n0_; have HK := n1_; have HB := n2_; clear n0_ n1_ n2_; (try clear hb); obtain ⟨HGz9, hgz9⟩ := HI0.out; have hcz9_0 := cellS24_0 HGz9; have hcz9_1 := cellS24_1 HGz9; have hcz9_2 := cellS24_2 HGz9; have hcz9_3 := cellS24_3 HGz9; have hcz9_4 := cellS24_4 HGz9; have hcz9_5 := cellS24_5 HGz9; have hfz9_0 := blk_frozen HGz9 0; have hfz9_1 := blk_frozen HGz9 1; have hfz9_2 := blk_frozen HGz9 2; have hfz9_3 := blk_frozen HGz9 3; have hfz9_4 := blk_frozen HGz9 4; have hfz9_5 := blk_frozen HGz9 5; clear HGz9 hgz9))
      go_ret
      exact ⟨by first | rfl | (simp [errW_none, errW_some] <;> rfl) | (simp [*, errW_none, errW_some] <;> rfl), by repeat (with_reducible first | exact HI0.out | apply IsS24.alloc | apply IsS24.drewN | apply IsS24.drew | apply IsS24.set_0 | apply IsS24.set_1 | apply IsS24.set_2 | apply IsS24.set_3 | apply IsS24.set_4 | apply IsS24.set_5), by repeat (first | (with_reducible first | exact HB.out | apply below_alloc | apply pw_below_drewN | apply below_drew1 | refine below_set ?_ (IsS24.ge HI0.out)) | exact HB.out), by repeat (with_reducible first | exact HK.out | apply KeepBut.set_ | apply keep_drewN | apply keep_drew | apply keep_alloc)⟩
    rw [if_neg c6] at H
    have c6b0 : (s0_1 == 3) = false := beq_eq_false_iff_ne.mpr c6
    have c6b1 : (s0_1 != 3) = true := bne_iff_ne.mpr c6
    simp only [Option.some.injEq, Prod.mk.injEq] at H
    obtain ⟨rfl, rfl, rfl, rfl, rfl, rfl, rfl⟩ := H
    obtain ⟨HGz10, hgz10⟩ := HI0.out
    have hcz10_0 := cellS24_0 HGz10
    have hcz10_1 := cellS24_1 HGz10
    have hcz10_2 := cellS24_2 HGz10
    have hcz10_3 := cellS24_3 HGz10
    have hcz10_4 := cellS24_4 HGz10
    have hcz10_5 := cellS24_5 HGz10
    have hfz10_0 := blk_frozen HGz10 0; have hfz10_1 := blk_frozen HGz10 1; have hfz10_2 := blk_frozen HGz10 2; have hfz10_3 := blk_frozen HGz10 3; have hfz10_4 := blk_frozen HGz10 4; have hfz10_5 := blk_frozen HGz10 5
    clear HGz10 hgz10
    go_enter Try.func30, Try.ntmps30
    go_wp2_with (first | ((with_reducible refine gate_callee (f := 36) rfl ?_); refine goesL_ (some 11) rfl rfl Try.func36 (by kernel_rfl) rfl #[.agg #[.int .i64 s0_0, .int .i64 s0_1, .string s0_2, .int .i64 s0_3, .string s0_4, .bool s0_5], .int .i64 a2] rfl (by (try simp only [List.map_toArray, List.map_cons, List.map_nil]); first | done | rfl | (simp only [List.length_drop, List.length_take]; rfl)) ?_; (with_reducible refine (lease_Live.calls k s0_0 s0_1 s0_2 s0_3 s0_4 s0_5 a2 true _ A4.out).mono ?_); rintro e w11 ⟨rfl, hb⟩; refine ⟨_, rfl, ?_⟩; have n0_ := Aside0.mk (IsS24.below (by repeat (with_reducible first | exact HI0.out | apply IsS24.alloc | apply IsS24.drewN | apply IsS24.drew | apply IsS24.set_0 | apply IsS24.set_1 | apply IsS24.set_2 | apply IsS24.set_3 | apply IsS24.set_4 | apply IsS24.set_5)) hb); have n1_ := Aside0.mk (KeepBut.trans (by repeat (with_reducible first | exact HK.out | apply KeepBut.set_ | apply keep_drewN | apply keep_drew | apply keep_alloc)) (KeepBut.of_below hb g none) (.inl rfl)); have n2_ := Aside0.mk (below_step (by repeat (first | (with_reducible first | exact HB.out | apply below_alloc | apply pw_below_drewN | apply below_drew1 | refine below_set ?_ (IsS24.ge HI0.out)) | exact HB.out)) hb); clear HI0; clear HK; clear HB; have HI0 := n0_; have HK := n1_; have HB := n2_; clear n0_ n1_ n2_; (try clear hb); obtain ⟨HGz12, hgz12⟩ := HI0.out; have hcz12_0 := cellS24_0 HGz12; have hcz12_1 := cellS24_1 HGz12; have hcz12_2 := cellS24_2 HGz12; have hcz12_3 := cellS24_3 HGz12; have hcz12_4 := cellS24_4 HGz12; have hcz12_5 := cellS24_5 HGz12; have hfz12_0 := blk_frozen HGz12 0; have hfz12_1 := blk_frozen HGz12 1; have hfz12_2 := blk_frozen HGz12 2; have hfz12_3 := blk_frozen HGz12 3; have hfz12_4 := blk_frozen HGz12 4; have hfz12_5 := blk_frozen HGz12 5; clear HGz12 hgz12))
    go_ret
    exact ⟨by first | rfl | (simp [errW_none, errW_some] <;> rfl) | (simp [*, errW_none, errW_some] <;> rfl), by repeat (with_reducible first | exact HI0.out | apply IsS24.alloc | apply IsS24.drewN | apply IsS24.drew | apply IsS24.set_0 | apply IsS24.set_1 | apply IsS24.set_2 | apply IsS24.set_3 | apply IsS24.set_4 | apply IsS24.set_5), by repeat (first | (with_reducible first | exact HB.out | apply below_alloc | apply pw_below_drewN | apply below_drew1 | refine below_set ?_ (IsS24.ge HI0.out)) | exact HB.out), by repeat (with_reducible first | exact HK.out | apply KeepBut.set_ | apply keep_drewN | apply keep_drew | apply keep_alloc)⟩
  replace c5 := Bool.eq_false_iff.mpr c5
  subst c5
  have H1 : (some (false, s0_0, s0_1, s0_2, s0_3, s0_4, s0_5)) = some (r1, r2, r3, r4, r5, r6, r7) := by rw [if_neg (show ¬ (false = true) by decide)] at H; exact H
  clear H
  have H := H1
  clear H1
  simp only [Option.some.injEq, Prod.mk.injEq] at H
  obtain ⟨rfl, rfl, rfl, rfl, rfl, rfl, rfl⟩ := H
  obtain ⟨HGz13, hgz13⟩ := HI0.out
  have hcz13_0 := cellS24_0 HGz13
  have hcz13_1 := cellS24_1 HGz13
  have hcz13_2 := cellS24_2 HGz13
  have hcz13_3 := cellS24_3 HGz13
  have hcz13_4 := cellS24_4 HGz13
  have hcz13_5 := cellS24_5 HGz13
  have hfz13_0 := blk_frozen HGz13 0; have hfz13_1 := blk_frozen HGz13 1; have hfz13_2 := blk_frozen HGz13 2; have hfz13_3 := blk_frozen HGz13 3; have hfz13_4 := blk_frozen HGz13 4; have hfz13_5 := blk_frozen HGz13 5
  clear HGz13 hgz13
  go_enter Try.func30, Try.ntmps30
  go_wp2_with (first | ((with_reducible refine gate_callee (f := 36) rfl ?_); refine goesL_ (some 11) rfl rfl Try.func36 (by kernel_rfl) rfl #[.agg #[.int .i64 s0_0, .int .i64 s0_1, .string s0_2, .int .i64 s0_3, .string s0_4, .bool s0_5], .int .i64 a2] rfl (by (try simp only [List.map_toArray, List.map_cons, List.map_nil]); first | done | rfl | (simp only [List.length_drop, List.length_take]; rfl)) ?_; (with_reducible refine (lease_Live.calls k s0_0 s0_1 s0_2 s0_3 s0_4 s0_5 a2 false _ A4.out).mono ?_); rintro e w14 ⟨rfl, hb⟩; refine ⟨_, rfl, ?_⟩; have n0_ := Aside0.mk (IsS24.below (by repeat (with_reducible first | exact HI0.out | apply IsS24.alloc | apply IsS24.drewN | apply IsS24.drew | apply IsS24.set_0 | apply IsS24.set_1 | apply IsS24.set_2 | apply IsS24.set_3 | apply IsS24.set_4 | apply IsS24.set_5)) hb); have n1_ := Aside0.mk (KeepBut.trans (by repeat (with_reducible first | exact HK.out | apply KeepBut.set_ | apply keep_drewN | apply keep_drew | apply keep_alloc)) (KeepBut.of_below hb g none) (.inl rfl)); have n2_ := Aside0.mk (below_step (by repeat (first | (with_reducible first | exact HB.out | apply below_alloc | apply pw_below_drewN | apply below_drew1 | refine below_set ?_ (IsS24.ge HI0.out)) | exact HB.out)) hb); clear HI0; clear HK; clear HB; have HI0 := n0_; have HK := n1_; have HB := n2_; clear n0_ n1_ n2_; (try clear hb)))
  go_ret
  exact ⟨by first | rfl | (simp [errW_none, errW_some] <;> rfl) | (simp [*, errW_none, errW_some] <;> rfl), by repeat (with_reducible first | exact HI0.out | apply IsS24.alloc | apply IsS24.drewN | apply IsS24.drew | apply IsS24.set_0 | apply IsS24.set_1 | apply IsS24.set_2 | apply IsS24.set_3 | apply IsS24.set_4 | apply IsS24.set_5), by repeat (first | (with_reducible first | exact HB.out | apply below_alloc | apply pw_below_drewN | apply below_drew1 | refine below_set ?_ (IsS24.ge HI0.out)) | exact HB.out), by repeat (with_reducible first | exact HK.out | apply KeepBut.set_ | apply keep_drewN | apply keep_drew | apply keep_alloc)⟩

/-! ### lease_Holds_r: function 30 -/
-- its pointer leads to any variable in memory: it only reads
def lease_Holds_r.f (k : Nat) (s0_0 : Int) (s0_1 : Int) (s0_2 : ByteArray) (s0_3 : Int) (s0_4 : ByteArray) (s0_5 : Bool) (a1 : ByteArray) (a2 : Int) : Option Bool := (lease_Holds.f k s0_0 s0_1 s0_2 s0_3 s0_4 s0_5 a1 a2).bind fun p_ => if p_.2 = (s0_0, s0_1, s0_2, s0_3, s0_4, s0_5) then some p_.1 else none
theorem lease_Holds_r.mono : ∀ s0_0 s0_1 s0_2 s0_3 s0_4 s0_5 a1 a2 k, LeO (lease_Holds_r.f k s0_0 s0_1 s0_2 s0_3 s0_4 s0_5 a1 a2) (lease_Holds_r.f (k + 1) s0_0 s0_1 s0_2 s0_3 s0_4 s0_5 a1 a2) := by
  intro s0_0 s0_1 s0_2 s0_3 s0_4 s0_5 a1 a2 k
  unfold lease_Holds_r.f
  exact LeO.bind (lease_Holds.mono _ _ _ _ _ _ _ _ k) (fun _ => LeO.refl _)
theorem lease_Holds_r.calls (k : Nat) (g : Nat) (s0_0 : Int) (s0_1 : Int) (s0_2 : ByteArray) (s0_3 : Int) (s0_4 : ByteArray) (s0_5 : Bool) (a1 : ByteArray) (a2 : Int) (r : Bool) (w : World) (hb_ : w.heap[g]? = some (.cells #[.int .i64 s0_0, .int .i64 s0_1, .string s0_2, .int .i64 s0_3, .string s0_4, .bool s0_5] 24 (0, 0))) (h : lease_Holds_r.f k s0_0 s0_1 s0_2 s0_3 s0_4 s0_5 a1 a2 = some r) :
    Calls Try.prog 30 #[.pointer (some ⟨g, 0, none⟩), .string a1, .int .i64 a2] w fun e w' => e = .returned (.bool r) ∧ Below w.heap.size w w' := by
  unfold lease_Holds_r.f at h
  obtain ⟨p_, hp_, hq_⟩ := Option.bind_eq_some_iff.1 h
  by_cases hs_ : p_.2 = (s0_0, s0_1, s0_2, s0_3, s0_4, s0_5)
  · rw [if_pos hs_] at hq_
    obtain rfl := Option.some.inj hq_
    obtain ⟨p1_, p2_⟩ := p_
    simp only at hs_
    subst hs_
    refine (lease_Holds.calls k g s0_0 s0_1 s0_2 s0_3 s0_4 s0_5 a1 a2 p1_ s0_0 s0_1 s0_2 s0_3 s0_4 s0_5 (low_ w g) w ⟨hb_, Nat.le_of_eq (low_size hb_)⟩ (low_below hb_) hp_).mono ?_
    rintro e w' ⟨rfl, hI_, hB_, hK_⟩
    exact ⟨rfl, low_back hb_ hI_.1 hB_ hK_⟩
  · rw [if_neg hs_] at hq_
    cases hq_

-- NOT PRINTED: function 29 (table_Of_1)

/-! ### table_Of: function 13 -/
-- BY HAND
-- 17 24
/-- does a lease hold? -/
def table_Of.p (k : Nat) (a1 : ByteArray) (a2 : Int) (x : S24) : Bool := (lease_Holds_r.f k x.f0 x.f1 x.f2 x.f3 x.f4 x.f5 a1 a2).getD false
def table_Of.f (k : Nat) (l0 : List S24) (a1 : ByteArray) (a2 : Int) : Option (Int × Int × ByteArray × Int × ByteArray × Bool × Bool) :=
  if l0.length ≤ 140737488351232 then (if (∀ x ∈ l0, (lease_Holds_r.f k x.f0 x.f1 x.f2 x.f3 x.f4 x.f5 a1 a2).isSome = true) then (if table_at.idx (table_Of.p k a1 a2) l0 < 0 then some (0, 0, (⟨#[]⟩ : ByteArray), 0, (⟨#[]⟩ : ByteArray), false, false) else ((table_May.f k l0).bind fun m => if m = true then some ((rd_T24 l0 (table_at.idx (table_Of.p k a1 a2) l0)).f0, (rd_T24 l0 (table_at.idx (table_Of.p k a1 a2) l0)).f1, (rd_T24 l0 (table_at.idx (table_Of.p k a1 a2) l0)).f2, (rd_T24 l0 (table_at.idx (table_Of.p k a1 a2) l0)).f3, (rd_T24 l0 (table_at.idx (table_Of.p k a1 a2) l0)).f4, (rd_T24 l0 (table_at.idx (table_Of.p k a1 a2) l0)).f5, true) else some (0, 0, (⟨#[]⟩ : ByteArray), 0, (⟨#[]⟩ : ByteArray), false, false))) else none) else none
theorem table_Of.mono : ∀ l0 a1 a2 k, LeO (table_Of.f k l0 a1 a2) (table_Of.f (k + 1) l0 a1 a2) := by
  intro l0 a1 a2 k r h
  unfold table_Of.f at h ⊢
  by_cases hs : l0.length ≤ 140737488351232
  · rw [if_pos hs] at h ⊢
    by_cases ha : ∀ x ∈ l0, (lease_Holds_r.f k x.f0 x.f1 x.f2 x.f3 x.f4 x.f5 a1 a2).isSome = true
    · have hq : ∀ x ∈ l0, (lease_Holds_r.f (k + 1) x.f0 x.f1 x.f2 x.f3 x.f4 x.f5 a1 a2).isSome = true ∧ table_Of.p k a1 a2 x = table_Of.p (k + 1) a1 a2 x := fun x hx => by
        obtain ⟨v, hv⟩ := Option.isSome_iff_exists.1 (ha x hx)
        have hv2 := lease_Holds_r.mono x.f0 x.f1 x.f2 x.f3 x.f4 x.f5 a1 a2 k v hv
        unfold table_Of.p
        rw [hv, hv2]
        exact ⟨rfl, rfl⟩
      have e := table_at.idx_congr _ _ l0 (fun x hx => (hq x hx).2)
      rw [if_pos ha] at h
      rw [if_pos (fun x hx => (hq x hx).1), ← e]
      by_cases hi : table_at.idx (table_Of.p k a1 a2) l0 < 0
      · rw [if_pos hi] at h ⊢
        exact h
      · rw [if_neg hi] at h ⊢
        exact LeO.bind (table_May.mono l0 k) (fun _ => LeO.refl _) r h
    · rw [if_neg ha] at h
      cases h
  · rw [if_neg hs] at h
    cases h
set_option maxHeartbeats 8000000 in
set_option maxRecDepth 100000 in
theorem table_Of.closure (k : Nat) (a1 : ByteArray) (a2 : Int) (B1 B2 : Nat) (x : S24) (r : Bool) (w : World) (hc1 : w.cell? ⟨B1, 0, none⟩ = some (.string a1)) (hc2 : w.cell? ⟨B2, 0, none⟩ = some (.int .i64 a2)) (h : lease_Holds_r.f k x.f0 x.f1 x.f2 x.f3 x.f4 x.f5 a1 a2 = some r) :
    Calls Try.prog 29 #[.agg #[.int .i64 x.f0, .int .i64 x.f1, .string x.f2, .int .i64 x.f3, .string x.f4, .bool x.f5], .pointer (some ⟨B1, 0, none⟩), .pointer (some ⟨B2, 0, none⟩)] w fun e w' => e = .returned (.bool r) ∧ Below w.heap.size w w' := by
  have hlt1 : B1 < w.heap.size := World.block_lt_of_cell? w _ hc1
  have hlt2 : B2 < w.heap.size := World.block_lt_of_cell? w _ hc2
  have hne1 : B1 ≠ w.heap.size := by omega
  have hne2 : B2 ≠ w.heap.size := by omega
  have hcall := lease_Holds_r.calls k w.heap.size x.f0 x.f1 x.f2 x.f3 x.f4 x.f5 a1 a2 r (w.alloc (.cells #[.int .i64 x.f0, .int .i64 x.f1, .string x.f2, .int .i64 x.f3, .string x.f4, .bool x.f5] 24)) (blk_new _ _) h
  clear h
  go_enter Try.func29, Try.ntmps29
  go_wp2_with (first | (go_at_call 30; refine hcall.mono ?_; rintro e w' ⟨rfl, hb'⟩))
  go_ret
  exact ⟨rfl, below_step (below_alloc (Below.refl _ _) _) hb'⟩
set_option maxHeartbeats 8000000 in
set_option maxRecDepth 100000 in
theorem table_Of.calls (k : Nat) (A0 : Option Addr) (c0 : Nat) (l0 : List (S24)) (a1 : ByteArray) (a2 : Int) (r1 : Int) (r2 : Int) (r3 : ByteArray) (r4 : Int) (r5 : ByteArray) (r6 : Bool) (r7 : Bool) (w : World) (hr0 : Kd.C k24 w A0 l0.length l0) (hc0 : l0.length ≤ c0) (h : table_Of.f k l0 a1 a2 = some (r1, r2, r3, r4, r5, r6, r7)) :
    Calls Try.prog 13 #[.slice A0 l0.length c0, .string a1, .int .i64 a2] w fun e w' => e = .returned (.tuple #[.agg #[.int .i64 r1, .int .i64 r2, .string r3, .int .i64 r4, .string r5, .bool r6], .bool r7]) ∧ Below w.heap.size w w' := by
  unfold table_Of.f at h
  by_cases hs : l0.length ≤ 140737488351232
  rotate_left
  · rw [if_neg hs] at h
    cases h
  rw [if_pos hs] at h
  by_cases ha : ∀ x ∈ l0, (lease_Holds_r.f k x.f0 x.f1 x.f2 x.f3 x.f4 x.f5 a1 a2).isSome = true
  rotate_left
  · rw [if_neg ha] at h
    cases h
  rw [if_pos ha] at h
  have eg : ∀ args w, (callFunc 29 args).run Try.prog w = .ok (.enter 29 args) w := enters_of Try.func29 (by kernel_rfl) rfl
  obtain ⟨W3, hW3⟩ : ∃ W3, ((w.alloc (.cells #[.string a1] 9)).alloc (.cells #[.int .i64 a2] 3)).alloc (.cells #[.int .i64 0, .int .i64 0, .string (⟨#[]⟩ : ByteArray), .int .i64 0, .string (⟨#[]⟩ : ByteArray), .bool false] 24) = W3 := ⟨_, rfl⟩
  have HB := Aside0.mk (show Below w.heap.size w W3 by rw [← hW3]; repeat (first | exact Below.refl _ _ | apply below_alloc))
  have e1 : W3.heap[w.heap.size]? = some (.cells #[.string a1] 9) := by
    rw [← hW3]
    exact blk_below (blk_new w _) (by repeat (first | exact Below.refl _ _ | apply below_alloc))
  have e2 : W3.heap[w.heap.size + 1]? = some (.cells #[.int .i64 a2] 3) := by
    have := blk_below (blk_new (w.alloc (.cells #[.string a1] 9)) (.cells #[.int .i64 a2] 3)) (below_alloc (Below.refl _ _) (.cells #[.int .i64 0, .int .i64 0, .string (⟨#[]⟩ : ByteArray), .int .i64 0, .string (⟨#[]⟩ : ByteArray), .bool false] 24))
    rw [hW3] at this
    simpa using this
  have E3 := Aside0.mk (show W3.heap[w.heap.size + 1 + 1]? = some (.cells #[.int .i64 0, .int .i64 0, .string (⟨#[]⟩ : ByteArray), .int .i64 0, .string (⟨#[]⟩ : ByteArray), .bool false] 24) by
    have := blk_new ((w.alloc (.cells #[.string a1] 9)).alloc (.cells #[.int .i64 a2] 3)) (.cells #[.int .i64 0, .int .i64 0, .string (⟨#[]⟩ : ByteArray), .int .i64 0, .string (⟨#[]⟩ : ByteArray), .bool false] 24)
    rw [hW3] at this
    simpa using this)
  have hI := table_at.index (table_Of.p k a1 a2) 29 #[.pointer (some ⟨w.heap.size, 0, none⟩), .pointer (some ⟨w.heap.size + 1, 0, none⟩)] A0 c0 l0 W3 (Kd.C_below hr0 HB.out) hs eg (fun W x hx hW => by
    obtain ⟨v, hv⟩ := Option.isSome_iff_exists.1 (ha x hx)
    have hpv : table_Of.p k a1 a2 x = v := by unfold table_Of.p; rw [hv]; rfl
    rw [hpv]
    exact table_Of.closure k a1 a2 w.heap.size (w.heap.size + 1) x v W ((blk_cell (blk_below e1 hW) 0).trans rfl) ((blk_cell (blk_below e2 hW) 0).trans rfl) hv)
  replace hI := Aside0.mk hI
  have HR := Aside0.mk (Kd.C_below hr0 HB.out)
  have HC := Aside0.mk hc0
  have hil := table_at.idx_lt (table_Of.p k a1 a2) l0
  clear eg e1 e2 ha hr0 hc0
  generalize table_at.idx (table_Of.p k a1 a2) l0 = i at hI h hil
  by_cases hi : i < 0
  · rw [if_pos hi] at h
    simp only [Option.some.injEq, Prod.mk.injEq] at h
    obtain ⟨rfl, rfl, rfl, rfl, rfl, rfl, rfl⟩ := h
    have hib : decide (i < 0) = true := decide_eq_true hi
    clear hi
    go_enter Try.func13, Try.ntmps13
    go_wp2_with (first
      | (go_at_call 28; (try rw [hW3]); refine hI.out.mono ?_; rintro e w4 ⟨rfl, hb4⟩; have e4 := blk_below E3.out hb4; have u0 := blk_cell e4 0; have u1 := blk_cell e4 1; have u2 := blk_cell e4 2; have u3 := blk_cell e4 3; have u4 := blk_cell e4 4; have u5 := blk_cell e4 5; have v0 := blk_frozen e4 0; have v1 := blk_frozen e4 1; have v2 := blk_frozen e4 2; have v3 := blk_frozen e4 3; have v4 := blk_frozen e4 4; have v5 := blk_frozen e4 5; replace HB := Aside0.mk (below_step HB.out hb4); have E4 := Aside0.mk e4; clear hb4 e4))
    have hg : w.heap.size ≤ w.heap.size + 1 + 1 := by omega
    refine bodyPost_ret (results_ct rfl _ _ (w.heap.size + 1 + 1) 24 #[.int .i64 0, .int .i64 0, .string (⟨#[]⟩ : ByteArray), .int .i64 0, .string (⟨#[]⟩ : ByteArray), .bool false] (0, 0) _ rfl (blk_set (blk_set (blk_set (blk_set (blk_set (blk_set E4.out 0 (.int .i64 0)) 1 (.int .i64 0)) 2 (.string (⟨#[]⟩ : ByteArray))) 3 (.int .i64 0)) 4 (.string (⟨#[]⟩ : ByteArray))) 5 (.bool false)) Try.underlying24 rfl (by kernel_rfl)) rfl ?_
    exact ⟨by first | rfl | simp, (((((HB.out.setCell hg _).setCell hg _).setCell hg _).setCell hg _).setCell hg _).setCell hg _⟩
  · rw [if_neg hi] at h
    obtain ⟨m, hm, h⟩ := Option.bind_eq_some_iff.1 h
    have HM := Aside0.mk (fun W hr => table_May.calls k A0 c0 l0 m W hr HC.out hm)
    have hib : decide (i < 0) = false := decide_eq_false hi
    have hg : w.heap.size ≤ w.heap.size + 1 + 1 := by omega
    have hi0 : 0 ≤ i := by omega
    have hi1 : i < (l0.length : Int) := hil.1
    clear hm hi hil
    cases m with
    | false =>
      rw [if_neg (by decide)] at h
      simp only [Option.some.injEq, Prod.mk.injEq] at h
      obtain ⟨rfl, rfl, rfl, rfl, rfl, rfl, rfl⟩ := h
      go_enter Try.func13, Try.ntmps13
      go_wp2_with (first
      | (go_at_call 28; (try rw [hW3]); refine hI.out.mono ?_; rintro e w4 ⟨rfl, hb4⟩; have e4 := blk_below E3.out hb4; replace HB := Aside0.mk (below_step HB.out hb4); have E4 := Aside0.mk e4; have HB3 := Aside0.mk hb4; clear hb4 e4)
      | (go_at_call 17; refine (HM.out _ (Kd.C_below HR.out HB3.out)).mono ?_; rintro e w5 ⟨rfl, hb5⟩; have e5 := blk_below E4.out hb5; have u0 := blk_cell e5 0; have u1 := blk_cell e5 1; have u2 := blk_cell e5 2; have u3 := blk_cell e5 3; have u4 := blk_cell e5 4; have u5 := blk_cell e5 5; have v0 := blk_frozen e5 0; have v1 := blk_frozen e5 1; have v2 := blk_frozen e5 2; have v3 := blk_frozen e5 3; have v4 := blk_frozen e5 4; have v5 := blk_frozen e5 5; replace HB := Aside0.mk (below_step HB.out hb5); replace HB3 := Aside0.mk (below_step HB3.out hb5); have E5 := Aside0.mk e5; clear hb5 e5))
      refine bodyPost_ret (results_ct rfl _ _ (w.heap.size + 1 + 1) 24 #[.int .i64 0, .int .i64 0, .string (⟨#[]⟩ : ByteArray), .int .i64 0, .string (⟨#[]⟩ : ByteArray), .bool false] (0, 0) _ rfl (blk_set (blk_set (blk_set (blk_set (blk_set (blk_set E5.out 0 (.int .i64 0)) 1 (.int .i64 0)) 2 (.string (⟨#[]⟩ : ByteArray))) 3 (.int .i64 0)) 4 (.string (⟨#[]⟩ : ByteArray))) 5 (.bool false)) Try.underlying24 rfl (by kernel_rfl)) rfl ?_
      exact ⟨by first | rfl | simp, (((((HB.out.setCell hg _).setCell hg _).setCell hg _).setCell hg _).setCell hg _).setCell hg _⟩
    | true =>
      rw [if_pos rfl] at h
      obtain ⟨ad, e1, hx0, hx1, hx2, hx3, hx4, hx5⟩ := at_T24 HR.out i hi0 hi1
      cases e1
      generalize rd_T24 l0 i = x at h hx0 hx1 hx2 hx3 hx4 hx5
      simp only [Option.some.injEq, Prod.mk.injEq] at h
      obtain ⟨rfl, rfl, rfl, rfl, rfl, rfl, rfl⟩ := h
      go_enter Try.func13, Try.ntmps13
      go_wp2_with (first
      | (go_at_call 28; (try rw [hW3]); refine hI.out.mono ?_; rintro e w4 ⟨rfl, hb4⟩; have e4 := blk_below E3.out hb4; replace HB := Aside0.mk (below_step HB.out hb4); have E4 := Aside0.mk e4; have HB3 := Aside0.mk hb4; clear hb4 e4)
      | (go_at_call 17; refine (HM.out _ (Kd.C_below HR.out HB3.out)).mono ?_; rintro e w5 ⟨rfl, hb5⟩; have e5 := blk_below E4.out hb5; have u0 := blk_cell e5 0; have u1 := blk_cell e5 1; have u2 := blk_cell e5 2; have u3 := blk_cell e5 3; have u4 := blk_cell e5 4; have u5 := blk_cell e5 5; have v0 := blk_frozen e5 0; have v1 := blk_frozen e5 1; have v2 := blk_frozen e5 2; have v3 := blk_frozen e5 3; have v4 := blk_frozen e5 4; have v5 := blk_frozen e5 5; have x0 := (HB3.out.cell (World.block_lt_of_cell? _ _ hx0)).trans hx0; have x0 := (hb5.cell (World.block_lt_of_cell? _ _ x0)).trans x0; have x1 := (HB3.out.cell (World.block_lt_of_cell? _ _ hx1)).trans hx1; have x1 := (hb5.cell (World.block_lt_of_cell? _ _ x1)).trans x1; have x2 := (HB3.out.cell (World.block_lt_of_cell? _ _ hx2)).trans hx2; have x2 := (hb5.cell (World.block_lt_of_cell? _ _ x2)).trans x2; have x3 := (HB3.out.cell (World.block_lt_of_cell? _ _ hx3)).trans hx3; have x3 := (hb5.cell (World.block_lt_of_cell? _ _ x3)).trans x3; have x4 := (HB3.out.cell (World.block_lt_of_cell? _ _ hx4)).trans hx4; have x4 := (hb5.cell (World.block_lt_of_cell? _ _ x4)).trans x4; have x5 := (HB3.out.cell (World.block_lt_of_cell? _ _ hx5)).trans hx5; have x5 := (hb5.cell (World.block_lt_of_cell? _ _ x5)).trans x5; replace HB := Aside0.mk (below_step HB.out hb5); replace HB3 := Aside0.mk (below_step HB3.out hb5); have E5 := Aside0.mk e5; clear hb5 e5))
      refine bodyPost_ret (results_ct rfl _ _ (w.heap.size + 1 + 1) 24 #[.int .i64 x.f0, .int .i64 x.f1, .string x.f2, .int .i64 x.f3, .string x.f4, .bool x.f5] (0, 0) _ rfl (blk_set (blk_set (blk_set (blk_set (blk_set (blk_set E5.out 0 (.int .i64 x.f0)) 1 (.int .i64 x.f1)) 2 (.string x.f2)) 3 (.int .i64 x.f3)) 4 (.string x.f4)) 5 (.bool x.f5)) Try.underlying24 rfl (by kernel_rfl)) rfl ?_
      exact ⟨by first | rfl | simp, (((((HB.out.setCell hg _).setCell hg _).setCell hg _).setCell hg _).setCell hg _).setCell hg _⟩

/-! ### pinfoldlaw0_Num: function 16 -/
def pinfoldlaw0_Num.f (a0 : Int) : Option (Int) := some a0
set_option maxHeartbeats 8000000 in
set_option maxRecDepth 100000 in
theorem pinfoldlaw0_Num.calls (a0 : Int) (r : Int) (w : World) (h : pinfoldlaw0_Num.f a0 = some r) :
    Calls Try.prog 16 #[.int .i64 a0] w fun e w' => e = .returned (.int .i64 r) ∧ Drawn0 w w' := by
  have H : (some a0) = some r := h
  clear h
  obtain rfl := Option.some.inj H
  go_enter Try.func16, Try.ntmps16
  go_wp2
  go_ret
  exact ⟨by first | rfl | (simp; done) | (simp [*]; done), by repeat (first | exact Drawn0.refl _ | apply Drawn0.step)⟩

-- NOT PRINTED: function 23 (api_Lease_23)

-- NOT PRINTED: function 42 (api_Lease_42)

-- NOT PRINTED: function 51 (api_Lease_51)

-- NOT PRINTED: function 48 (api_Lease_48)

-- NOT PRINTED: function 43 (api_Lease_43)

-- NOT PRINTED: function 35 (api_Lease_35)

-- NOT PRINTED: function 25 (api_Lease_25)

-- NOT PRINTED: function 26 (table_With_1)

/-! ### table_With: function 9 -/
-- BY HAND
-- 17 24
instance table_With.inh : Inhabited S24 := ⟨z24⟩
def table_With.enc (x : S24) : List Value := [.int .i64 x.f0, .int .i64 x.f1, .string x.f2, .int .i64 x.f3, .string x.f4, .bool x.f5]
def table_With.cf (x y : S24) : Int := wrap64 (x.f0 - y.f0)
def table_With.ren : Go.Shelf.Ren := ⟨fun i => if i = 20 then 42 else 0, fun i => if i = 3 then 3 else if i = 4 then 4 else if i = 22 then 22 else if i = 24 then 24 else if i = 25 then 50 else 0, fun i => i⟩
theorem table_With.lays : SlLaysF0.n20 Try.prog table_With.ren where
  mixed := by kernel_rfl
  f20 := ⟨"slices.insertionSortCmpFunc[pinfold/api.Lease]", by decide, by kernel_rfl⟩
  t0 := by kernel_rfl
  a0 := fun w => by kernel_rfl
  z0 := fun w => by kernel_rfl
  v0 := fun w => by kernel_rfl
  t3 := by kernel_rfl
  a3 := fun w => by kernel_rfl
  z3 := fun w => by kernel_rfl
  v3 := fun w => by kernel_rfl
  t4 := by kernel_rfl
  a4 := fun w => by kernel_rfl
  z4 := fun w => by kernel_rfl
  v4 := fun w => by kernel_rfl
  t22 := by kernel_rfl
  a22 := fun w => by kernel_rfl
  z22 := fun w => by kernel_rfl
  v22 := fun w => by kernel_rfl
  t25 := by kernel_rfl
  a25 := fun w => by kernel_rfl
  z25 := fun w => by kernel_rfl
  v25 := fun w => by kernel_rfl
set_option maxHeartbeats 8000000 in
set_option maxRecDepth 100000 in
theorem table_With.cmp (x y : S24) (W : World) :
    Calls Try.prog 26 #[.agg #[.int .i64 x.f0, .int .i64 x.f1, .string x.f2, .int .i64 x.f3, .string x.f4, .bool x.f5], .agg #[.int .i64 y.f0, .int .i64 y.f1, .string y.f2, .int .i64 y.f3, .string y.f4, .bool y.f5]] W fun e w' => e = .returned (.int .i64 (table_With.cf x y)) ∧ ∃ q os', w' = Go.Sort.grow (W.drewN q) os' := by
  go_enter Try.func26, Try.ntmps26
  go_wp2
  go_ret
  refine ⟨rfl, 0, #[.cells #[.int .i64 x.f0, .int .i64 x.f1, .string x.f2, .int .i64 x.f3, .string x.f4, .bool x.f5] 24, .cells #[.int .i64 y.f0, .int .i64 y.f1, .string y.f2, .int .i64 y.f3, .string y.f4, .bool y.f5] 24], ?_⟩
  rfl
/-- a row's cells. -/
def table_With.Cells (cur : Array Value) (xs : List S24) : Prop := ∀ t, t < xs.length * 6 → cur[t]? = some ((table_With.enc (xs.toArray[t / 6]!))[t % 6]!)
theorem table_With.get (xs : List S24) (j : Nat) (h : j < xs.length) : xs.toArray[j]! = xs[j] := by
  simp [h]
theorem table_With.cells_of {w : World} {base n cap g : Nat} {ok : Nat → Prop} {xs : List S24} (h : Kd.R k24 24 w base ok (.slice (some ⟨g, 0, none⟩) n cap) xs) :
    ∃ cur, w.heap[g]? = some (.cells cur 24 (0, 0)) ∧ n = xs.length ∧ n ≤ cap ∧ cap ≤ maxLen ∧ cur.size = cap * 6 ∧ base ≤ g ∧ ok g ∧ table_With.Cells cur xs := by
  obtain ⟨h0, inner, ⟨hil, hv⟩, hr⟩ := h
  rcases hv with ⟨hv, _⟩ | ⟨g', cap', cur, hv, hb, hc, hn, hm, hs, ht⟩
  · cases hv
  · have hn2 : n = xs.length := by cases hv; rfl
    obtain rfl : cap = cap' := by cases hv; rfl
    obtain rfl : g = g' := by cases hv; rfl
    refine ⟨cur, hc, hn2, by omega, hm, hs, hb, h0 g (by simp [Value.ownBlock]), fun t ht2 => ?_⟩
    have hj : t / 6 < xs.length := by omega
    have h1 := k24_openM (hr.2 (t / 6) _ (List.getElem?_eq_getElem hj))
    have h2 : inner[t]? = (table_With.enc xs[t / 6])[t % 6]? := by
      have h1' : ((List.drop (t / 6 * 6) inner).take 6)[t % 6]? = (table_With.enc xs[t / 6])[t % 6]? := congrArg (fun l : List Value => l[t % 6]?) h1
      rw [← h1']
      rw [List.getElem?_take_of_lt (by omega), List.getElem?_drop, show t / 6 * 6 + t % 6 = t by omega]
    have h3 : cur[t]? = inner[t]? := by
      have ht' : cur.toList.take (xs.length * 6) = inner := ht
      rw [← ht', List.getElem?_take_of_lt ht2, Array.getElem?_toList]
    have h4 : t % 6 < (table_With.enc xs[t / 6]).length := by show t % 6 < 6; omega
    rw [h3, h2, table_With.get xs _ hj, List.getElem?_eq_getElem h4, getElem!_pos (table_With.enc xs[t / 6]) (t % 6) h4]
theorem table_With.of_cells {w : World} {base n cap g : Nat} {ok : Nat → Prop} {xs : List S24} {cur : Array Value} (hc : w.heap[g]? = some (.cells cur 24 (0, 0))) (hn : n = xs.length) (hcap : n ≤ cap) (hm : cap ≤ maxLen) (hs : cur.size = cap * 6) (hb : base ≤ g) (ho : ok g) (hx : table_With.Cells cur xs) :
    Kd.R k24 24 w base ok (.slice (some ⟨g, 0, none⟩) n cap) xs := by
  subst hn
  have hl : (cur.toList.take (xs.length * 6)).length = xs.length * 6 := by
    have hz : cur.toList.length = cap * 6 := by simpa using hs
    rw [List.length_take, hz]
    exact Nat.min_eq_left (Nat.mul_le_mul_right _ hcap)
  refine ⟨fun k hk => ?_, cur.toList.take (xs.length * 6), ⟨hl, .inr ⟨g, cap, cur, rfl, hb, hc, hcap, hm, hs, rfl⟩⟩, hl, fun j p hp => ?_⟩
  · simp only [Value.ownBlock, Option.some.injEq] at hk
    rw [← hk]
    exact ho
  · obtain ⟨hj, rfl⟩ := List.getElem?_eq_some_iff.1 hp
    have e : ((cur.toList.take (xs.length * 6)).drop (j * 6)).take 6 = table_With.enc xs[j] := by
      apply List.ext_getElem?
      intro r
      by_cases hr : r < 6
      · have h1 := hx (j * 6 + r) (by omega)
        rw [show (j * 6 + r) / 6 = j by omega, show (j * 6 + r) % 6 = r by omega, table_With.get xs j hj] at h1
        have h4 : r < (table_With.enc xs[j]).length := hr
        rw [getElem!_pos (table_With.enc xs[j]) r h4] at h1
        rw [List.getElem?_take_of_lt hr, List.getElem?_drop, List.getElem?_take_of_lt (by omega), Array.getElem?_toList, h1, List.getElem?_eq_getElem h4]
      · rw [List.getElem?_eq_none (by rw [List.length_take]; omega), List.getElem?_eq_none (by show 6 ≤ r; omega)]
    show (k24).M _ _ _ _ (((cur.toList.take (xs.length * 6)).drop (j * 6)).take 6)
    rw [e]
    exact k24_mkM _ _ _ _
/-- the rounds of an insertion sort. -/
def table_With.outer (lt : S24 → S24 → Bool) : Nat → Nat → Array S24 → Array S24
  | 0, _, d => d
  | m + 1, i, d => table_With.outer lt m (i + 1) (Go.Sort.insInner lt 0 i d)
theorem table_With.outer_eq (lt : S24 → S24 → Bool) (m : Nat) : ∀ (i b : Nat) (d : Array S24), i + m = b → Go.Sort.insOuter lt 0 b i d = table_With.outer lt m i d := by
  induction m with
  | zero =>
    intro i b d h
    rw [Go.Sort.insOuter, if_neg (by omega)]
    rfl
  | succ m ih =>
    intro i b d h
    rw [Go.Sort.insOuter, if_pos (by omega)]
    exact ih (i + 1) b _ (by omega)
theorem table_With.size_inner (lt : S24 → S24 → Bool) : ∀ (j : Nat) (d : Array S24), (Go.Sort.insInner lt 0 j d).size = d.size
  | 0, d => rfl
  | j + 1, d => by
    unfold Go.Sort.insInner
    split
    · rw [table_With.size_inner lt j, Go.Sort.size_swp]
    · rfl
theorem table_With.size_outer (lt : S24 → S24 → Bool) : ∀ (m i : Nat) (d : Array S24), (table_With.outer lt m i d).size = d.size
  | 0, _, d => rfl
  | m + 1, i, d => by rw [table_With.outer, table_With.size_outer lt m, table_With.size_inner]
def table_With.srt (xs : List S24) : List S24 := (table_With.outer (ltOf table_With.cf) (xs.length - 1) 1 xs.toArray).toList
theorem table_With.srt_length (xs : List S24) : (table_With.srt xs).length = xs.length := by
  unfold table_With.srt
  rw [Array.length_toList, table_With.size_outer]
  rfl
/-- what a sort leaves. -/
def table_With.Done (W : World) (g cap : Nat) (xs : List S24) (w' : World) : Prop := ∃ cur', w'.heap[g]? = some (.cells cur' 24 (0, 0)) ∧ cur'.size = cap * 6 ∧ table_With.Cells cur' xs ∧ W.grownBy w' (some g)
theorem table_With.done {W : World} {g cap m : Nat} {cur : Array Value} {dk : Array S24} {os : Array Obj} (hc : W.heap[g]? = some (.cells cur 24 (0, 0))) (hcap : dk.size ≤ cap) (hs : cur.size = cap * 6) :
    table_With.Done W g cap dk.toList (sortWorldK table_With.enc 6 W g 0 m dk os) := by
  have hlt : g < W.heap.size := (Array.getElem?_eq_some_iff.1 hc).1
  have hb : (sortWorldK table_With.enc 6 W g 0 m dk os).heap = (W.heap.modify g (Go.Sort.onCells (Go.Sort.putCells id 0 (Go.Sort.flatK table_With.enc 6 dk)))) ++ os := rfl
  refine ⟨Go.Sort.putCells id 0 (Go.Sort.flatK table_With.enc 6 dk) cur, ?_, ?_, fun t ht => ?_, ⟨rfl, rfl, rfl, ?_, fun k hk hne => ?_⟩⟩
  · rw [hb, Array.getElem?_append_left (by simpa using hlt), Array.getElem?_modify, if_pos rfl, hc]
    rfl
  · unfold Go.Sort.putCells
    simpa using hs
  · have htl : t < dk.size * 6 := by simpa using ht
    have hcur : t < cur.size := by omega
    unfold Go.Sort.putCells
    rw [Array.getElem?_mapIdx, Array.getElem?_eq_getElem hcur]
    simp only [Option.map_some, Go.Sort.size_flatK, Nat.zero_add, Nat.zero_le, true_and, Nat.sub_zero, id_eq]
    rw [if_pos htl, Go.Sort.get_flatK _ _ _ _ htl]
  · rw [hb]
    simp
  · have hkg : g ≠ k := fun e => hne (by rw [e])
    rw [hb, Array.getElem?_append_left (by simpa using hk), Array.getElem?_modify, if_neg hkg]
set_option maxHeartbeats 8000000 in
set_option maxRecDepth 100000 in
theorem table_With.stable (xs : List S24) (g cap : Nat) (cur : Array Value) (W : World) (hc : W.heap[g]? = some (.cells cur 24 (0, 0))) (hcap : xs.length ≤ cap) (hs : cur.size = cap * 6) (hx : table_With.Cells cur xs) (hn : xs.length ≤ 19) (hn0 : 0 < xs.length) :
    Calls Try.prog 35 #[.slice (some ⟨g, 0, none⟩) xs.length cap, .int .i64 xs.length, .func (.func 26) #[] #[]] W fun e w' => e = .returned (.tuple #[]) ∧ table_With.Done W g cap (table_With.srt xs) w' := by
  have eg : ∀ args w, (callFunc 26 args).run Try.prog w = .ok (.enter 26 args) w := enters_of Try.func26 (by kernel_rfl) rfl
  have hH : Go.Sort.HoldsK table_With.enc 6 W g 0 xs.toArray := fun j hj => by
    have hj2 : j < xs.length * 6 := by simpa using hj
    rw [Nat.zero_add]
    refine ⟨?_, blk_frozen hc j⟩
    rw [blk_cell hc j, hx j hj2, Go.Sort.get_flatK _ _ _ _ (by simpa using hj2)]
    rfl
  have hI := AnyQ.insertionSortCmpFunc table_With.lays 6 (fun w => by kernel_rfl) (fun w => by kernel_rfl) table_With.enc (fun x => rfl) (fun x v hv => by
    simp only [table_With.enc, List.mem_cons, List.mem_nil_iff, or_false] at hv
    rcases hv with rfl | rfl | rfl | rfl | rfl | rfl <;> rfl) table_With.cf 26 #[] g 0 cap 0 xs.length xs.toArray W eg (fun m os dk _ x y => table_With.cmp x y _) hH (Array.getElem?_eq_some_iff.1 hc).1 (Nat.zero_le _) (by simp) (by simp; omega)
  have hD : ∀ m os, table_With.Done W g cap (table_With.srt xs) (sortWorldK table_With.enc 6 W g 0 m (Go.Sort.insertionSort (ltOf table_With.cf) xs.toArray 0 xs.length) os) := fun m os => by
    have e : Go.Sort.insertionSort (ltOf table_With.cf) xs.toArray 0 xs.length = table_With.outer (ltOf table_With.cf) (xs.length - 1) 1 xs.toArray := table_With.outer_eq _ _ 1 _ _ (by omega)
    rw [e]
    exact table_With.done hc (by rw [table_With.size_outer]; simpa using hcap) hs
  replace hI := Aside0.mk (show Calls Try.prog 42 #[.slice (some ⟨g, 0, none⟩) xs.length cap, .int .i64 0, .int .i64 xs.length, .func (.func 26) #[] #[]] W fun e w' => e = .returned (.tuple #[]) ∧ table_With.Done W g cap (table_With.srt xs) w' from hI.mono (by
    rintro e w' ⟨rfl, m, os, rfl⟩
    exact ⟨rfl, hD m os⟩))
  clear hD hH eg hc hx hs
  have d1 : decide ((20 : Int) ≤ (xs.length : Int)) = false := decide_eq_false (by omega)
  have d2 : decide ((20 : Int) < (xs.length : Int)) = false := decide_eq_false (by omega)
  go_enter Try.func35, Try.ntmps35
  go_wp2
  refine wp_loop_rounds 1 ?_
  rw [rounds_succ]
  go_wp2_with (first | (go_at_call 42; refine hI.out.mono ?_; rintro e w' ⟨rfl, hd⟩))
  refine wp_loop_rounds 1 ?_
  rw [rounds_succ]
  go_wp2
  go_end0
  exact ⟨rfl, hd⟩
set_option maxHeartbeats 8000000 in
set_option maxRecDepth 100000 in
theorem table_With.sort (xs : List S24) (g cap : Nat) (cur : Array Value) (W : World) (hc : W.heap[g]? = some (.cells cur 24 (0, 0))) (hcap : xs.length ≤ cap) (hs : cur.size = cap * 6) (hx : table_With.Cells cur xs) (hn : xs.length ≤ 19) (hn0 : 0 < xs.length) :
    Calls Try.prog 25 #[.slice (some ⟨g, 0, none⟩) xs.length cap, .func (.func 26) #[] #[]] W fun e w' => e = .returned (.tuple #[]) ∧ table_With.Done W g cap (table_With.srt xs) w' := by
  have hI := Aside0.mk (table_With.stable xs g cap cur W hc hcap hs hx hn hn0)
  clear hc hs hx
  go_enter Try.func25, Try.ntmps25
  go_wp2_with (first | (go_at_call 35; refine hI.out.mono ?_; rintro e w' ⟨rfl, hd⟩))
  go_end0
  exact ⟨rfl, hd⟩
theorem table_With.nil1 (c : Nat) (w : World) : (binOp .eql 22 (.slice none 0 c) (.slice none 0 0)).run Try.prog w = .ok (.bool true) w := by kernel_rfl
theorem table_With.nil2 (ad : Addr) (n c : Nat) (w : World) : (binOp .eql 22 (.slice (some ad) n c) (.slice none 0 0)).run Try.prog w = .ok (.bool false) w := by kernel_rfl
theorem table_With.info : (Try.prog.info? 24).map (fun i => (i.zero, i.size, i.bytes)) = some (some (.agg #[.int .i64 0, .int .i64 0, .string ⟨#[]⟩, .int .i64 0, .string ⟨#[]⟩, .bool false]), 6, 64) := by kernel_rfl
set_option maxHeartbeats 8000000 in
set_option maxRecDepth 100000 in
theorem table_With.clone (A0 : Option Addr) (c0 : Nat) (l0 : List (S24)) (w : World) (hr0 : Kd.C k24 w A0 l0.length l0) (hc0 : l0.length ≤ c0) (hs : l0.length ≤ 1000) :
    Calls Try.prog 23 #[.slice A0 l0.length c0] w fun e w' => ∃ v : Value, e = .returned v ∧ Kd.R k24 24 w' w.heap.size (fun _ => True) v l0 ∧ Below w.heap.size w w' := by
  have HR := Aside0.mk hr0
  have HC := Aside0.mk hc0
  cases A0 with
  | none =>
    have hn : l0 = [] := by
      cases l0 with
      | nil => rfl
      | cons x r =>
        obtain ⟨ad, e, _⟩ := hr0.2.2 (by simp)
        cases e
    clear hr0 hc0
    subst hn
    have he := table_With.nil1 c0
    go_enter Try.func23, Try.ntmps23
    go_wp2
    go_ret
    exact ⟨_, rfl, Kd.R_nil _ _ _ _ _, Below.refl _ _⟩
  | some ad =>
    clear hr0 hc0
    have he := table_With.nil2 ad l0.length c0
    go_enter Try.func23, Try.ntmps23
    go_wp2_with (first
      | ((with_reducible refine gate_dst (N := 5) rfl ?_); refine Kd.R_lit k24 _ 24 ?hg (N := 5) ?hd (xs := ([] : List S24)) (inner := []) (ok := fun _ => True) (okp := fun _ => True) ?hr ?hp (fun _ hk => hk) trivial (Below.refl _ _) (Nat.le_refl _) (by simp) ?_; (case hd => rfl); (case hg => rfl); (case hr => first | (go_simp; done) | (go_simp; rfl)); (case hp => exact (Reps.none _ _)); intro v104 w5 ho6 hb hg_ hnew_; clear hg_ hnew_; have HO := Aside0.mk ho6; have HB := Aside0.mk hb; clear hb ho6)
      | ((with_reducible refine gate_builtin (b := .append) (xs := #[.tmp 5, .tmp 6]) rfl ?_); at_builtin; refine Kd.R_append_rows k24 (w0 := w) w.heap.size rfl (.tmp 5) (.tmp 6) 22 24 (.agg #[.int .i64 0, .int .i64 0, .string ⟨#[]⟩, .int .i64 0, .string ⟨#[]⟩, .bool false]) 64 rfl Try.underlying22 table_With.info rfl (by decide) (by omega) v104 [] l0 _ _ _ (fun _ => True) (fun _ => False) rfl rfl ?aO ?aR (fun _ _ h => h) (fun _ h => h.elim) ?aF ?aB ?aS ?aL ?_; (case aR => exact Kd.C_below HR.out HB.out); (case aB => exact HB.out); (case aF => exact (fun _ _ => trivial)); (case aO => exact HO.out); (case aS => exact HB.out.size); (case aL => simp; omega); intro v107 w9 ho hb hg hat; rw [List.nil_append] at ho; clear hg hat))
    go_ret
    exact ⟨_, rfl, ho, hb⟩
theorem table_With.set_cells {cur : Array Value} {l0 : List S24} (hx : table_With.Cells cur l0) (ii : Nat) (hi : ii < l0.length) (hs : l0.length * 6 ≤ cur.size) (x : S24) :
    table_With.Cells ((((((cur.setIfInBounds (ii * 6) (.int .i64 x.f0)).setIfInBounds (ii * 6 + 1) (.int .i64 x.f1)).setIfInBounds (ii * 6 + 2) (.string x.f2)).setIfInBounds (ii * 6 + 3) (.int .i64 x.f3)).setIfInBounds (ii * 6 + 4) (.string x.f4)).setIfInBounds (ii * 6 + 5) (.bool x.f5)) (l0.set ii x) := by
  intro t ht
  rw [List.length_set] at ht
  have h0 := hx t ht
  have hj : t / 6 < l0.length := by omega
  by_cases e : t / 6 = ii
  · have hg : (l0.set ii x).toArray[t / 6]! = x := by
      rw [table_With.get _ _ (by rw [List.length_set]; exact hj), List.getElem_set, if_pos e.symm]
    rw [hg]
    obtain ⟨r, hr, hr6⟩ : ∃ r, t = ii * 6 + r ∧ r < 6 := ⟨t - ii * 6, by omega, by omega⟩
    subst hr
    rw [show (ii * 6 + r) % 6 = r by omega]
    have hk : ii * 6 + 6 ≤ cur.size := by omega
    match r, hr6 with
    | 0, _ => (have h9 : ii * 6 < cur.size := (by omega)); simp [Array.getElem?_setIfInBounds, h9, table_With.enc]
    | 1, _ => (have h9 : ii * 6 + 1 < cur.size := (by omega)); simp [Array.getElem?_setIfInBounds, h9, table_With.enc]
    | 2, _ => (have h9 : ii * 6 + 2 < cur.size := (by omega)); simp [Array.getElem?_setIfInBounds, h9, table_With.enc]
    | 3, _ => (have h9 : ii * 6 + 3 < cur.size := (by omega)); simp [Array.getElem?_setIfInBounds, h9, table_With.enc]
    | 4, _ => (have h9 : ii * 6 + 4 < cur.size := (by omega)); simp [Array.getElem?_setIfInBounds, h9, table_With.enc]
    | 5, _ => (have h9 : ii * 6 + 5 < cur.size := (by omega)); simp [Array.getElem?_setIfInBounds, h9, table_With.enc]
    | q + 6, h => omega
  · have hg : (l0.set ii x).toArray[t / 6]! = l0.toArray[t / 6]! := by
      rw [table_With.get _ _ (by rw [List.length_set]; exact hj), table_With.get _ _ hj, List.getElem_set, if_neg (fun h => e h.symm)]
    rw [hg, ← h0]
    simp only [Array.getElem?_setIfInBounds, Array.size_setIfInBounds]
    rw [if_neg (by omega), if_neg (by omega), if_neg (by omega), if_neg (by omega), if_neg (by omega), if_neg (by omega)]
/-- what leaves become with one more. -/
def table_With.out (l0 : List S24) (x : S24) : List S24 := if table_at.idx (fun y => y.f0 == x.f0) l0 ≥ 0 then l0.set (table_at.idx (fun y => y.f0 == x.f0) l0).toNat x else table_With.srt (l0 ++ [x])
def table_With.f (k : Nat) (l0 : List S24) (a1_0 : Int) (a1_1 : Int) (a1_2 : ByteArray) (a1_3 : Int) (a1_4 : ByteArray) (a1_5 : Bool) : Option (List S24 × Int) :=
  if l0.length ≤ 18 then ((table_May.f k l0).bind fun m => if m = true then ((table_May.f k (table_With.out l0 (⟨a1_0, a1_1, a1_2, a1_3, a1_4, a1_5⟩ : S24))).bind fun q => if q = true then some (table_With.out l0 (⟨a1_0, a1_1, a1_2, a1_3, a1_4, a1_5⟩ : S24), 0) else some ([], 1300)) else some ([], 1300)) else none
theorem table_With.mono : ∀ l0 a1_0 a1_1 a1_2 a1_3 a1_4 a1_5 k, LeO (table_With.f k l0 a1_0 a1_1 a1_2 a1_3 a1_4 a1_5) (table_With.f (k + 1) l0 a1_0 a1_1 a1_2 a1_3 a1_4 a1_5) := by
  intro l0 a1_0 a1_1 a1_2 a1_3 a1_4 a1_5 k
  unfold table_With.f
  repeat' first
      | (with_reducible exact table_May.mono _ _)
      | (with_reducible exact LeO.refl _)
      | (with_reducible exact LeO.none _)
      | (with_reducible refine LeO.ite ?_ ?_)
      | (with_reducible refine LeO.bind ?_ (fun _ => ?_))
set_option maxHeartbeats 8000000 in
set_option maxRecDepth 100000 in
theorem table_With.calls (k : Nat) (A0 : Option Addr) (c0 : Nat) (l0 : List (S24)) (a1_0 : Int) (a1_1 : Int) (a1_2 : ByteArray) (a1_3 : Int) (a1_4 : ByteArray) (a1_5 : Bool) (r1 : List (S24)) (r2 : Int) (w : World) (hr0 : Kd.C k24 w A0 l0.length l0) (hc0 : l0.length ≤ c0) (h : table_With.f k l0 a1_0 a1_1 a1_2 a1_3 a1_4 a1_5 = some (r1, r2)) :
    Calls Try.prog 9 #[.slice A0 l0.length c0, .agg #[.int .i64 a1_0, .int .i64 a1_1, .string a1_2, .int .i64 a1_3, .string a1_4, .bool a1_5]] w fun e w' => ∃ v0_ : Value, e = .returned (.tuple #[v0_, .int .i64 r2]) ∧ Kd.R k24 24 w' w.heap.size (fun _ => True) v0_ r1 ∧ Below w.heap.size w w' := by
  have HR := Aside0.mk hr0
  have HC := Aside0.mk hc0
  clear hr0 hc0
  unfold table_With.f at h
  by_cases hs : l0.length ≤ 18
  rotate_left
  · rw [if_neg hs] at h
    cases h
  rw [if_pos hs] at h
  replace h := Option.bind_eq_some_iff.1 h
  obtain ⟨m, hm, h⟩ := h
  have HM := Aside0.mk (fun W hr => table_May.calls k A0 c0 l0 m W hr HC.out hm)
  clear hm
  have HCL := Aside0.mk (fun W hr => table_With.clone A0 c0 l0 W hr HC.out (by omega))
  have HAT := Aside0.mk (fun W hr => table_at.calls A0 c0 l0 a1_0 (table_at.idx (fun y => y.f0 == a1_0) l0) W hr HC.out (by unfold table_at.f; rw [if_pos (by omega)]))
  unfold table_With.out at h
  by_cases hi : table_at.idx (fun y => y.f0 == a1_0) l0 ≥ 0
  · rw [if_pos (show table_at.idx (fun y => y.f0 == ((⟨a1_0, a1_1, a1_2, a1_3, a1_4, a1_5⟩ : S24)).f0) l0 ≥ 0 from hi)] at h
    have hlt := (table_at.idx_lt (fun y => y.f0 == a1_0) l0).1
    replace h : ((if m = true then ((table_May.f k (l0.set (table_at.idx (fun y => y.f0 == a1_0) l0).toNat (⟨a1_0, a1_1, a1_2, a1_3, a1_4, a1_5⟩ : S24))).bind fun q => if q = true then some (l0.set (table_at.idx (fun y => y.f0 == a1_0) l0).toNat (⟨a1_0, a1_1, a1_2, a1_3, a1_4, a1_5⟩ : S24), (0 : Int)) else some ([], 1300)) else some ([], 1300)) : Option (List S24 × Int)) = some (r1, r2) := h
    obtain ⟨ii, hii⟩ : ∃ ii : Nat, table_at.idx (fun y => y.f0 == a1_0) l0 = (ii : Int) := ⟨(table_at.idx (fun y => y.f0 == a1_0) l0).toNat, by omega⟩
    rw [hii] at h hlt
    rw [hii] at HAT
    rw [Int.toNat_natCast] at h
    have hib : decide ((0 : Int) ≤ (ii : Int)) = true := decide_eq_true (by omega)
    have hil : ii < l0.length := by omega
    have hilz : (ii : Int) < (l0.length : Int) := hlt
    clear hi hii hlt
    cases m with
    | false =>
      rw [if_neg (by decide)] at h
      simp only [Option.some.injEq, Prod.mk.injEq] at h
      obtain ⟨rfl, rfl⟩ := h
      go_enter Try.func9, Try.ntmps9
      go_wp2_with (first
        | (go_at_call 23; refine (HCL.out _ (Kd.C_below HR.out (below_alloc (Below.refl _ _) _))).mono ?_; rintro e w1 ⟨v, rfl, hv, hb1⟩; have HV := Aside0.mk (Kd.R_lower hv (show w.heap.size ≤ _ by first | (simp; done) | exact Nat.le_succ _)); have HVB := Aside0.mk hv; have E1 := Aside0.mk (blk_below (blk_new w (.cells #[.int .i64 a1_0, .int .i64 a1_1, .string a1_2, .int .i64 a1_3, .string a1_4, .bool a1_5] 24)) hb1); have HB := Aside0.mk (below_step (below_alloc (Below.refl _ _) _) hb1); have u0 := blk_cell E1.out 0; clear hb1 hv)
        | (go_at_call 24; refine (HAT.out _ (Kd.C_below HR.out HB.out)).mono ?_; rintro e w2 ⟨rfl, hb2⟩; have HVB2 := Kd.R_below HVB.out hb2; have E2 := Aside0.mk (blk_below E1.out hb2); have HB2 := Aside0.mk (below_step HB.out hb2); have x0 := blk_cell E2.out 0; have x1 := blk_cell E2.out 1; have x2 := blk_cell E2.out 2; have x3 := blk_cell E2.out 3; have x4 := blk_cell E2.out 4; have x5 := blk_cell E2.out 5; obtain ⟨g, cap, rfl, hbg, _, _⟩ := Kd.R_form HVB2 (by omega); obtain ⟨cur, hc, _, hcap, hmx, hsz, _, _, hx⟩ := table_With.cells_of HVB2; have hbg0 : w.heap.size ≤ g := Nat.le_trans (by first | (simp; done) | exact Nat.le_succ _) hbg; have hgne : w.heap.size ≠ g := Nat.ne_of_lt (Nat.lt_of_lt_of_le (by simp) hbg); have y0 := blk_cell hc (ii * 6); have yh0 := hx (ii * 6 + 0) (by omega); have z0 := blk_frozen hc (ii * 6); have y1 := blk_cell hc (ii * 6 + 1); have yh1 := hx (ii * 6 + 1) (by omega); have z1 := blk_frozen hc (ii * 6 + 1); have y2 := blk_cell hc (ii * 6 + 2); have yh2 := hx (ii * 6 + 2) (by omega); have z2 := blk_frozen hc (ii * 6 + 2); have y3 := blk_cell hc (ii * 6 + 3); have yh3 := hx (ii * 6 + 3) (by omega); have z3 := blk_frozen hc (ii * 6 + 3); have y4 := blk_cell hc (ii * 6 + 4); have yh4 := hx (ii * 6 + 4) (by omega); have z4 := blk_frozen hc (ii * 6 + 4); have y5 := blk_cell hc (ii * 6 + 5); have yh5 := hx (ii * 6 + 5) (by omega); have z5 := blk_frozen hc (ii * 6 + 5); rw [Nat.add_zero] at yh0; rw [yh0] at y0; rw [yh1] at y1; rw [yh2] at y2; rw [yh3] at y3; rw [yh4] at y4; rw [yh5] at y5; clear yh0 yh1 yh2 yh3 yh4 yh5; have HC3 := Aside0.mk (blk_set (blk_set (blk_set (blk_set (blk_set (blk_set hc (ii * 6) (.int .i64 a1_0)) (ii * 6 + 1) (.int .i64 a1_1)) (ii * 6 + 2) (.string a1_2)) (ii * 6 + 3) (.int .i64 a1_3)) (ii * 6 + 4) (.string a1_4)) (ii * 6 + 5) (.bool a1_5)); have HX3 := Aside0.mk (table_With.set_cells hx ii hil (by omega) (⟨a1_0, a1_1, a1_2, a1_3, a1_4, a1_5⟩ : S24)); have HB4 := Aside0.mk (show Below w.heap.size w ((((((w2.setCell ⟨g, ii * 6, none⟩ (.int .i64 a1_0)).setCell ⟨g, ii * 6 + 1, none⟩ (.int .i64 a1_1)).setCell ⟨g, ii * 6 + 2, none⟩ (.string a1_2)).setCell ⟨g, ii * 6 + 3, none⟩ (.int .i64 a1_3)).setCell ⟨g, ii * 6 + 4, none⟩ (.string a1_4)).setCell ⟨g, ii * 6 + 5, none⟩ (.bool a1_5)) from ((((((HB2.out.setCell hbg0 _).setCell hbg0 _).setCell hbg0 _).setCell hbg0 _).setCell hbg0 _).setCell hbg0 _)); have HV4 := Aside0.mk (show Kd.R k24 24 ((((((w2.setCell ⟨g, ii * 6, none⟩ (.int .i64 a1_0)).setCell ⟨g, ii * 6 + 1, none⟩ (.int .i64 a1_1)).setCell ⟨g, ii * 6 + 2, none⟩ (.string a1_2)).setCell ⟨g, ii * 6 + 3, none⟩ (.int .i64 a1_3)).setCell ⟨g, ii * 6 + 4, none⟩ (.string a1_4)).setCell ⟨g, ii * 6 + 5, none⟩ (.bool a1_5)) w.heap.size (fun _ => True) (.slice (some ⟨g, 0, none⟩) l0.length cap) (l0.set ii (⟨a1_0, a1_1, a1_2, a1_3, a1_4, a1_5⟩ : S24)) from table_With.of_cells HC3.out (List.length_set).symm hcap hmx (by simpa using hsz) hbg0 trivial HX3.out); have HN := Aside0.mk hcap; clear hb2 HVB2 hx hc hcap hmx hsz hbg HC3 HX3)
        | (go_at_call 17; with_reducible refine (HM.out _ (Kd.C_below HR.out HB4.out)).mono ?_; rintro e w5 ⟨rfl, hb5⟩; have HB5 := Aside0.mk (below_step HB4.out hb5); have HV5 := Aside0.mk (Kd.R_below HV4.out hb5); clear hb5))
      go_ret2
      exact ⟨_, rfl, Kd.R_nil _ _ _ _ _, HB5.out⟩
    | true =>
      rw [if_pos rfl] at h
      replace h := Option.bind_eq_some_iff.1 h
      obtain ⟨q, hq, h⟩ := h
      have HQ := Aside0.mk (show ∀ (W : World) (A : Option Addr) (c : Nat), Kd.C k24 W A l0.length (l0.set ii (⟨a1_0, a1_1, a1_2, a1_3, a1_4, a1_5⟩ : S24)) → l0.length ≤ c → Calls Try.prog 17 #[.slice A l0.length c] W fun e w' => e = .returned (.bool q) ∧ Below W.heap.size W w' from fun W A c hr hc => by
        have := table_May.calls k A c (l0.set ii (⟨a1_0, a1_1, a1_2, a1_3, a1_4, a1_5⟩ : S24)) q W (by rw [List.length_set]; exact hr) (by rw [List.length_set]; exact hc) hq
        rw [List.length_set] at this
        exact this)
      clear hq
      cases q with
      | false =>
        rw [if_neg (by decide)] at h
        simp only [Option.some.injEq, Prod.mk.injEq] at h
        obtain ⟨rfl, rfl⟩ := h
        go_enter Try.func9, Try.ntmps9
        go_wp2_with (first
          | (go_at_call 23; refine (HCL.out _ (Kd.C_below HR.out (below_alloc (Below.refl _ _) _))).mono ?_; rintro e w1 ⟨v, rfl, hv, hb1⟩; have HV := Aside0.mk (Kd.R_lower hv (show w.heap.size ≤ _ by first | (simp; done) | exact Nat.le_succ _)); have HVB := Aside0.mk hv; have E1 := Aside0.mk (blk_below (blk_new w (.cells #[.int .i64 a1_0, .int .i64 a1_1, .string a1_2, .int .i64 a1_3, .string a1_4, .bool a1_5] 24)) hb1); have HB := Aside0.mk (below_step (below_alloc (Below.refl _ _) _) hb1); have u0 := blk_cell E1.out 0; clear hb1 hv)
          | (go_at_call 24; refine (HAT.out _ (Kd.C_below HR.out HB.out)).mono ?_; rintro e w2 ⟨rfl, hb2⟩; have HVB2 := Kd.R_below HVB.out hb2; have E2 := Aside0.mk (blk_below E1.out hb2); have HB2 := Aside0.mk (below_step HB.out hb2); have x0 := blk_cell E2.out 0; have x1 := blk_cell E2.out 1; have x2 := blk_cell E2.out 2; have x3 := blk_cell E2.out 3; have x4 := blk_cell E2.out 4; have x5 := blk_cell E2.out 5; obtain ⟨g, cap, rfl, hbg, _, _⟩ := Kd.R_form HVB2 (by omega); obtain ⟨cur, hc, _, hcap, hmx, hsz, _, _, hx⟩ := table_With.cells_of HVB2; have hbg0 : w.heap.size ≤ g := Nat.le_trans (by first | (simp; done) | exact Nat.le_succ _) hbg; have hgne : w.heap.size ≠ g := Nat.ne_of_lt (Nat.lt_of_lt_of_le (by simp) hbg); have y0 := blk_cell hc (ii * 6); have yh0 := hx (ii * 6 + 0) (by omega); have z0 := blk_frozen hc (ii * 6); have y1 := blk_cell hc (ii * 6 + 1); have yh1 := hx (ii * 6 + 1) (by omega); have z1 := blk_frozen hc (ii * 6 + 1); have y2 := blk_cell hc (ii * 6 + 2); have yh2 := hx (ii * 6 + 2) (by omega); have z2 := blk_frozen hc (ii * 6 + 2); have y3 := blk_cell hc (ii * 6 + 3); have yh3 := hx (ii * 6 + 3) (by omega); have z3 := blk_frozen hc (ii * 6 + 3); have y4 := blk_cell hc (ii * 6 + 4); have yh4 := hx (ii * 6 + 4) (by omega); have z4 := blk_frozen hc (ii * 6 + 4); have y5 := blk_cell hc (ii * 6 + 5); have yh5 := hx (ii * 6 + 5) (by omega); have z5 := blk_frozen hc (ii * 6 + 5); rw [Nat.add_zero] at yh0; rw [yh0] at y0; rw [yh1] at y1; rw [yh2] at y2; rw [yh3] at y3; rw [yh4] at y4; rw [yh5] at y5; clear yh0 yh1 yh2 yh3 yh4 yh5; have HC3 := Aside0.mk (blk_set (blk_set (blk_set (blk_set (blk_set (blk_set hc (ii * 6) (.int .i64 a1_0)) (ii * 6 + 1) (.int .i64 a1_1)) (ii * 6 + 2) (.string a1_2)) (ii * 6 + 3) (.int .i64 a1_3)) (ii * 6 + 4) (.string a1_4)) (ii * 6 + 5) (.bool a1_5)); have HX3 := Aside0.mk (table_With.set_cells hx ii hil (by omega) (⟨a1_0, a1_1, a1_2, a1_3, a1_4, a1_5⟩ : S24)); have HB4 := Aside0.mk (show Below w.heap.size w ((((((w2.setCell ⟨g, ii * 6, none⟩ (.int .i64 a1_0)).setCell ⟨g, ii * 6 + 1, none⟩ (.int .i64 a1_1)).setCell ⟨g, ii * 6 + 2, none⟩ (.string a1_2)).setCell ⟨g, ii * 6 + 3, none⟩ (.int .i64 a1_3)).setCell ⟨g, ii * 6 + 4, none⟩ (.string a1_4)).setCell ⟨g, ii * 6 + 5, none⟩ (.bool a1_5)) from ((((((HB2.out.setCell hbg0 _).setCell hbg0 _).setCell hbg0 _).setCell hbg0 _).setCell hbg0 _).setCell hbg0 _)); have HV4 := Aside0.mk (show Kd.R k24 24 ((((((w2.setCell ⟨g, ii * 6, none⟩ (.int .i64 a1_0)).setCell ⟨g, ii * 6 + 1, none⟩ (.int .i64 a1_1)).setCell ⟨g, ii * 6 + 2, none⟩ (.string a1_2)).setCell ⟨g, ii * 6 + 3, none⟩ (.int .i64 a1_3)).setCell ⟨g, ii * 6 + 4, none⟩ (.string a1_4)).setCell ⟨g, ii * 6 + 5, none⟩ (.bool a1_5)) w.heap.size (fun _ => True) (.slice (some ⟨g, 0, none⟩) l0.length cap) (l0.set ii (⟨a1_0, a1_1, a1_2, a1_3, a1_4, a1_5⟩ : S24)) from table_With.of_cells HC3.out (List.length_set).symm hcap hmx (by simpa using hsz) hbg0 trivial HX3.out); have HN := Aside0.mk hcap; clear hb2 HVB2 hx hc hcap hmx hsz hbg HC3 HX3)
          | (go_at_call 17; with_reducible refine (HM.out _ (Kd.C_below HR.out HB4.out)).mono ?_; rintro e w5 ⟨rfl, hb5⟩; have HB5 := Aside0.mk (below_step HB4.out hb5); have HV5 := Aside0.mk (Kd.R_below HV4.out hb5); clear hb5)
          | (go_at_call 17; with_reducible refine (HQ.out _ _ _ (by have := (Kd.R_reads' HV5.out).2.2; rw [List.length_set] at this; exact this) HN.out).mono ?_; rintro e w6 ⟨rfl, hb6⟩; have HB6 := Aside0.mk (below_step HB5.out hb6); have HV6 := Aside0.mk (Kd.R_below HV5.out hb6); clear hb6))
        go_ret2
        exact ⟨_, rfl, Kd.R_nil _ _ _ _ _, HB6.out⟩
      | true =>
        rw [if_pos rfl] at h
        simp only [Option.some.injEq, Prod.mk.injEq] at h
        obtain ⟨rfl, rfl⟩ := h
        go_enter Try.func9, Try.ntmps9
        go_wp2_with (first
          | (go_at_call 23; refine (HCL.out _ (Kd.C_below HR.out (below_alloc (Below.refl _ _) _))).mono ?_; rintro e w1 ⟨v, rfl, hv, hb1⟩; have HV := Aside0.mk (Kd.R_lower hv (show w.heap.size ≤ _ by first | (simp; done) | exact Nat.le_succ _)); have HVB := Aside0.mk hv; have E1 := Aside0.mk (blk_below (blk_new w (.cells #[.int .i64 a1_0, .int .i64 a1_1, .string a1_2, .int .i64 a1_3, .string a1_4, .bool a1_5] 24)) hb1); have HB := Aside0.mk (below_step (below_alloc (Below.refl _ _) _) hb1); have u0 := blk_cell E1.out 0; clear hb1 hv)
          | (go_at_call 24; refine (HAT.out _ (Kd.C_below HR.out HB.out)).mono ?_; rintro e w2 ⟨rfl, hb2⟩; have HVB2 := Kd.R_below HVB.out hb2; have E2 := Aside0.mk (blk_below E1.out hb2); have HB2 := Aside0.mk (below_step HB.out hb2); have x0 := blk_cell E2.out 0; have x1 := blk_cell E2.out 1; have x2 := blk_cell E2.out 2; have x3 := blk_cell E2.out 3; have x4 := blk_cell E2.out 4; have x5 := blk_cell E2.out 5; obtain ⟨g, cap, rfl, hbg, _, _⟩ := Kd.R_form HVB2 (by omega); obtain ⟨cur, hc, _, hcap, hmx, hsz, _, _, hx⟩ := table_With.cells_of HVB2; have hbg0 : w.heap.size ≤ g := Nat.le_trans (by first | (simp; done) | exact Nat.le_succ _) hbg; have hgne : w.heap.size ≠ g := Nat.ne_of_lt (Nat.lt_of_lt_of_le (by simp) hbg); have y0 := blk_cell hc (ii * 6); have yh0 := hx (ii * 6 + 0) (by omega); have z0 := blk_frozen hc (ii * 6); have y1 := blk_cell hc (ii * 6 + 1); have yh1 := hx (ii * 6 + 1) (by omega); have z1 := blk_frozen hc (ii * 6 + 1); have y2 := blk_cell hc (ii * 6 + 2); have yh2 := hx (ii * 6 + 2) (by omega); have z2 := blk_frozen hc (ii * 6 + 2); have y3 := blk_cell hc (ii * 6 + 3); have yh3 := hx (ii * 6 + 3) (by omega); have z3 := blk_frozen hc (ii * 6 + 3); have y4 := blk_cell hc (ii * 6 + 4); have yh4 := hx (ii * 6 + 4) (by omega); have z4 := blk_frozen hc (ii * 6 + 4); have y5 := blk_cell hc (ii * 6 + 5); have yh5 := hx (ii * 6 + 5) (by omega); have z5 := blk_frozen hc (ii * 6 + 5); rw [Nat.add_zero] at yh0; rw [yh0] at y0; rw [yh1] at y1; rw [yh2] at y2; rw [yh3] at y3; rw [yh4] at y4; rw [yh5] at y5; clear yh0 yh1 yh2 yh3 yh4 yh5; have HC3 := Aside0.mk (blk_set (blk_set (blk_set (blk_set (blk_set (blk_set hc (ii * 6) (.int .i64 a1_0)) (ii * 6 + 1) (.int .i64 a1_1)) (ii * 6 + 2) (.string a1_2)) (ii * 6 + 3) (.int .i64 a1_3)) (ii * 6 + 4) (.string a1_4)) (ii * 6 + 5) (.bool a1_5)); have HX3 := Aside0.mk (table_With.set_cells hx ii hil (by omega) (⟨a1_0, a1_1, a1_2, a1_3, a1_4, a1_5⟩ : S24)); have HB4 := Aside0.mk (show Below w.heap.size w ((((((w2.setCell ⟨g, ii * 6, none⟩ (.int .i64 a1_0)).setCell ⟨g, ii * 6 + 1, none⟩ (.int .i64 a1_1)).setCell ⟨g, ii * 6 + 2, none⟩ (.string a1_2)).setCell ⟨g, ii * 6 + 3, none⟩ (.int .i64 a1_3)).setCell ⟨g, ii * 6 + 4, none⟩ (.string a1_4)).setCell ⟨g, ii * 6 + 5, none⟩ (.bool a1_5)) from ((((((HB2.out.setCell hbg0 _).setCell hbg0 _).setCell hbg0 _).setCell hbg0 _).setCell hbg0 _).setCell hbg0 _)); have HV4 := Aside0.mk (show Kd.R k24 24 ((((((w2.setCell ⟨g, ii * 6, none⟩ (.int .i64 a1_0)).setCell ⟨g, ii * 6 + 1, none⟩ (.int .i64 a1_1)).setCell ⟨g, ii * 6 + 2, none⟩ (.string a1_2)).setCell ⟨g, ii * 6 + 3, none⟩ (.int .i64 a1_3)).setCell ⟨g, ii * 6 + 4, none⟩ (.string a1_4)).setCell ⟨g, ii * 6 + 5, none⟩ (.bool a1_5)) w.heap.size (fun _ => True) (.slice (some ⟨g, 0, none⟩) l0.length cap) (l0.set ii (⟨a1_0, a1_1, a1_2, a1_3, a1_4, a1_5⟩ : S24)) from table_With.of_cells HC3.out (List.length_set).symm hcap hmx (by simpa using hsz) hbg0 trivial HX3.out); have HN := Aside0.mk hcap; clear hb2 HVB2 hx hc hcap hmx hsz hbg HC3 HX3)
          | (go_at_call 17; with_reducible refine (HM.out _ (Kd.C_below HR.out HB4.out)).mono ?_; rintro e w5 ⟨rfl, hb5⟩; have HB5 := Aside0.mk (below_step HB4.out hb5); have HV5 := Aside0.mk (Kd.R_below HV4.out hb5); clear hb5)
          | (go_at_call 17; with_reducible refine (HQ.out _ _ _ (by have := (Kd.R_reads' HV5.out).2.2; rw [List.length_set] at this; exact this) HN.out).mono ?_; rintro e w6 ⟨rfl, hb6⟩; have HB6 := Aside0.mk (below_step HB5.out hb6); have HV6 := Aside0.mk (Kd.R_below HV5.out hb6); clear hb6))
        go_ret2
        exact ⟨_, rfl, HV6.out, HB6.out⟩
  · have hi2 : ¬ (table_at.idx (fun y => y.f0 == ((⟨a1_0, a1_1, a1_2, a1_3, a1_4, a1_5⟩ : S24)).f0) l0 ≥ 0) := hi
    rw [if_neg hi2] at h
    have hib : decide ((0 : Int) ≤ table_at.idx (fun y => y.f0 == a1_0) l0) = false := decide_eq_false hi
    clear hi hi2
    generalize table_at.idx (fun y => y.f0 == a1_0) l0 = i at HAT hib
    obtain ⟨xs, hxs⟩ : ∃ xs, l0 ++ [(⟨a1_0, a1_1, a1_2, a1_3, a1_4, a1_5⟩ : S24)] = xs := ⟨_, rfl⟩
    rw [hxs] at h
    have HXL := Aside0.mk (show xs.length = l0.length + 1 by rw [← hxs]; simp)
    cases m with
    | false =>
      rw [if_neg (by decide)] at h
      simp only [Option.some.injEq, Prod.mk.injEq] at h
      obtain ⟨rfl, rfl⟩ := h
      go_enter Try.func9, Try.ntmps9
      go_wp2_with (first
        | (go_at_call 23; refine (HCL.out _ (Kd.C_below HR.out (below_alloc (Below.refl _ _) _))).mono ?_; rintro e w1 ⟨v, rfl, hv, hb1⟩; have HV := Aside0.mk (Kd.R_lower hv (show w.heap.size ≤ _ by first | (simp; done) | exact Nat.le_succ _)); have HVB := Aside0.mk hv; have E1 := Aside0.mk (blk_below (blk_new w (.cells #[.int .i64 a1_0, .int .i64 a1_1, .string a1_2, .int .i64 a1_3, .string a1_4, .bool a1_5] 24)) hb1); have HB := Aside0.mk (below_step (below_alloc (Below.refl _ _) _) hb1); have u0 := blk_cell E1.out 0; clear hb1 hv)
        | (go_at_call 24; refine (HAT.out _ (Kd.C_below HR.out HB.out)).mono ?_; rintro e w2 ⟨rfl, hb2⟩; have HV2 := Aside0.mk (Kd.R_below HV.out hb2); have HVB2 := Aside0.mk (Kd.R_below HVB.out hb2); have E2 := Aside0.mk (blk_below E1.out hb2); have HB2 := Aside0.mk (below_step HB.out hb2); have x0 := blk_cell E2.out 0; have x1 := blk_cell E2.out 1; have x2 := blk_cell E2.out 2; have x3 := blk_cell E2.out 3; have x4 := blk_cell E2.out 4; have x5 := blk_cell E2.out 5; clear hb2)
        | ((with_reducible refine gate_builtin (b := .append) (xs := #[.tmp 20, .tmp 22]) rfl ?_); at_builtin; refine Kd.R_append k24 (w0 := w) w.heap.size rfl (.tmp 20) (.tmp 22) 22 24 (.agg #[.int .i64 0, .int .i64 0, .string ⟨#[]⟩, .int .i64 0, .string ⟨#[]⟩, .bool false]) 64 rfl Try.underlying22 table_With.info rfl (by decide) (by omega) v l0 (⟨a1_0, a1_1, a1_2, a1_3, a1_4, a1_5⟩ : S24) [.int .i64 a1_0, .int .i64 a1_1, .string a1_2, .int .i64 a1_3, .string a1_4, .bool a1_5] (fun _ => True) (fun _ => False) rfl rfl ?aP (fun _ hk => hk.elim) ?aF ?aO ?aB ?aS ?aL ?_; (case aP => exact k24_mkM _ _ _ (⟨a1_0, a1_1, a1_2, a1_3, a1_4, a1_5⟩ : S24)); (case aF => exact fun _ _ => trivial); (case aO => exact HV2.out); (case aB => exact HB2.out); (case aS => exact HB2.out.size); (case aL => omega); intro v1 w3 ho hb hg hat; rw [hxs] at ho; obtain ⟨g, cap, rfl, hbg, _, _⟩ := Kd.R_form ho (by have := HXL.out; omega); obtain ⟨cur, hc, _, hcap, hmx, hsz, _, _, hx⟩ := table_With.cells_of ho; have HB3 := Aside0.mk hb; have HC3 := Aside0.mk hc; have HX3 := Aside0.mk hx; have HG := Aside0.mk hbg; have HN := Aside0.mk hcap; have HMX := Aside0.mk hmx; have HSZ := Aside0.mk hsz; clear ho hb hg hat hc hx hbg hcap hmx hsz)
        | (go_at_call 25; refine (table_With.sort xs g cap cur w3 HC3.out HN.out HSZ.out HX3.out (by have := HXL.out; omega) (by have := HXL.out; omega)).mono ?_; rintro e w4 ⟨rfl, cur', hc', hs', hx', hg'⟩; have HB4 := Aside0.mk (HB3.out.grown hg' HB3.out.size (fun k hk => by cases hk; exact HG.out)); have HV4 := Aside0.mk (table_With.of_cells (base := w.heap.size) (ok := fun _ => True) hc' (table_With.srt_length xs).symm HN.out HMX.out hs' HG.out trivial hx'); clear hc' hs' hx' hg')
        | (go_at_call 17; with_reducible refine (HM.out _ (Kd.C_below HR.out HB4.out)).mono ?_; rintro e w5 ⟨rfl, hb5⟩; have HB5 := Aside0.mk (below_step HB4.out hb5); have HV5 := Aside0.mk (Kd.R_below HV4.out hb5); clear hb5))
      go_ret2
      exact ⟨_, rfl, Kd.R_nil _ _ _ _ _, HB5.out⟩
    | true =>
      rw [if_pos rfl] at h
      replace h := Option.bind_eq_some_iff.1 h
      obtain ⟨q, hq, h⟩ := h
      have HQ := Aside0.mk (show ∀ (W : World) (A : Option Addr) (c : Nat), Kd.C k24 W A xs.length (table_With.srt xs) → xs.length ≤ c → Calls Try.prog 17 #[.slice A xs.length c] W fun e w' => e = .returned (.bool q) ∧ Below W.heap.size W w' from fun W A c hr hc => by
        have := table_May.calls k A c (table_With.srt xs) q W (by rw [table_With.srt_length]; exact hr) (by rw [table_With.srt_length]; exact hc) hq
        rw [table_With.srt_length] at this
        exact this)
      clear hq
      cases q with
      | false =>
        rw [if_neg (by decide)] at h
        simp only [Option.some.injEq, Prod.mk.injEq] at h
        obtain ⟨rfl, rfl⟩ := h
        go_enter Try.func9, Try.ntmps9
        go_wp2_with (first
          | (go_at_call 23; refine (HCL.out _ (Kd.C_below HR.out (below_alloc (Below.refl _ _) _))).mono ?_; rintro e w1 ⟨v, rfl, hv, hb1⟩; have HV := Aside0.mk (Kd.R_lower hv (show w.heap.size ≤ _ by first | (simp; done) | exact Nat.le_succ _)); have HVB := Aside0.mk hv; have E1 := Aside0.mk (blk_below (blk_new w (.cells #[.int .i64 a1_0, .int .i64 a1_1, .string a1_2, .int .i64 a1_3, .string a1_4, .bool a1_5] 24)) hb1); have HB := Aside0.mk (below_step (below_alloc (Below.refl _ _) _) hb1); have u0 := blk_cell E1.out 0; clear hb1 hv)
          | (go_at_call 24; refine (HAT.out _ (Kd.C_below HR.out HB.out)).mono ?_; rintro e w2 ⟨rfl, hb2⟩; have HV2 := Aside0.mk (Kd.R_below HV.out hb2); have HVB2 := Aside0.mk (Kd.R_below HVB.out hb2); have E2 := Aside0.mk (blk_below E1.out hb2); have HB2 := Aside0.mk (below_step HB.out hb2); have x0 := blk_cell E2.out 0; have x1 := blk_cell E2.out 1; have x2 := blk_cell E2.out 2; have x3 := blk_cell E2.out 3; have x4 := blk_cell E2.out 4; have x5 := blk_cell E2.out 5; clear hb2)
          | ((with_reducible refine gate_builtin (b := .append) (xs := #[.tmp 20, .tmp 22]) rfl ?_); at_builtin; refine Kd.R_append k24 (w0 := w) w.heap.size rfl (.tmp 20) (.tmp 22) 22 24 (.agg #[.int .i64 0, .int .i64 0, .string ⟨#[]⟩, .int .i64 0, .string ⟨#[]⟩, .bool false]) 64 rfl Try.underlying22 table_With.info rfl (by decide) (by omega) v l0 (⟨a1_0, a1_1, a1_2, a1_3, a1_4, a1_5⟩ : S24) [.int .i64 a1_0, .int .i64 a1_1, .string a1_2, .int .i64 a1_3, .string a1_4, .bool a1_5] (fun _ => True) (fun _ => False) rfl rfl ?aP (fun _ hk => hk.elim) ?aF ?aO ?aB ?aS ?aL ?_; (case aP => exact k24_mkM _ _ _ (⟨a1_0, a1_1, a1_2, a1_3, a1_4, a1_5⟩ : S24)); (case aF => exact fun _ _ => trivial); (case aO => exact HV2.out); (case aB => exact HB2.out); (case aS => exact HB2.out.size); (case aL => omega); intro v1 w3 ho hb hg hat; rw [hxs] at ho; obtain ⟨g, cap, rfl, hbg, _, _⟩ := Kd.R_form ho (by have := HXL.out; omega); obtain ⟨cur, hc, _, hcap, hmx, hsz, _, _, hx⟩ := table_With.cells_of ho; have HB3 := Aside0.mk hb; have HC3 := Aside0.mk hc; have HX3 := Aside0.mk hx; have HG := Aside0.mk hbg; have HN := Aside0.mk hcap; have HMX := Aside0.mk hmx; have HSZ := Aside0.mk hsz; clear ho hb hg hat hc hx hbg hcap hmx hsz)
          | (go_at_call 25; refine (table_With.sort xs g cap cur w3 HC3.out HN.out HSZ.out HX3.out (by have := HXL.out; omega) (by have := HXL.out; omega)).mono ?_; rintro e w4 ⟨rfl, cur', hc', hs', hx', hg'⟩; have HB4 := Aside0.mk (HB3.out.grown hg' HB3.out.size (fun k hk => by cases hk; exact HG.out)); have HV4 := Aside0.mk (table_With.of_cells (base := w.heap.size) (ok := fun _ => True) hc' (table_With.srt_length xs).symm HN.out HMX.out hs' HG.out trivial hx'); clear hc' hs' hx' hg')
          | (go_at_call 17; with_reducible refine (HM.out _ (Kd.C_below HR.out HB4.out)).mono ?_; rintro e w5 ⟨rfl, hb5⟩; have HB5 := Aside0.mk (below_step HB4.out hb5); have HV5 := Aside0.mk (Kd.R_below HV4.out hb5); clear hb5)
          | (go_at_call 17; with_reducible refine (HQ.out _ _ _ (by have := (Kd.R_reads' HV5.out).2.2; rw [table_With.srt_length] at this; exact this) HN.out).mono ?_; rintro e w6 ⟨rfl, hb6⟩; have HB6 := Aside0.mk (below_step HB5.out hb6); have HV6 := Aside0.mk (Kd.R_below HV5.out hb6); clear hb6))
        go_ret2
        exact ⟨_, rfl, Kd.R_nil _ _ _ _ _, HB6.out⟩
      | true =>
        rw [if_pos rfl] at h
        simp only [Option.some.injEq, Prod.mk.injEq] at h
        obtain ⟨rfl, rfl⟩ := h
        go_enter Try.func9, Try.ntmps9
        go_wp2_with (first
          | (go_at_call 23; refine (HCL.out _ (Kd.C_below HR.out (below_alloc (Below.refl _ _) _))).mono ?_; rintro e w1 ⟨v, rfl, hv, hb1⟩; have HV := Aside0.mk (Kd.R_lower hv (show w.heap.size ≤ _ by first | (simp; done) | exact Nat.le_succ _)); have HVB := Aside0.mk hv; have E1 := Aside0.mk (blk_below (blk_new w (.cells #[.int .i64 a1_0, .int .i64 a1_1, .string a1_2, .int .i64 a1_3, .string a1_4, .bool a1_5] 24)) hb1); have HB := Aside0.mk (below_step (below_alloc (Below.refl _ _) _) hb1); have u0 := blk_cell E1.out 0; clear hb1 hv)
          | (go_at_call 24; refine (HAT.out _ (Kd.C_below HR.out HB.out)).mono ?_; rintro e w2 ⟨rfl, hb2⟩; have HV2 := Aside0.mk (Kd.R_below HV.out hb2); have HVB2 := Aside0.mk (Kd.R_below HVB.out hb2); have E2 := Aside0.mk (blk_below E1.out hb2); have HB2 := Aside0.mk (below_step HB.out hb2); have x0 := blk_cell E2.out 0; have x1 := blk_cell E2.out 1; have x2 := blk_cell E2.out 2; have x3 := blk_cell E2.out 3; have x4 := blk_cell E2.out 4; have x5 := blk_cell E2.out 5; clear hb2)
          | ((with_reducible refine gate_builtin (b := .append) (xs := #[.tmp 20, .tmp 22]) rfl ?_); at_builtin; refine Kd.R_append k24 (w0 := w) w.heap.size rfl (.tmp 20) (.tmp 22) 22 24 (.agg #[.int .i64 0, .int .i64 0, .string ⟨#[]⟩, .int .i64 0, .string ⟨#[]⟩, .bool false]) 64 rfl Try.underlying22 table_With.info rfl (by decide) (by omega) v l0 (⟨a1_0, a1_1, a1_2, a1_3, a1_4, a1_5⟩ : S24) [.int .i64 a1_0, .int .i64 a1_1, .string a1_2, .int .i64 a1_3, .string a1_4, .bool a1_5] (fun _ => True) (fun _ => False) rfl rfl ?aP (fun _ hk => hk.elim) ?aF ?aO ?aB ?aS ?aL ?_; (case aP => exact k24_mkM _ _ _ (⟨a1_0, a1_1, a1_2, a1_3, a1_4, a1_5⟩ : S24)); (case aF => exact fun _ _ => trivial); (case aO => exact HV2.out); (case aB => exact HB2.out); (case aS => exact HB2.out.size); (case aL => omega); intro v1 w3 ho hb hg hat; rw [hxs] at ho; obtain ⟨g, cap, rfl, hbg, _, _⟩ := Kd.R_form ho (by have := HXL.out; omega); obtain ⟨cur, hc, _, hcap, hmx, hsz, _, _, hx⟩ := table_With.cells_of ho; have HB3 := Aside0.mk hb; have HC3 := Aside0.mk hc; have HX3 := Aside0.mk hx; have HG := Aside0.mk hbg; have HN := Aside0.mk hcap; have HMX := Aside0.mk hmx; have HSZ := Aside0.mk hsz; clear ho hb hg hat hc hx hbg hcap hmx hsz)
          | (go_at_call 25; refine (table_With.sort xs g cap cur w3 HC3.out HN.out HSZ.out HX3.out (by have := HXL.out; omega) (by have := HXL.out; omega)).mono ?_; rintro e w4 ⟨rfl, cur', hc', hs', hx', hg'⟩; have HB4 := Aside0.mk (HB3.out.grown hg' HB3.out.size (fun k hk => by cases hk; exact HG.out)); have HV4 := Aside0.mk (table_With.of_cells (base := w.heap.size) (ok := fun _ => True) hc' (table_With.srt_length xs).symm HN.out HMX.out hs' HG.out trivial hx'); clear hc' hs' hx' hg')
          | (go_at_call 17; with_reducible refine (HM.out _ (Kd.C_below HR.out HB4.out)).mono ?_; rintro e w5 ⟨rfl, hb5⟩; have HB5 := Aside0.mk (below_step HB4.out hb5); have HV5 := Aside0.mk (Kd.R_below HV4.out hb5); clear hb5)
          | (go_at_call 17; with_reducible refine (HQ.out _ _ _ (by have := (Kd.R_reads' HV5.out).2.2; rw [table_With.srt_length] at this; exact this) HN.out).mono ?_; rintro e w6 ⟨rfl, hb6⟩; have HB6 := Aside0.mk (below_step HB5.out hb6); have HV6 := Aside0.mk (Kd.R_below HV5.out hb6); clear hb6))
        go_ret2
        exact ⟨_, rfl, HV6.out, HB6.out⟩

end Go.Proofs.Ytfkgfjllgiblhaa.PTableOf
