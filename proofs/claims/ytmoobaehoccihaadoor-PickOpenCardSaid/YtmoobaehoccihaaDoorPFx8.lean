-- Made by wip/pr.py out of the translation (a turned copy of the kit's print; contracts by hand where said).
import Derived.Test.YtmoobaehoccihaaDoorPFx0
import Derived.Test.YtmoobaehoccihaaDoorPFx4
import Derived.Test.YtmoobaehoccihaaDoorPFx7
namespace Go.Proofs.YtmoobaehoccihaaDoor.PF
open Go.RowKit Go.Proofs.YtmoobaehoccihaaDoorW.PrintWords Go.Proofs.YtmoobaehoccihaaDoorW.PrintLast Go.Proofs.YtmoobaehoccihaaDoorW.PrintMore
-- shrunk
attribute [local go_sem] max2_int min2_int max_two min_two max_three min_three max_four min_four   -- for this text's walks alone
set_option linter.unusedVariables false
set_option linter.unusedSimpArgs false

/-! ### table_at: function 77 -/
-- BY HAND
/-- where the first of a row stands that is so; below 0: none is. -/
def table_at.idx (p : S42 → Bool) (l : List S42) : Int := match l.findIdx? p with
 | some i => (i : Int)
 | none => -1
theorem table_at.idx_hit (p : S42 → Bool) (l : List S42) (k : Nat) (hk : k < l.length) (h : p l[k] = true) (hn : ∀ (j : Nat) (hj : j < l.length), j < k → p l[j] = false) : table_at.idx p l = k := by
 have e : l.findIdx? p = some k := List.findIdx?_eq_some_iff_getElem.2 ⟨hk, h, fun j hj => by simp [hn j (by omega) hj]⟩
 unfold table_at.idx
 rw [e]
theorem table_at.idx_miss (p : S42 → Bool) (l : List S42) (hn : ∀ (j : Nat) (hj : j < l.length), p l[j] = false) : table_at.idx p l = -1 := by
 have e : l.findIdx? p = none := List.findIdx?_eq_none_iff.2 fun x hx => by
  obtain ⟨j, hj, rfl⟩ := List.getElem_of_mem hx
  exact hn j hj
 unfold table_at.idx
 rw [e]
theorem table_at.idx_lt (p : S42 → Bool) (l : List S42) : table_at.idx p l < l.length ∧ -1 ≤ table_at.idx p l := by
 unfold table_at.idx
 cases e : l.findIdx? p with
 | none => simp only; omega
 | some i =>
  obtain ⟨h, _⟩ := List.findIdx?_eq_some_iff_getElem.1 e
  simp only
  omega
theorem table_at.idx_congr (p q : S42 → Bool) (l : List S42) (h : ∀ x ∈ l, p x = q x) : table_at.idx p l = table_at.idx q l := by
 cases e : l.findIdx? p with
 | none =>
  have hn := List.findIdx?_eq_none_iff.1 e
  rw [table_at.idx_miss p l (fun j hj => hn _ (List.getElem_mem hj)), table_at.idx_miss q l (fun j hj => by rw [← h _ (List.getElem_mem hj)]; exact hn _ (List.getElem_mem hj))]
 | some i =>
  obtain ⟨hi, h1, h2⟩ := List.findIdx?_eq_some_iff_getElem.1 e
  have h3 : ∀ (j : Nat) (hj : j < l.length), j < i → p l[j] = false := fun j hj hji => by simpa using h2 j hji
  rw [table_at.idx_hit p l i hi h1 h3, table_at.idx_hit q l i hi (by rw [← h _ (List.getElem_mem hi)]; exact h1) (fun j hj hji => by rw [← h _ (List.getElem_mem hj)]; exact h3 j hj hji)]
theorem table_at.rd (l : List S42) (k : Nat) (h : k < l.length) : rd_T42 l (k : Int) = l[k] := by
 unfold rd_T42
 rw [Int.toNat_natCast, List.getD_eq_getElem?_getD, List.getElem?_eq_getElem h]
 rfl
set_option maxHeartbeats 8000000 in
set_option maxRecDepth 100000 in
theorem table_at.index (p : S42 → Bool) (G : Nat) (lb : Array Value) (A0 : Option Addr) (c0 : Nat) (l0 : List S42) (w : World) (hr : Kd.C k42 w A0 l0.length l0) (hs : l0.length ≤ 140737488351232)
  (eg : ∀ args w, (callFunc G args).run Tryd.prog w = .ok (.enter G args) w)
  (hp : ∀ (W : World) (x : S42), x ∈ l0 → Below w.heap.size w W → Calls Tryd.prog G (#[.agg #[.int .i64 x.f0, .int .i64 x.f1, .string x.f2, .int .i64 x.f3, .string x.f4, .bool x.f5]] ++ lb) W fun e w' => e = .returned (.bool (p x)) ∧ Below W.heap.size W w') :
  Calls Tryd.prog 68 #[.slice A0 l0.length c0, .func (.func G) #[] lb] w fun e w' => e = .returned (.int .i64 (table_at.idx p l0)) ∧ Below w.heap.size w w' := by
 have HR := am_ hr
 have HP := am_ hp
 clear hr hp
 go_enter Tryd.func68, Tryd.ntmps68
 go_wp2
 go_loopg [5, 8] l0.length (fun gg _ s8 wr => ∃ kk : Nat, kk + gg = l0.length ∧ s8 = .int .i64 kk ∧ Aside0 (Below w.heap.size w wr) ∧ Aside0 (∀ (j : Nat) (h : j < l0.length), j < kk → p (l0[j]'h) = false))
 case atStart => exact ⟨0, by omega, rfl, ⟨Below.refl _ w⟩, ⟨fun j _ hj => absurd hj (Nat.not_lt_zero _)⟩⟩
 case round =>
  obtain ⟨kk, hg, rfl, BW, A⟩ := hrel
  by_cases hlt : kk < l0.length
  ·have hltz : (kk : Int) < (l0.length : Int) := by omega
   obtain ⟨ad, e1, h0, h1, h2, h3, h4, h5⟩ := at_T42 HR.out (kk : Int) (by omega) hltz
   cases e1
   rw [table_at.rd l0 kk hlt] at h0 h1 h2 h3 h4 h5
   rw [Int.toNat_natCast] at h0 h1 h2 h3 h4 h5
   obtain ⟨x, hx⟩ : ∃ x, l0[kk]'hlt = x := ⟨_, rfl⟩
   have B := am_ hx
   rw [hx] at h0 h1 h2 h3 h4 h5
   clear hx
   replace h0 := (BW.out.cell (wb_ w _ h0)).trans h0
   replace h1 := (BW.out.cell (wb_ w _ h1)).trans h1
   replace h2 := (BW.out.cell (wb_ w _ h2)).trans h2
   replace h3 := (BW.out.cell (wb_ w _ h3)).trans h3
   replace h4 := (BW.out.cell (wb_ w _ h4)).trans h4
   replace h5 := (BW.out.cell (wb_ w _ h5)).trans h5
   have hcall := HP.out wr x (by rw [← B.out]; exact List.getElem_mem hlt) BW.out
   cases hq : p x with
   | true =>
    rw [hq] at hcall
    have hq' := am_ hq
    clear hq
    go_wp2_with fail
    refine hcall.mono ?_
    rintro e w' ⟨rfl, hb'⟩
    go_wp2
    go_ret
    refine ⟨?_, bt_ BW.out hb'⟩
    rw [table_at.idx_hit p l0 kk hlt (by rw [B.out]; exact hq'.out) A.out]
    rfl
   | false =>
    rw [hq] at hcall
    have hq' := am_ hq
    clear hq
    go_wp2_with fail
    refine hcall.mono ?_
    rintro e w' ⟨rfl, hb'⟩
    go_wp2
    go_roundg (l0.length - (kk + 1))
    case measure => omega
    case rel =>
     refine ⟨kk + 1, by omega, by go_num, ⟨bt_ BW.out hb'⟩, ⟨fun j h hj => ?_⟩⟩
     by_cases e : j = kk
     ·subst e
      rw [B.out]
      exact hq'.out
     ·exact A.out j h (by omega)
  ·have hltz : ¬ (kk : Int) < (l0.length : Int) := by omega
   go_wp2
   go_ret
   refine ⟨?_, BW.out⟩
   rw [table_at.idx_miss p l0 (fun j hj => A.out j hj (by omega))]
   rfl
set_option maxHeartbeats 8000000 in
set_option maxRecDepth 100000 in
theorem table_at.closure (host : Int) (B : Nat) (x : S42) (w : World) (hc : w.cell? ⟨B, 0, none⟩ = some (.int .i64 host)) :
  Calls Tryd.prog 90 #[.agg #[.int .i64 x.f0, .int .i64 x.f1, .string x.f2, .int .i64 x.f3, .string x.f4, .bool x.f5], .pointer (some ⟨B, 0, none⟩)] w fun e w' => e = .returned (.bool (x.f0 == host)) ∧ Below w.heap.size w w' := by
 have hlt : B < w.heap.size := wb_ w _ hc
 have hne : B ≠ w.heap.size := by omega
 go_enter Tryd.func90, Tryd.ntmps90
 go_wp2
 go_ret
 exact ⟨rfl, by repeat (first | exact Below.refl _ _ | apply p3_ | apply p1_ | apply p2_)⟩
def table_at.f (l0 : List S42) (a1 : Int) : Option Int := if l0.length ≤ 140737488351232 then some (table_at.idx (fun x => x.f0 == a1) l0) else none
set_option maxHeartbeats 8000000 in
set_option maxRecDepth 100000 in
theorem table_at.calls (A0 : Option Addr) (c0 : Nat) (l0 : List (S42)) (a1 : Int) (r : Int) (w : World) (hr0 : Kd.C k42 w A0 l0.length l0) (hc0 : l0.length ≤ c0) (h : table_at.f l0 a1 = some r) :
  Calls Tryd.prog 77 #[.slice A0 l0.length c0, .int .i64 a1] w fun e w' => e = .returned (.int .i64 r) ∧ Below w.heap.size w w' := by
 unfold table_at.f at h
 by_cases hs : l0.length ≤ 140737488351232
 ·rw [if_pos hs] at h
  obtain rfl := e5_ h
  clear h
  have eg : ∀ args w, (callFunc 90 args).run Tryd.prog w = .ok (.enter 90 args) w := fun args w => enters_ Tryd.func90 (by kernel_rfl) rfl args w
  have hb := p3_ (Below.refl w.heap.size w) (.cells #[.int .i64 a1] 3)
  have hcell : (w.alloc (.cells #[.int .i64 a1] 3)).cell? ⟨w.heap.size, 0, none⟩ = some (.int .i64 a1) := (bc_ (blk_new w _) 0).trans rfl
  have hI := table_at.index (fun x => x.f0 == a1) 90 #[.pointer (some ⟨w.heap.size, 0, none⟩)] A0 c0 l0 (w.alloc (.cells #[.int .i64 a1] 3)) (c4_ hr0 hb) hs eg (fun W x _ hW => table_at.closure a1 w.heap.size x W ((hW.cell (p := ⟨w.heap.size, 0, none⟩) (wb_ _ _ hcell)).trans hcell))
  replace hI := am_ hI
  clear hcell eg hr0 hc0
  generalize table_at.idx (fun x => x.f0 == a1) l0 = r at hI ⊢
  go_enter Tryd.func77, Tryd.ntmps77
  go_wp2_with (first | (go_at_call 68; refine hI.out.mono ?_; rintro e w' ⟨rfl, hb'⟩))
  go_ret
  exact ⟨rfl, bt_ hb hb'⟩
 ·rw [if_neg hs] at h
  cases h

/-! ### table_Find: function 59 -/
def table_Find.f (l0 : List (S42)) (a1 : Int) : Option (Int × Int × ByteArray × Int × ByteArray × Bool × Bool) := (table_at.f l0 a1).bind fun t143 => (if t143 < 0 then (some (0, 0, (⟨#[]⟩ : ByteArray), 0, (⟨#[]⟩ : ByteArray), false, false)) else (if 0 ≤ t143 then (if t143 < (l0.length : Int) then (some ((rd_T42 l0 t143).f0, (rd_T42 l0 t143).f1, (rd_T42 l0 t143).f2, (rd_T42 l0 t143).f3, (rd_T42 l0 t143).f4, (rd_T42 l0 t143).f5, true)) else (none)) else (none)))
set_option maxHeartbeats 8000000 in
set_option maxRecDepth 100000 in
theorem table_Find.calls (A0 : Option Addr) (c0 : Nat) (l0 : List (S42)) (a1 : Int) (r1 : Int) (r2 : Int) (r3 : ByteArray) (r4 : Int) (r5 : ByteArray) (r6 : Bool) (r7 : Bool) (w : World) (hr0 : Kd.C k42 w A0 l0.length l0) (hc0 : l0.length ≤ c0) (h : table_Find.f l0 a1 = some (r1, r2, r3, r4, r5, r6, r7)) :
  Calls Tryd.prog 59 #[.slice A0 l0.length c0, .int .i64 a1] w fun e w' => e = .returned (.tuple #[.agg #[.int .i64 r1, .int .i64 r2, .string r3, .int .i64 r4, .string r5, .bool r6], .bool r7]) ∧ Below w.heap.size w w' := by
 have hu42 := Tryd.underlying42
 have HR0 := am_ hr0
 have HC0 := am_ hc0
 clear hr0 hc0
 have HB := am_ (Below.refl w.heap.size w)
 have H : ((table_at.f l0 a1).bind fun t143 => (if t143 < 0 then (some (0, 0, (⟨#[]⟩ : ByteArray), 0, (⟨#[]⟩ : ByteArray), false, false)) else (if 0 ≤ t143 then (if t143 < (l0.length : Int) then (some ((rd_T42 l0 t143).f0, (rd_T42 l0 t143).f1, (rd_T42 l0 t143).f2, (rd_T42 l0 t143).f3, (rd_T42 l0 t143).f4, (rd_T42 l0 t143).f5, true)) else (none)) else (none)))) = some (r1, r2, r3, r4, r5, r6, r7) := h
 clear h
 replace H := e4_ H
 obtain ⟨t143, A30, H⟩ := H
 replace H : (if t143 < 0 then (some (0, 0, (⟨#[]⟩ : ByteArray), 0, (⟨#[]⟩ : ByteArray), false, false)) else (if 0 ≤ t143 then (if t143 < (l0.length : Int) then (some ((rd_T42 l0 t143).f0, (rd_T42 l0 t143).f1, (rd_T42 l0 t143).f2, (rd_T42 l0 t143).f3, (rd_T42 l0 t143).f4, (rd_T42 l0 t143).f5, true)) else (none)) else (none))) = some (r1, r2, r3, r4, r5, r6, r7) := H
 have A3 := am_ A30
 clear A30
 by_cases c4 : t143 < 0
 ·rw [if_pos c4] at H
  have c4b0 : decide (t143 < 0) = true := decide_eq_true c4
  clear c4
  simp only [Option.some.injEq, Prod.mk.injEq] at H
  obtain ⟨rfl, rfl, rfl, rfl, rfl, rfl, rfl⟩ := H
  go_enter Tryd.func59, Tryd.ntmps59
  go_wp2_with (first | ((with_reducible refine gate_dst (N := 4) rfl ?_); refine box_event ?hg (N := 4) ?hd (cs := #[.int .i64 0, .int .i64 0, .string (⟨#[]⟩ : ByteArray), .int .i64 0, .string (⟨#[]⟩ : ByteArray), .bool false]) (t := 42) ?hr ?_; (case hd => rfl); (case hg => rfl); (case hr => first | (go_simp; done) | (go_simp; rfl)); intro gb142 hg w5 hbox hb; have n0_ := am_ (bt_ (by repeat (with_reducible first | exact HB.out | apply p3_ | apply p1_ | apply p2_)) hb); have n1_ := am_ (hbox); have n2_ := am_ ((by rw [hg]; exact (bz_ (by repeat (with_reducible first | exact HB.out | apply p3_ | apply p1_ | apply p2_))) : w.heap.size ≤ gb142)); have n3_ := am_ ((by rw [hg]; exact (bz_ (by repeat (with_reducible first | exact HB.out | apply p3_ | apply p1_ | apply p2_))) : w.heap.size ≤ gb142)); clear HB; have HB := n0_; have BK142 := n1_; have GW142 := n2_; have GE142 := n3_; clear n0_ n1_ n2_ n3_; clear hb hbox hg) | ((with_reducible refine gate_callee (f := 77) rfl ?_); refine goesL_ (some 9) rfl rfl Tryd.func77 (by kernel_rfl) rfl #[.slice A0 l0.length c0, .int .i64 a1] rfl (by (try simp only [List.map_toArray, List.map_cons, List.map_nil]); first | done | rfl | (simp only [List.length_drop, List.length_take]; rfl)) ?_; (with_reducible refine (table_at.calls _ _ l0 a1 t143 _ ?side1 ?side2 A3.out).mono ?_); (case side1 => repeat (first | exact (c4_ HR0.out HB.out) | (with_reducible refine c1_ ?_ _) | (with_reducible refine c2_ ?_ _) | (with_reducible refine c3_ ?_))); (case side2 => exact HC0.out); rintro e w6 ⟨rfl, hb⟩; refine ⟨_, rfl, ?_⟩; have n0_ := am_ (kb_ (g := gb142) (o := .cells #[.int .i64 0, .int .i64 0, .string (⟨#[]⟩ : ByteArray), .int .i64 0, .string (⟨#[]⟩ : ByteArray), .bool false] 42 (0, 0)) (by (with_reducible repeat (first | refine k2_ ?_ _ | refine k3_ ?_ | refine k1_ ?_ _)); exact BK142.out) hb); have n1_ := am_ (bt_ (by repeat (with_reducible first | exact HB.out | apply p3_ | apply p1_ | apply p2_ | refine bs_ ?_ GE142.out)) hb); clear BK142; clear HB; have BK142 := n0_; have HB := n1_; clear n0_ n1_; (try clear hb); have hcz7_0 : w6.cell? ⟨gb142, 0, none⟩ = some (.int .i64 0) := (bc_ BK142.out 0).trans rfl; have hcz7_1 : w6.cell? ⟨gb142, 1, none⟩ = some (.int .i64 0) := (bc_ BK142.out 1).trans rfl; have hcz7_2 : w6.cell? ⟨gb142, 2, none⟩ = some (.string (⟨#[]⟩ : ByteArray)) := (bc_ BK142.out 2).trans rfl; have hcz7_3 : w6.cell? ⟨gb142, 3, none⟩ = some (.int .i64 0) := (bc_ BK142.out 3).trans rfl; have hcz7_4 : w6.cell? ⟨gb142, 4, none⟩ = some (.string (⟨#[]⟩ : ByteArray)) := (bc_ BK142.out 4).trans rfl; have hcz7_5 : w6.cell? ⟨gb142, 5, none⟩ = some (.bool false) := (bc_ BK142.out 5).trans rfl; have hfz7_0 := bf_ BK142.out 0; have hfz7_1 := bf_ BK142.out 1; have hfz7_2 := bf_ BK142.out 2; have hfz7_3 := bf_ BK142.out 3; have hfz7_4 := bf_ BK142.out 4; have hfz7_5 := bf_ BK142.out 5))
  refine bodyPost_ret (results_ct rfl _ _ gb142 42 #[.int .i64 0, .int .i64 0, .string (⟨#[]⟩ : ByteArray), .int .i64 0, .string (⟨#[]⟩ : ByteArray), .bool false] (0, 0) _ rfl (by (with_reducible repeat (first | refine k2_ ?_ _ | refine k3_ ?_ | refine k1_ ?_ _)); refine blk_put (cs := #[.int .i64 0, .int .i64 0, .string (⟨#[]⟩ : ByteArray), .int .i64 0, .string (⟨#[]⟩ : ByteArray), .bool false]) ?_ 5 _ rfl; (with_reducible repeat (first | refine k2_ ?_ _ | refine k3_ ?_ | refine k1_ ?_ _)); refine blk_put (cs := #[.int .i64 0, .int .i64 0, .string (⟨#[]⟩ : ByteArray), .int .i64 0, .string (⟨#[]⟩ : ByteArray), .bool false]) ?_ 4 _ rfl; (with_reducible repeat (first | refine k2_ ?_ _ | refine k3_ ?_ | refine k1_ ?_ _)); refine blk_put (cs := #[.int .i64 0, .int .i64 0, .string (⟨#[]⟩ : ByteArray), .int .i64 0, .string (⟨#[]⟩ : ByteArray), .bool false]) ?_ 3 _ rfl; (with_reducible repeat (first | refine k2_ ?_ _ | refine k3_ ?_ | refine k1_ ?_ _)); refine blk_put (cs := #[.int .i64 0, .int .i64 0, .string (⟨#[]⟩ : ByteArray), .int .i64 0, .string (⟨#[]⟩ : ByteArray), .bool false]) ?_ 2 _ rfl; (with_reducible repeat (first | refine k2_ ?_ _ | refine k3_ ?_ | refine k1_ ?_ _)); refine blk_put (cs := #[.int .i64 0, .int .i64 0, .string (⟨#[]⟩ : ByteArray), .int .i64 0, .string (⟨#[]⟩ : ByteArray), .bool false]) ?_ 1 _ rfl; (with_reducible repeat (first | refine k2_ ?_ _ | refine k3_ ?_ | refine k1_ ?_ _)); refine blk_put (cs := #[.int .i64 0, .int .i64 0, .string (⟨#[]⟩ : ByteArray), .int .i64 0, .string (⟨#[]⟩ : ByteArray), .bool false]) ?_ 0 _ rfl; (with_reducible repeat (first | refine k2_ ?_ _ | refine k3_ ?_ | refine k1_ ?_ _)); exact BK142.out) Tryd.underlying42 rfl (by kernel_rfl)) rfl ?_
  exact ⟨by first | rfl | (simp [errW_none, errW_some] <;> rfl) | (simp [*, errW_none, errW_some] <;> rfl), by repeat (with_reducible first | exact HB.out | apply p3_ | apply p1_ | apply p2_ | refine bs_ ?_ GE142.out)⟩
 rw [if_neg c4] at H
 have c4b0 : decide (t143 < 0) = false := decide_eq_false c4
 clear c4
 by_cases c8 : 0 ≤ t143
 rotate_left
 ·rw [if_neg c8] at H
  exact absurd H (by simp)
 rw [if_pos c8] at H
 have c8b0 : decide (0 ≤ t143) = true := decide_eq_true c8
 clear c8
 by_cases c9 : t143 < (l0.length : Int)
 rotate_left
 ·rw [if_neg c9] at H
  exact absurd H (by simp)
 rw [if_pos c9] at H
 have c9b0 : decide (t143 < (l0.length : Int)) = true := decide_eq_true c9
 clear c9
 simp only [Option.some.injEq, Prod.mk.injEq] at H
 obtain ⟨rfl, rfl, rfl, rfl, rfl, rfl, rfl⟩ := H
 go_enter Tryd.func59, Tryd.ntmps59
 go_wp2_with (first | ((with_reducible refine gate_dst (N := 4) rfl ?_); refine box_event ?hg (N := 4) ?hd (cs := #[.int .i64 0, .int .i64 0, .string (⟨#[]⟩ : ByteArray), .int .i64 0, .string (⟨#[]⟩ : ByteArray), .bool false]) (t := 42) ?hr ?_; (case hd => rfl); (case hg => rfl); (case hr => first | (go_simp; done) | (go_simp; rfl)); intro gb142 hg w10 hbox hb; have n0_ := am_ (bt_ (by repeat (with_reducible first | exact HB.out | apply p3_ | apply p1_ | apply p2_)) hb); have n1_ := am_ (hbox); have n2_ := am_ ((by rw [hg]; exact (bz_ (by repeat (with_reducible first | exact HB.out | apply p3_ | apply p1_ | apply p2_))) : w.heap.size ≤ gb142)); have n3_ := am_ ((by rw [hg]; exact (bz_ (by repeat (with_reducible first | exact HB.out | apply p3_ | apply p1_ | apply p2_))) : w.heap.size ≤ gb142)); clear HB; have HB := n0_; have BK142 := n1_; have GW142 := n2_; have GE142 := n3_; clear n0_ n1_ n2_ n3_; clear hb hbox hg) | ((with_reducible refine gate_callee (f := 77) rfl ?_); refine goesL_ (some 9) rfl rfl Tryd.func77 (by kernel_rfl) rfl #[.slice A0 l0.length c0, .int .i64 a1] rfl (by (try simp only [List.map_toArray, List.map_cons, List.map_nil]); first | done | rfl | (simp only [List.length_drop, List.length_take]; rfl)) ?_; (with_reducible refine (table_at.calls _ _ l0 a1 t143 _ ?side1 ?side2 A3.out).mono ?_); (case side1 => repeat (first | exact (c4_ HR0.out HB.out) | (with_reducible refine c1_ ?_ _) | (with_reducible refine c2_ ?_ _) | (with_reducible refine c3_ ?_))); (case side2 => exact HC0.out); rintro e w11 ⟨rfl, hb⟩; refine ⟨_, rfl, ?_⟩; have n0_ := am_ (kb_ (g := gb142) (o := .cells #[.int .i64 0, .int .i64 0, .string (⟨#[]⟩ : ByteArray), .int .i64 0, .string (⟨#[]⟩ : ByteArray), .bool false] 42 (0, 0)) (by (with_reducible repeat (first | refine k2_ ?_ _ | refine k3_ ?_ | refine k1_ ?_ _)); exact BK142.out) hb); have n1_ := am_ (bt_ (by repeat (with_reducible first | exact HB.out | apply p3_ | apply p1_ | apply p2_ | refine bs_ ?_ GE142.out)) hb); clear BK142; clear HB; have BK142 := n0_; have HB := n1_; clear n0_ n1_; (try clear hb); have p144 : 0 ≤ (t143 : Int) := of_decide_eq_true (by first | (with_reducible assumption) | assumption); have q144 : t143 < (l0.length : Int) := of_decide_eq_true (by first | (with_reducible assumption) | assumption); obtain ⟨ad144, e144, hx144_0, hx144_1, hx144_2, hx144_3, hx144_4, hx144_5⟩ := at_T42 HR0.out t143 p144 q144; cases e144; replace hx144_0 := (HB.out.cell (wb_ w _ hx144_0)).trans hx144_0; replace hx144_1 := (HB.out.cell (wb_ w _ hx144_1)).trans hx144_1; replace hx144_2 := (HB.out.cell (wb_ w _ hx144_2)).trans hx144_2; replace hx144_3 := (HB.out.cell (wb_ w _ hx144_3)).trans hx144_3; replace hx144_4 := (HB.out.cell (wb_ w _ hx144_4)).trans hx144_4; replace hx144_5 := (HB.out.cell (wb_ w _ hx144_5)).trans hx144_5; replace p144 := eq_true p144; replace q144 := eq_true q144; have hcz12_0 : w11.cell? ⟨gb142, 0, none⟩ = some (.int .i64 0) := (bc_ BK142.out 0).trans rfl; have hcz12_1 : w11.cell? ⟨gb142, 1, none⟩ = some (.int .i64 0) := (bc_ BK142.out 1).trans rfl; have hcz12_2 : w11.cell? ⟨gb142, 2, none⟩ = some (.string (⟨#[]⟩ : ByteArray)) := (bc_ BK142.out 2).trans rfl; have hcz12_3 : w11.cell? ⟨gb142, 3, none⟩ = some (.int .i64 0) := (bc_ BK142.out 3).trans rfl; have hcz12_4 : w11.cell? ⟨gb142, 4, none⟩ = some (.string (⟨#[]⟩ : ByteArray)) := (bc_ BK142.out 4).trans rfl; have hcz12_5 : w11.cell? ⟨gb142, 5, none⟩ = some (.bool false) := (bc_ BK142.out 5).trans rfl; have hfz12_0 := bf_ BK142.out 0; have hfz12_1 := bf_ BK142.out 1; have hfz12_2 := bf_ BK142.out 2; have hfz12_3 := bf_ BK142.out 3; have hfz12_4 := bf_ BK142.out 4; have hfz12_5 := bf_ BK142.out 5))
 refine bodyPost_ret (results_ct rfl _ _ gb142 42 #[.int .i64 ((rd_T42 l0 t143).f0), .int .i64 ((rd_T42 l0 t143).f1), .string ((rd_T42 l0 t143).f2), .int .i64 ((rd_T42 l0 t143).f3), .string ((rd_T42 l0 t143).f4), .bool ((rd_T42 l0 t143).f5)] (0, 0) _ rfl (by (with_reducible repeat (first | refine k2_ ?_ _ | refine k3_ ?_ | refine k1_ ?_ _)); refine blk_put (cs := #[.int .i64 ((rd_T42 l0 t143).f0), .int .i64 ((rd_T42 l0 t143).f1), .string ((rd_T42 l0 t143).f2), .int .i64 ((rd_T42 l0 t143).f3), .string ((rd_T42 l0 t143).f4), .bool false]) ?_ 5 _ rfl; (with_reducible repeat (first | refine k2_ ?_ _ | refine k3_ ?_ | refine k1_ ?_ _)); refine blk_put (cs := #[.int .i64 ((rd_T42 l0 t143).f0), .int .i64 ((rd_T42 l0 t143).f1), .string ((rd_T42 l0 t143).f2), .int .i64 ((rd_T42 l0 t143).f3), .string (⟨#[]⟩ : ByteArray), .bool false]) ?_ 4 _ rfl; (with_reducible repeat (first | refine k2_ ?_ _ | refine k3_ ?_ | refine k1_ ?_ _)); refine blk_put (cs := #[.int .i64 ((rd_T42 l0 t143).f0), .int .i64 ((rd_T42 l0 t143).f1), .string ((rd_T42 l0 t143).f2), .int .i64 0, .string (⟨#[]⟩ : ByteArray), .bool false]) ?_ 3 _ rfl; (with_reducible repeat (first | refine k2_ ?_ _ | refine k3_ ?_ | refine k1_ ?_ _)); refine blk_put (cs := #[.int .i64 ((rd_T42 l0 t143).f0), .int .i64 ((rd_T42 l0 t143).f1), .string (⟨#[]⟩ : ByteArray), .int .i64 0, .string (⟨#[]⟩ : ByteArray), .bool false]) ?_ 2 _ rfl; (with_reducible repeat (first | refine k2_ ?_ _ | refine k3_ ?_ | refine k1_ ?_ _)); refine blk_put (cs := #[.int .i64 ((rd_T42 l0 t143).f0), .int .i64 0, .string (⟨#[]⟩ : ByteArray), .int .i64 0, .string (⟨#[]⟩ : ByteArray), .bool false]) ?_ 1 _ rfl; (with_reducible repeat (first | refine k2_ ?_ _ | refine k3_ ?_ | refine k1_ ?_ _)); refine blk_put (cs := #[.int .i64 0, .int .i64 0, .string (⟨#[]⟩ : ByteArray), .int .i64 0, .string (⟨#[]⟩ : ByteArray), .bool false]) ?_ 0 _ rfl; (with_reducible repeat (first | refine k2_ ?_ _ | refine k3_ ?_ | refine k1_ ?_ _)); exact BK142.out) Tryd.underlying42 rfl (by kernel_rfl)) rfl ?_
 exact ⟨by first | rfl | (simp [errW_none, errW_some] <;> rfl) | (simp [*, errW_none, errW_some] <;> rfl), by repeat (with_reducible first | exact HB.out | apply p3_ | apply p1_ | apply p2_ | refine bs_ ?_ GE142.out)⟩

/-! ### table_Find_c: function 59 -/
theorem find_idx (l : List S42) (h : Int) : (table_at.idx (fun x => x.f0 == h) l < 0 ∧ findL l h = none) ∨ ∃ (i : Nat) (hi : i < l.length), table_at.idx (fun x => x.f0 == h) l = (i : Int) ∧ findL l h = some (l[i]'hi) := by
 unfold table_at.idx findL
 cases e : l.findIdx? (fun x => x.f0 == h) with
 | none =>
  left
  refine ⟨by simp, List.find?_eq_none.2 fun x hx => ?_⟩
  have := List.findIdx?_eq_none_iff.1 e x hx
  simpa using this
 | some i =>
  right
  obtain ⟨hi, h1, h2⟩ := List.findIdx?_eq_some_iff_getElem.1 e
  exact ⟨i, hi, rfl, List.find?_eq_some_iff_getElem.2 ⟨h1, i, hi, rfl, fun j hj => by simpa using h2 j hj⟩⟩
def table_Find_c.f (l0 : List S42) (a1 : Int) : Option (Int × Int × ByteArray × Int × ByteArray × Bool × Bool) := if l0.length ≤ 140737488351232 then some ((gotL (findL l0 a1)).f0, (gotL (findL l0 a1)).f1, (gotL (findL l0 a1)).f2, (gotL (findL l0 a1)).f3, (gotL (findL l0 a1)).f4, (gotL (findL l0 a1)).f5, (findL l0 a1).isSome) else none
theorem table_Find_c.calls (A0 : Option Addr) (c0 : Nat) (l0 : List S42) (a1 : Int) (r1 : Int) (r2 : Int) (r3 : ByteArray) (r4 : Int) (r5 : ByteArray) (r6 : Bool) (r7 : Bool) (w : World) (hr0 : Kd.C k42 w A0 l0.length l0) (hc0 : l0.length ≤ c0) (h : table_Find_c.f l0 a1 = some (r1, r2, r3, r4, r5, r6, r7)) :
  Calls Tryd.prog 59 #[.slice A0 l0.length c0, .int .i64 a1] w fun e w' => e = .returned (.tuple #[.agg #[.int .i64 r1, .int .i64 r2, .string r3, .int .i64 r4, .string r5, .bool r6], .bool r7]) ∧ Below w.heap.size w w' := by
 unfold table_Find_c.f at h
 by_cases hs : l0.length ≤ 140737488351232
 ·rw [if_pos hs] at h
  refine table_Find.calls A0 c0 l0 a1 r1 r2 r3 r4 r5 r6 r7 w hr0 hc0 ?_
  unfold table_Find.f table_at.f
  rw [if_pos hs, Option.bind_some, ← h]
  rcases find_idx l0 a1 with ⟨h1, h2⟩ | ⟨i, hi, h1, h2⟩
  ·rw [if_pos h1, h2]
   rfl
  ·rw [h1, if_neg (by omega), if_pos (by omega), if_pos (by omega), h2, table_at.rd l0 i hi]
   rfl
 ·rw [if_neg hs] at h
  cases h

/-! ### lease_Live: function 54 -/
-- BY HAND
def lease_Live.f (a0_0 : Int) (a0_1 : Int) (a0_2 : ByteArray) (a0_3 : Int) (a0_4 : ByteArray) (a0_5 : Bool) (a1 : Int) : Option Bool := if a0_4.size ≤ 140737488351232 then some (liveB a0_0 a0_1 a0_2 a0_3 a0_4 a0_5 a1) else none
set_option maxHeartbeats 8000000 in
set_option maxRecDepth 100000 in
theorem lease_Live.calls (a0_0 : Int) (a0_1 : Int) (a0_2 : ByteArray) (a0_3 : Int) (a0_4 : ByteArray) (a0_5 : Bool) (a1 : Int) (r : Bool) (w : World) (h : lease_Live.f a0_0 a0_1 a0_2 a0_3 a0_4 a0_5 a1 = some r) :
  Calls Tryd.prog 54 #[.agg #[.int .i64 a0_0, .int .i64 a0_1, .string a0_2, .int .i64 a0_3, .string a0_4, .bool a0_5], .int .i64 a1] w fun e w' => e = .returned (.bool r) ∧ Below w.heap.size w w' := by
 unfold lease_Live.f at h
 by_cases hs : a0_4.size ≤ 140737488351232
 rotate_left
 ·rw [if_neg hs] at h
  cases h
 rw [if_pos hs] at h
 have HR := e5_ h
 unfold liveB at HR
 obtain ⟨b1, h1⟩ : ∃ b, leaseB a0_0 a0_1 a0_2 a0_3 a0_4 a0_5 = b := ⟨_, rfl⟩
 rw [h1] at HR
 have C1 := am_ (fun W => lease_May.calls a0_0 a0_1 a0_2 a0_3 a0_4 a0_5 b1 W (by unfold lease_May.f; rw [if_pos hs, h1]))
 have BK := am_ (blk_new w (.cells #[.int .i64 a0_0, .int .i64 a0_1, .string a0_2, .int .i64 a0_3, .string a0_4, .bool a0_5] 42))
 have HB := am_ (Below.refl w.heap.size w)
 replace HR := am_ HR
 clear h hs h1
 go_enter Tryd.func54, Tryd.ntmps54
 go_wp2_with (first
  | (go_at_call 74; (with_reducible refine (C1.out _).mono ?_); rintro e w1 ⟨rfl, hb2⟩; replace BK := am_ (kb_ (show _ from (by (with_reducible repeat (first | exact BK.out | refine k2_ ?_ _ | refine k3_ ?_ | refine k1_ ?_ _)))) hb2); replace HB := am_ (bt_ (show Below w.heap.size w _ by repeat (with_reducible first | exact HB.out | apply p3_ | apply p1_ | apply p2_)) hb2); clear hb2; have u0 := bc_ BK.out 0; have u1 := bc_ BK.out 1; have u2 := bc_ BK.out 2; have u3 := bc_ BK.out 3; have u4 := bc_ BK.out 4; have u5 := bc_ BK.out 5))
 all_goals (try go_ret)
 all_goals refine ⟨ret_bool ?_, ?_⟩
 all_goals first
  | ((repeat (with_reducible first | exact HB.out | apply p3_ | apply p1_ | apply p2_)); done)
  | (rw [← HR.out]; clear HR HB C1 BK; (try clear v0 v1 v2 v3 v4 v5); (try clear u0 u1 u2 u3 u4 u5); rw [Bool.eq_iff_iff]; (simp_all; done))
  | (rw [← HR.out]; clear HR HB C1 BK; simp_all <;> omega)

/-! ### lease_Holds: function 40 -/
-- BY HAND
set_option maxHeartbeats 8000000 in
set_option maxRecDepth 100000 in
theorem lease_Holds.calls (g : Nat) (s0 s1 : Int) (s2 : ByteArray) (s3 : Int) (s4 : ByteArray) (s5 : Bool) (c : ByteArray) (now : Int) (r : Bool) (w : World) (hb : w.heap[g]? = some (.cells #[.int .i64 s0, .int .i64 s1, .string s2, .int .i64 s3, .string s4, .bool s5] 42)) (hs : s4.size ≤ 140737488351232) (h : holdsB s0 s1 s2 s3 s4 s5 c now = r) :
  Calls Tryd.prog 40 #[.pointer (some ⟨g, 0, none⟩), .string c, .int .i64 now] w fun e w' => e = .returned (.bool r) ∧ Below w.heap.size w w' := by
 unfold holdsB at h
 obtain ⟨b1, h1⟩ : ∃ b, liveB s0 s1 s2 s3 s4 s5 now = b := ⟨_, rfl⟩
 rw [h1] at h
 have C1 := am_ (fun W => lease_Live.calls s0 s1 s2 s3 s4 s5 now b1 W (by unfold lease_Live.f; rw [if_pos hs, h1]))
 have HR := am_ h
 have HB := am_ (Below.refl w.heap.size w)
 have BK := am_ hb
 have v0 := bc_ hb 0
 have v1 := bc_ hb 1
 have v2 := bc_ hb 2
 have v3 := bc_ hb 3
 have v4 := bc_ hb 4
 have v5 := bc_ hb 5
 clear h hb hs h1
 go_enter Tryd.func40, Tryd.ntmps40
 go_wp2_with (first
  | (go_at_call 54; (with_reducible refine (C1.out _).mono ?_); rintro e w1 ⟨rfl, hb2⟩; replace BK := am_ (kb_ (show _ from (by (with_reducible repeat (first | exact BK.out | refine k2_ ?_ _ | refine k3_ ?_ | refine k1_ ?_ _)))) hb2); replace HB := am_ (bt_ (show Below w.heap.size w _ by repeat (with_reducible first | exact HB.out | apply p3_ | apply p1_ | apply p2_)) hb2); clear hb2; have u0 := bc_ BK.out 0; have u1 := bc_ BK.out 1; have u2 := bc_ BK.out 2; have u3 := bc_ BK.out 3; have u4 := bc_ BK.out 4; have u5 := bc_ BK.out 5))
 all_goals (try go_ret)
 all_goals refine ⟨ret_bool ?_, ?_⟩
 all_goals first
  | ((repeat (with_reducible first | exact HB.out | apply p3_ | apply p1_ | apply p2_)); done)
  | (rw [← HR.out]; clear HR HB C1 BK; (try clear v0 v1 v2 v3 v4 v5); (try clear u0 u1 u2 u3 u4 u5); rw [Bool.eq_iff_iff]; (simp_all; done))
  | (rw [← HR.out]; clear HR HB C1 BK; simp_all <;> omega)

/-! ### pinfoldref11_FindLease: function 30 -/
def pinfoldref11_FindLease.l0 : Nat → List (S42) → Int → Int → Option (Int × Int × ByteArray × Int × ByteArray × Bool × Bool)
 | 0, _, _, _ => none
 | k + 1, x0, x1, x6 => if x6 < (x0.length : Int) then (if 0 ≤ x6 then (if ((rd_T42 x0 x6).f0) = x1 then (some ((rd_T42 x0 x6).f0, (rd_T42 x0 x6).f1, (rd_T42 x0 x6).f2, (rd_T42 x0 x6).f3, (rd_T42 x0 x6).f4, (rd_T42 x0 x6).f5, true)) else (pinfoldref11_FindLease.l0 k x0 x1 (wrap64 (x6 + 1)))) else (none)) else (some (0, 0, (⟨#[]⟩ : ByteArray), 0, (⟨#[]⟩ : ByteArray), false, false))
def pinfoldref11_FindLease.f (k : Nat) (l0 : List (S42)) (a1 : Int) : Option (Int × Int × ByteArray × Int × ByteArray × Bool × Bool) := pinfoldref11_FindLease.l0 k l0 a1 0
theorem pinfoldref11_FindLease.mono_l : ∀ k, (∀ y0 y1 y2, LeO (pinfoldref11_FindLease.l0 k y0 y1 y2) (pinfoldref11_FindLease.l0 (k + 1) y0 y1 y2))
 | 0 => fun _ _ _ r h => by simp [pinfoldref11_FindLease.l0] at h
 | k + 1 => by
  have ih0 := pinfoldref11_FindLease.mono_l k
  ·intro y0 y1 y2
   unfold pinfoldref11_FindLease.l0
   repeat' first
   | (with_reducible exact ih0 _ _ _)
   | (with_reducible exact LeO.refl _)
   | (with_reducible exact LeO.none _)
   | (with_reducible refine LeO.ite ?_ ?_)
   | (with_reducible refine LeO.bind ?_ (fun _ => ?_))
   | exact ih0 _ _ _
   | exact LeO.none _
   | refine LeO.ite ?_ ?_
   | refine LeO.bind ?_ (fun _ => ?_)
theorem pinfoldref11_FindLease.mono : ∀ a0 a1 k, LeO (pinfoldref11_FindLease.f k a0 a1) (pinfoldref11_FindLease.f (k + 1) a0 a1) := by
 intro a0 a1 k
 have ih0 := pinfoldref11_FindLease.mono_l k
 unfold pinfoldref11_FindLease.f
 repeat' first
   | (with_reducible exact ih0 _ _ _)
   | (with_reducible exact LeO.refl _)
   | (with_reducible exact LeO.none _)
   | (with_reducible refine LeO.ite ?_ ?_)
   | (with_reducible refine LeO.bind ?_ (fun _ => ?_))
   | exact ih0 _ _ _
   | exact LeO.none _
   | refine LeO.ite ?_ ?_
   | refine LeO.bind ?_ (fun _ => ?_)
set_option maxHeartbeats 8000000 in
set_option maxRecDepth 100000 in
theorem pinfoldref11_FindLease.calls (k : Nat) (A0 : Option Addr) (c0 : Nat) (l0 : List (S42)) (a1 : Int) (r1 : Int) (r2 : Int) (r3 : ByteArray) (r4 : Int) (r5 : ByteArray) (r6 : Bool) (r7 : Bool) (w : World) (hr0 : Kd.C k42 w A0 l0.length l0) (hc0 : l0.length ≤ c0) (h : pinfoldref11_FindLease.f k l0 a1 = some (r1, r2, r3, r4, r5, r6, r7)) :
  Calls Tryd.prog 30 #[.slice A0 l0.length c0, .int .i64 a1] w fun e w' => e = .returned (.tuple #[.agg #[.int .i64 r1, .int .i64 r2, .string r3, .int .i64 r4, .string r5, .bool r6], .bool r7]) ∧ Below w.heap.size w w' := by
 have hu42 := Tryd.underlying42
 have HR0 := am_ hr0
 have HC0 := am_ hc0
 clear hr0 hc0
 have HB := am_ (Below.refl w.heap.size w)
 have H : (pinfoldref11_FindLease.l0 k l0 a1 0) = some (r1, r2, r3, r4, r5, r6, r7) := h
 clear h
 have H' := am_ H
 clear H
 go_enter Tryd.func30, Tryd.ntmps30
 go_wp2_with (first | ((with_reducible refine gate_dst (N := 4) rfl ?_); refine box_event ?hg (N := 4) ?hd (cs := #[.int .i64 0, .int .i64 0, .string (⟨#[]⟩ : ByteArray), .int .i64 0, .string (⟨#[]⟩ : ByteArray), .bool false]) (t := 42) ?hr ?_; (case hd => rfl); (case hg => rfl); (case hr => first | (go_simp; done) | (go_simp; rfl)); intro gb145 hg w3 hbox hb; have n0_ := am_ (bt_ (by repeat (with_reducible first | exact HB.out | apply p3_ | apply p1_ | apply p2_)) hb); have n1_ := am_ (hbox); have n2_ := am_ ((by rw [hg]; exact (bz_ (by repeat (with_reducible first | exact HB.out | apply p3_ | apply p1_ | apply p2_))) : w.heap.size ≤ gb145)); have n3_ := am_ ((by rw [hg]; exact (bz_ (by repeat (with_reducible first | exact HB.out | apply p3_ | apply p1_ | apply p2_))) : w.heap.size ≤ gb145)); clear HB; have HB := n0_; have BK145 := n1_; have GW145 := n2_; have GE145 := n3_; clear n0_ n1_ n2_ n3_; clear hb hbox hg))
 go_loopg [6] k (fun kq v6 w' => ∃ (x6_1 : Int) (x146000_1 : Int) (x146001_1 : Int) (x146002_1 : ByteArray) (x146003_1 : Int) (x146004_1 : ByteArray) (x146005_1 : Bool), v6 = .int .i64 x6_1 ∧ Aside0 (pinfoldref11_FindLease.l0 kq l0 a1 x6_1 = some (r1, r2, r3, r4, r5, r6, r7)) ∧ Aside0 (kq ≤ k) ∧ Aside0 (w'.heap[gb145]? = some (.cells #[.int .i64 x146000_1, .int .i64 x146001_1, .string x146002_1, .int .i64 x146003_1, .string x146004_1, .bool x146005_1] 42 (0, 0))) ∧ Aside0 (Below w.heap.size w w'))
 case atStart => exact ⟨(0), (0), (0), ((⟨#[]⟩ : ByteArray)), (0), ((⟨#[]⟩ : ByteArray)), (false), (by first | rfl | (simp; done) | (simp [*]; done)), H', ⟨Nat.le_refl _⟩, ⟨by (with_reducible repeat (first | refine k2_ ?_ _ | refine k3_ ?_ | refine k1_ ?_ _)); exact BK145.out⟩, ⟨by repeat (with_reducible first | exact HB.out | apply p3_ | apply p1_ | apply p2_ | refine bs_ ?_ GE145.out)⟩⟩
 case round =>
  clear H'
  obtain ⟨x6_1, x146000_1, x146001_1, x146002_1, x146003_1, x146004_1, x146005_1, rfl, HA, HK1, BK145, HB⟩ := hrel
  cases gk with
  | zero => exact absurd HA.out (by simp [pinfoldref11_FindLease.l0])
  | succ k1 =>
   have H := HA.out
   clear HA
   simp only [pinfoldref11_FindLease.l0] at H
   by_cases c4 : x6_1 < (l0.length : Int)
   ·rw [if_pos c4] at H
    have c4b0 : decide (x6_1 < (l0.length : Int)) = true := decide_eq_true c4
    clear c4
    by_cases c5 : 0 ≤ x6_1
    rotate_left
    ·rw [if_neg c5] at H
     exact absurd H (by simp)
    rw [if_pos c5] at H
    have c5b0 : decide (0 ≤ x6_1) = true := decide_eq_true c5
    clear c5
    by_cases c6 : ((rd_T42 l0 x6_1).f0) = a1
    ·rw [if_pos c6] at H
     have c6b0 : (((rd_T42 l0 x6_1).f0) == a1) = true := beq_iff_eq.mpr c6
     have c6b1 : (((rd_T42 l0 x6_1).f0) != a1) = false := e1_ c6
     clear c6
     simp only [Option.some.injEq, Prod.mk.injEq] at H
     obtain ⟨rfl, rfl, rfl, rfl, rfl, rfl, rfl⟩ := H
     have p146 : 0 ≤ (x6_1 : Int) := of_decide_eq_true (by first | (with_reducible assumption) | assumption)
     have q146 : x6_1 < (l0.length : Int) := of_decide_eq_true (by first | (with_reducible assumption) | assumption)
     obtain ⟨ad146, e146, hx146_0, hx146_1, hx146_2, hx146_3, hx146_4, hx146_5⟩ := at_T42 HR0.out x6_1 p146 q146
     cases e146
     replace hx146_0 := (HB.out.cell (wb_ w _ hx146_0)).trans hx146_0
     replace hx146_1 := (HB.out.cell (wb_ w _ hx146_1)).trans hx146_1
     replace hx146_2 := (HB.out.cell (wb_ w _ hx146_2)).trans hx146_2
     replace hx146_3 := (HB.out.cell (wb_ w _ hx146_3)).trans hx146_3
     replace hx146_4 := (HB.out.cell (wb_ w _ hx146_4)).trans hx146_4
     replace hx146_5 := (HB.out.cell (wb_ w _ hx146_5)).trans hx146_5
     replace p146 := eq_true p146
     replace q146 := eq_true q146
     have p147 : 0 ≤ (x6_1 : Int) := of_decide_eq_true (by first | (with_reducible assumption) | assumption)
     have q147 : x6_1 < (l0.length : Int) := of_decide_eq_true (by first | (with_reducible assumption) | assumption)
     obtain ⟨ad147, e147, hx147_0, hx147_1, hx147_2, hx147_3, hx147_4, hx147_5⟩ := at_T42 HR0.out x6_1 p147 q147
     obtain rfl : ad146 = ad147 := (by injection e147)
     replace hx147_0 := (HB.out.cell (wb_ w _ hx147_0)).trans hx147_0
     replace hx147_1 := (HB.out.cell (wb_ w _ hx147_1)).trans hx147_1
     replace hx147_2 := (HB.out.cell (wb_ w _ hx147_2)).trans hx147_2
     replace hx147_3 := (HB.out.cell (wb_ w _ hx147_3)).trans hx147_3
     replace hx147_4 := (HB.out.cell (wb_ w _ hx147_4)).trans hx147_4
     replace hx147_5 := (HB.out.cell (wb_ w _ hx147_5)).trans hx147_5
     replace p147 := eq_true p147
     replace q147 := eq_true q147
     have hcz7_0 : wr.cell? ⟨gb145, 0, none⟩ = some (.int .i64 x146000_1) := (bc_ BK145.out 0).trans rfl; have hcz7_1 : wr.cell? ⟨gb145, 1, none⟩ = some (.int .i64 x146001_1) := (bc_ BK145.out 1).trans rfl; have hcz7_2 : wr.cell? ⟨gb145, 2, none⟩ = some (.string x146002_1) := (bc_ BK145.out 2).trans rfl; have hcz7_3 : wr.cell? ⟨gb145, 3, none⟩ = some (.int .i64 x146003_1) := (bc_ BK145.out 3).trans rfl; have hcz7_4 : wr.cell? ⟨gb145, 4, none⟩ = some (.string x146004_1) := (bc_ BK145.out 4).trans rfl; have hcz7_5 : wr.cell? ⟨gb145, 5, none⟩ = some (.bool x146005_1) := (bc_ BK145.out 5).trans rfl; have hfz7_0 := bf_ BK145.out 0; have hfz7_1 := bf_ BK145.out 1; have hfz7_2 := bf_ BK145.out 2; have hfz7_3 := bf_ BK145.out 3; have hfz7_4 := bf_ BK145.out 4; have hfz7_5 := bf_ BK145.out 5
     go_wp2
     refine bodyPost_ret (results_ct rfl _ _ gb145 42 #[.int .i64 ((rd_T42 l0 x6_1).f0), .int .i64 ((rd_T42 l0 x6_1).f1), .string ((rd_T42 l0 x6_1).f2), .int .i64 ((rd_T42 l0 x6_1).f3), .string ((rd_T42 l0 x6_1).f4), .bool ((rd_T42 l0 x6_1).f5)] (0, 0) _ rfl (by (with_reducible repeat (first | refine k2_ ?_ _ | refine k3_ ?_ | refine k1_ ?_ _)); refine blk_put (cs := #[.int .i64 ((rd_T42 l0 x6_1).f0), .int .i64 ((rd_T42 l0 x6_1).f1), .string ((rd_T42 l0 x6_1).f2), .int .i64 ((rd_T42 l0 x6_1).f3), .string ((rd_T42 l0 x6_1).f4), .bool x146005_1]) ?_ 5 _ rfl; (with_reducible repeat (first | refine k2_ ?_ _ | refine k3_ ?_ | refine k1_ ?_ _)); refine blk_put (cs := #[.int .i64 ((rd_T42 l0 x6_1).f0), .int .i64 ((rd_T42 l0 x6_1).f1), .string ((rd_T42 l0 x6_1).f2), .int .i64 ((rd_T42 l0 x6_1).f3), .string x146004_1, .bool x146005_1]) ?_ 4 _ rfl; (with_reducible repeat (first | refine k2_ ?_ _ | refine k3_ ?_ | refine k1_ ?_ _)); refine blk_put (cs := #[.int .i64 ((rd_T42 l0 x6_1).f0), .int .i64 ((rd_T42 l0 x6_1).f1), .string ((rd_T42 l0 x6_1).f2), .int .i64 x146003_1, .string x146004_1, .bool x146005_1]) ?_ 3 _ rfl; (with_reducible repeat (first | refine k2_ ?_ _ | refine k3_ ?_ | refine k1_ ?_ _)); refine blk_put (cs := #[.int .i64 ((rd_T42 l0 x6_1).f0), .int .i64 ((rd_T42 l0 x6_1).f1), .string x146002_1, .int .i64 x146003_1, .string x146004_1, .bool x146005_1]) ?_ 2 _ rfl; (with_reducible repeat (first | refine k2_ ?_ _ | refine k3_ ?_ | refine k1_ ?_ _)); refine blk_put (cs := #[.int .i64 ((rd_T42 l0 x6_1).f0), .int .i64 x146001_1, .string x146002_1, .int .i64 x146003_1, .string x146004_1, .bool x146005_1]) ?_ 1 _ rfl; (with_reducible repeat (first | refine k2_ ?_ _ | refine k3_ ?_ | refine k1_ ?_ _)); refine blk_put (cs := #[.int .i64 x146000_1, .int .i64 x146001_1, .string x146002_1, .int .i64 x146003_1, .string x146004_1, .bool x146005_1]) ?_ 0 _ rfl; (with_reducible repeat (first | refine k2_ ?_ _ | refine k3_ ?_ | refine k1_ ?_ _)); exact BK145.out) Tryd.underlying42 rfl (by kernel_rfl)) rfl ?_
     exact ⟨by first | rfl | (simp [errW_none, errW_some] <;> rfl) | (simp [*, errW_none, errW_some] <;> rfl), by repeat (with_reducible first | exact HB.out | apply p3_ | apply p1_ | apply p2_ | refine bs_ ?_ GE145.out)⟩
    rw [if_neg c6] at H
    have c6b0 : (((rd_T42 l0 x6_1).f0) == a1) = false := e2_ c6
    have c6b1 : (((rd_T42 l0 x6_1).f0) != a1) = true := bne_iff_ne.mpr c6
    have H' := am_ H
    clear H
    have p146 : 0 ≤ (x6_1 : Int) := of_decide_eq_true (by first | (with_reducible assumption) | assumption)
    have q146 : x6_1 < (l0.length : Int) := of_decide_eq_true (by first | (with_reducible assumption) | assumption)
    obtain ⟨ad146, e146, hx146_0, hx146_1, hx146_2, hx146_3, hx146_4, hx146_5⟩ := at_T42 HR0.out x6_1 p146 q146
    cases e146
    replace hx146_0 := (HB.out.cell (wb_ w _ hx146_0)).trans hx146_0
    replace hx146_1 := (HB.out.cell (wb_ w _ hx146_1)).trans hx146_1
    replace hx146_2 := (HB.out.cell (wb_ w _ hx146_2)).trans hx146_2
    replace hx146_3 := (HB.out.cell (wb_ w _ hx146_3)).trans hx146_3
    replace hx146_4 := (HB.out.cell (wb_ w _ hx146_4)).trans hx146_4
    replace hx146_5 := (HB.out.cell (wb_ w _ hx146_5)).trans hx146_5
    replace p146 := eq_true p146
    replace q146 := eq_true q146
    go_wp2
    go_roundg k1
    case measure => have := HK1.out; omega
    case rel => exact ⟨(wrap64 (x6_1 + 1)), (x146000_1), (x146001_1), (x146002_1), (x146003_1), (x146004_1), (x146005_1), (by first | rfl | (simp; done) | (simp [*]; done)), H', ⟨by have := HK1.out; omega⟩, ⟨by (with_reducible repeat (first | refine k2_ ?_ _ | refine k3_ ?_ | refine k1_ ?_ _)); exact BK145.out⟩, ⟨by repeat (with_reducible first | exact HB.out | apply p3_ | apply p1_ | apply p2_ | refine bs_ ?_ GE145.out)⟩⟩
   rw [if_neg c4] at H
   have c4b0 : decide (x6_1 < (l0.length : Int)) = false := decide_eq_false c4
   clear c4
   simp only [Option.some.injEq, Prod.mk.injEq] at H
   obtain ⟨rfl, rfl, rfl, rfl, rfl, rfl, rfl⟩ := H
   have hcz8_0 : wr.cell? ⟨gb145, 0, none⟩ = some (.int .i64 x146000_1) := (bc_ BK145.out 0).trans rfl; have hcz8_1 : wr.cell? ⟨gb145, 1, none⟩ = some (.int .i64 x146001_1) := (bc_ BK145.out 1).trans rfl; have hcz8_2 : wr.cell? ⟨gb145, 2, none⟩ = some (.string x146002_1) := (bc_ BK145.out 2).trans rfl; have hcz8_3 : wr.cell? ⟨gb145, 3, none⟩ = some (.int .i64 x146003_1) := (bc_ BK145.out 3).trans rfl; have hcz8_4 : wr.cell? ⟨gb145, 4, none⟩ = some (.string x146004_1) := (bc_ BK145.out 4).trans rfl; have hcz8_5 : wr.cell? ⟨gb145, 5, none⟩ = some (.bool x146005_1) := (bc_ BK145.out 5).trans rfl; have hfz8_0 := bf_ BK145.out 0; have hfz8_1 := bf_ BK145.out 1; have hfz8_2 := bf_ BK145.out 2; have hfz8_3 := bf_ BK145.out 3; have hfz8_4 := bf_ BK145.out 4; have hfz8_5 := bf_ BK145.out 5
   go_wp2
   refine bodyPost_ret (results_ct rfl _ _ gb145 42 #[.int .i64 0, .int .i64 0, .string (⟨#[]⟩ : ByteArray), .int .i64 0, .string (⟨#[]⟩ : ByteArray), .bool false] (0, 0) _ rfl (by (with_reducible repeat (first | refine k2_ ?_ _ | refine k3_ ?_ | refine k1_ ?_ _)); refine blk_put (cs := #[.int .i64 0, .int .i64 0, .string (⟨#[]⟩ : ByteArray), .int .i64 0, .string (⟨#[]⟩ : ByteArray), .bool x146005_1]) ?_ 5 _ rfl; (with_reducible repeat (first | refine k2_ ?_ _ | refine k3_ ?_ | refine k1_ ?_ _)); refine blk_put (cs := #[.int .i64 0, .int .i64 0, .string (⟨#[]⟩ : ByteArray), .int .i64 0, .string x146004_1, .bool x146005_1]) ?_ 4 _ rfl; (with_reducible repeat (first | refine k2_ ?_ _ | refine k3_ ?_ | refine k1_ ?_ _)); refine blk_put (cs := #[.int .i64 0, .int .i64 0, .string (⟨#[]⟩ : ByteArray), .int .i64 x146003_1, .string x146004_1, .bool x146005_1]) ?_ 3 _ rfl; (with_reducible repeat (first | refine k2_ ?_ _ | refine k3_ ?_ | refine k1_ ?_ _)); refine blk_put (cs := #[.int .i64 0, .int .i64 0, .string x146002_1, .int .i64 x146003_1, .string x146004_1, .bool x146005_1]) ?_ 2 _ rfl; (with_reducible repeat (first | refine k2_ ?_ _ | refine k3_ ?_ | refine k1_ ?_ _)); refine blk_put (cs := #[.int .i64 0, .int .i64 x146001_1, .string x146002_1, .int .i64 x146003_1, .string x146004_1, .bool x146005_1]) ?_ 1 _ rfl; (with_reducible repeat (first | refine k2_ ?_ _ | refine k3_ ?_ | refine k1_ ?_ _)); refine blk_put (cs := #[.int .i64 x146000_1, .int .i64 x146001_1, .string x146002_1, .int .i64 x146003_1, .string x146004_1, .bool x146005_1]) ?_ 0 _ rfl; (with_reducible repeat (first | refine k2_ ?_ _ | refine k3_ ?_ | refine k1_ ?_ _)); exact BK145.out) Tryd.underlying42 rfl (by kernel_rfl)) rfl ?_
   exact ⟨by first | rfl | (simp [errW_none, errW_some] <;> rfl) | (simp [*, errW_none, errW_some] <;> rfl), by repeat (with_reducible first | exact HB.out | apply p3_ | apply p1_ | apply p2_ | refine bs_ ?_ GE145.out)⟩

/-! ### pinfoldref11_FindLease_c: function 30 -/
theorem reffind_l0 (l : List S42) (h : Int) (hl : l.length ≤ 140737488351232) : ∀ (d k i : Nat), i + d = l.length → d + 1 ≤ k → pinfoldref11_FindLease.l0 k l h (i : Int) = some ((gotL (findL (l.drop i) h)).f0, (gotL (findL (l.drop i) h)).f1, (gotL (findL (l.drop i) h)).f2, (gotL (findL (l.drop i) h)).f3, (gotL (findL (l.drop i) h)).f4, (gotL (findL (l.drop i) h)).f5, (findL (l.drop i) h).isSome)
 | 0, k, i, hi, hk => by
  obtain ⟨k, rfl⟩ : ∃ j, k = j + 1 := ⟨k - 1, by omega⟩
  rw [List.drop_eq_nil_of_le (by omega), pinfoldref11_FindLease.l0, if_neg (by omega)]
  rfl
 | d + 1, k, i, hi, hk => by
  obtain ⟨k, rfl⟩ : ∃ j, k = j + 1 := ⟨k - 1, by omega⟩
  have hlt : i < l.length := by omega
  have ih := reffind_l0 l h hl d k (i + 1) (by omega) (by omega)
  rw [pinfoldref11_FindLease.l0, if_pos (by omega), if_pos (by omega), wrap_succ i l.length hlt hl, ih, rdLease_get l i hlt, List.drop_eq_getElem_cons hlt]
  by_cases q : l[i].f0 = h
  ·have e : findL (l[i] :: l.drop (i + 1)) h = some l[i] := by
    unfold findL
    rw [List.find?_cons, show (l[i].f0 == h) = true by simpa using q]
   rw [if_pos q, e]
   rfl
  ·have e : findL (l[i] :: l.drop (i + 1)) h = findL (l.drop (i + 1)) h := by
    unfold findL
    rw [List.find?_cons, show (l[i].f0 == h) = false by simpa using q]
   rw [if_neg q, e]
def pinfoldref11_FindLease_c.f (l0 : List S42) (a1 : Int) : Option (Int × Int × ByteArray × Int × ByteArray × Bool × Bool) := if l0.length ≤ 140737488351232 then some ((gotL (findL l0 a1)).f0, (gotL (findL l0 a1)).f1, (gotL (findL l0 a1)).f2, (gotL (findL l0 a1)).f3, (gotL (findL l0 a1)).f4, (gotL (findL l0 a1)).f5, (findL l0 a1).isSome) else none
theorem pinfoldref11_FindLease_c.calls (A0 : Option Addr) (c0 : Nat) (l0 : List S42) (a1 : Int) (r1 : Int) (r2 : Int) (r3 : ByteArray) (r4 : Int) (r5 : ByteArray) (r6 : Bool) (r7 : Bool) (w : World) (hr0 : Kd.C k42 w A0 l0.length l0) (hc0 : l0.length ≤ c0) (h : pinfoldref11_FindLease_c.f l0 a1 = some (r1, r2, r3, r4, r5, r6, r7)) :
  Calls Tryd.prog 30 #[.slice A0 l0.length c0, .int .i64 a1] w fun e w' => e = .returned (.tuple #[.agg #[.int .i64 r1, .int .i64 r2, .string r3, .int .i64 r4, .string r5, .bool r6], .bool r7]) ∧ Below w.heap.size w w' := by
 unfold pinfoldref11_FindLease_c.f at h
 by_cases hs : l0.length ≤ 140737488351232
 ·rw [if_pos hs] at h
  exact pinfoldref11_FindLease.calls (l0.length + 1) A0 c0 l0 a1 r1 r2 r3 r4 r5 r6 r7 w hr0 hc0 ((reffind_l0 l0 a1 hs l0.length (l0.length + 1) 0 (by omega) (by omega)).trans h)
 ·rw [if_neg hs] at h
  cases h

/-! ### pinfoldref11_clientMay: function 61 -/
def pinfoldref11_clientMay.f (a0 : ByteArray) : Option (Bool) := if (a0.size : Int) ≥ 1 then (some (decide ((a0.size : Int) ≤ 16))) else (some false)
set_option maxHeartbeats 8000000 in
set_option maxRecDepth 100000 in
theorem pinfoldref11_clientMay.calls (a0 : ByteArray) (r : Bool) (w : World) (h : pinfoldref11_clientMay.f a0 = some r) :
  Calls Tryd.prog 61 #[.string a0] w fun e w' => e = .returned (.bool r) ∧ Drawn0 w w' := by
 have H : (if (a0.size : Int) ≥ 1 then (some (decide ((a0.size : Int) ≤ 16))) else (some false)) = some r := h
 clear h
 by_cases c2 : (a0.size : Int) ≥ 1
 ·rw [if_pos c2] at H
  have c2b0 : decide (1 ≤ (a0.size : Int)) = true := decide_eq_true c2
  have c2b1 : decide (1 ≤ a0.size) = true := decide_eq_true (by omega)
  clear c2
  obtain rfl := e5_ H
  go_enter Tryd.func61, Tryd.ntmps61
  go_wp2
  go_ret
  exact ⟨by first | rfl | (simp; done) | (simp [*]; done), by repeat (first | exact Drawn0.refl _ | apply Drawn0.step)⟩
 rw [if_neg c2] at H
 have c2b0 : decide (1 ≤ (a0.size : Int)) = false := decide_eq_false c2
 have c2b1 : decide (1 ≤ a0.size) = false := decide_eq_false (by omega)
 clear c2
 obtain rfl := e5_ H
 go_enter Tryd.func61, Tryd.ntmps61
 go_wp2
 go_ret
 exact ⟨by first | rfl | (simp; done) | (simp [*]; done), by repeat (first | exact Drawn0.refl _ | apply Drawn0.step)⟩

/-! ### pinfoldref11_clientMay_c: function 61 -/
def pinfoldref11_clientMay_c.f (a0 : ByteArray) : Option Bool := some (clientB a0)
theorem pinfoldref11_clientMay_c.calls (a0 : ByteArray) (r : Bool) (w : World) (h : pinfoldref11_clientMay_c.f a0 = some r) :
  Calls Tryd.prog 61 #[.string a0] w fun e w' => e = .returned (.bool r) ∧ Drawn0 w w' := by
 refine pinfoldref11_clientMay.calls a0 r w ?_
 rw [← h]
 unfold pinfoldref11_clientMay.f pinfoldref11_clientMay_c.f clientB
 by_cases q : (a0.size : Int) ≥ 1
 ·rw [if_pos q]
  congr 1
  rw [Bool.eq_iff_iff, decide_eq_true_eq, decide_eq_true_eq]
  omega
 ·rw [if_neg q]
  congr 1
  symm
  rw [decide_eq_false_iff_not]
  omega

/-! ### pinfoldref1_parts: function 78 -/
def pinfoldref1_parts.l0 : Nat → ByteArray → List ByteArray → Int → Int → Option (List ByteArray)
 | 0, _, _, _, _ => none
 | k + 1, x0, x3, x4, x5 => if x5 ≤ (x0.size : Int) then (if x5 = (x0.size : Int) then (if 0 ≤ x4 then (if x4 ≤ x5 then (if x3.length < 8796093022208 then (pinfoldref1_parts.l0 k x0 (x3 ++ [x0.extract (x4 : Int).toNat (x5 : Int).toNat]) (wrap64 (x5 + 1)) (wrap64 (x5 + 1))) else (none)) else (none)) else (none)) else (if 0 ≤ x5 then (if x5 < (x0.size : Int) then (if (bt x0 x5) = 46 then (if 0 ≤ x4 then (if x4 ≤ x5 then (if x3.length < 8796093022208 then (pinfoldref1_parts.l0 k x0 (x3 ++ [x0.extract (x4 : Int).toNat (x5 : Int).toNat]) (wrap64 (x5 + 1)) (wrap64 (x5 + 1))) else (none)) else (none)) else (none)) else (pinfoldref1_parts.l0 k x0 x3 x4 (wrap64 (x5 + 1)))) else (none)) else (none))) else (some x3)
def pinfoldref1_parts.f (k : Nat) (a0 : ByteArray) : Option (List ByteArray) := pinfoldref1_parts.l0 k a0 ([] : List ByteArray) 0 0
theorem pinfoldref1_parts.mono_l : ∀ k, (∀ y0 y1 y2 y3, LeO (pinfoldref1_parts.l0 k y0 y1 y2 y3) (pinfoldref1_parts.l0 (k + 1) y0 y1 y2 y3))
 | 0 => fun _ _ _ _ r h => by simp [pinfoldref1_parts.l0] at h
 | k + 1 => by
  have ih0 := pinfoldref1_parts.mono_l k
  ·intro y0 y1 y2 y3
   unfold pinfoldref1_parts.l0
   repeat' first
   | (with_reducible exact ih0 _ _ _ _)
   | (with_reducible exact LeO.refl _)
   | (with_reducible exact LeO.none _)
   | (with_reducible refine LeO.ite ?_ ?_)
   | (with_reducible refine LeO.bind ?_ (fun _ => ?_))
   | exact ih0 _ _ _ _
   | exact LeO.none _
   | refine LeO.ite ?_ ?_
   | refine LeO.bind ?_ (fun _ => ?_)
theorem pinfoldref1_parts.mono : ∀ a0 k, LeO (pinfoldref1_parts.f k a0) (pinfoldref1_parts.f (k + 1) a0) := by
 intro a0 k
 have ih0 := pinfoldref1_parts.mono_l k
 unfold pinfoldref1_parts.f
 repeat' first
   | (with_reducible exact ih0 _ _ _ _)
   | (with_reducible exact LeO.refl _)
   | (with_reducible exact LeO.none _)
   | (with_reducible refine LeO.ite ?_ ?_)
   | (with_reducible refine LeO.bind ?_ (fun _ => ?_))
   | exact ih0 _ _ _ _
   | exact LeO.none _
   | refine LeO.ite ?_ ?_
   | refine LeO.bind ?_ (fun _ => ?_)
set_option maxHeartbeats 8000000 in
set_option maxRecDepth 100000 in
theorem pinfoldref1_parts.calls (k : Nat) (a0 : ByteArray) (r : List ByteArray) (w : World) (h : pinfoldref1_parts.f k a0 = some r) :
  Calls Tryd.prog 78 #[.string a0] w fun e w' => ∃ v0_ : Value, e = .returned (v0_) ∧ Kd.R Kd.string 9 w' w.heap.size (fun _ => True) v0_ r ∧ Below w.heap.size w w' := by
 have HB := am_ (Below.refl w.heap.size w)
 have H : (pinfoldref1_parts.l0 k a0 ([] : List ByteArray) 0 0) = some r := h
 clear h
 have H' := am_ H
 clear H
 go_enter Tryd.func78, Tryd.ntmps78
 go_wp2
 go_loopg [3, 4, 5] k (fun kq v3 v4 v5 w' => ∃ (x3_1 : List ByteArray) (x4_1 : Int) (x5_1 : Int), v4 = .int .i64 x4_1 ∧ v5 = .int .i64 x5_1 ∧ Aside0 (pinfoldref1_parts.l0 kq a0 x3_1 x4_1 x5_1 = some r) ∧ Aside0 (kq ≤ k) ∧ Aside0 (Kd.R Kd.string 9 w' w.heap.size (fun _ => True) v3 x3_1) ∧ Aside0 (Below w.heap.size w w'))
 case atStart => exact ⟨(([] : List ByteArray)), (0), (0), (by first | rfl | (simp; done) | (simp [*]; done)), (by first | rfl | (simp; done) | (simp [*]; done)), H', ⟨Nat.le_refl _⟩, ⟨by first | exact Kd.R_nil _ _ _ _ _ | exact Kd.N_nil _ _ _ _ _ | exact Kd.V_nil _ _ _ _ _ | exact Kd.Q_nil _ _ _ _ _ | exact Kd.S_nil _ _ _ _ _⟩, ⟨by repeat (with_reducible first | exact HB.out | apply p3_ | apply p1_ | apply p2_)⟩⟩
 case round =>
  clear H'
  obtain ⟨x3_1, x4_1, x5_1, rfl, rfl, HA, HK1, HO_3, HB⟩ := hrel
  cases gk with
  | zero => exact absurd HA.out (by simp [pinfoldref1_parts.l0])
  | succ k1 =>
   have H := HA.out
   clear HA
   simp only [pinfoldref1_parts.l0] at H
   by_cases c2 : x5_1 ≤ (a0.size : Int)
   ·rw [if_pos c2] at H
    have c2b0 : decide (x5_1 ≤ (a0.size : Int)) = true := decide_eq_true c2
    clear c2
    by_cases c3 : x5_1 = (a0.size : Int)
    ·rw [if_pos c3] at H
     have c3b0 : (x5_1 == (a0.size : Int)) = true := beq_iff_eq.mpr c3
     have c3b1 : (x5_1 != (a0.size : Int)) = false := e1_ c3
     clear c3
     by_cases c4 : 0 ≤ x4_1
     rotate_left
     ·rw [if_neg c4] at H
      exact absurd H (by simp)
     rw [if_pos c4] at H
     have c4b0 := eq_true c4
     have c4b1 : decide (0 ≤ x4_1) = true := decide_eq_true c4
     clear c4
     by_cases c5 : x4_1 ≤ x5_1
     rotate_left
     ·rw [if_neg c5] at H
      exact absurd H (by simp)
     rw [if_pos c5] at H
     have c5b0 := eq_true c5
     have c5b1 : decide (x4_1 ≤ x5_1) = true := decide_eq_true c5
     clear c5
     have c6b0 := eq_true (of_decide_eq_true (by first | (with_reducible assumption) | assumption) : x5_1 ≤ (a0.size : Int))
     by_cases c7 : x3_1.length < 8796093022208
     rotate_left
     ·rw [if_neg c7] at H
      exact absurd H (by simp)
     rw [if_pos c7] at H
     have LMc7 := am_ c7
     clear c7
     obtain ⟨y148, hy148⟩ : ∃ y_ : List ByteArray, y_ = (x3_1 ++ [a0.extract (x4_1 : Int).toNat (x5_1 : Int).toNat]) := ⟨_, rfl⟩
     replace H : (pinfoldref1_parts.l0 k1 a0 y148 (wrap64 (x5_1 + 1)) (wrap64 (x5_1 + 1))) = some r := by first | (rw [hy148]; with_reducible exact H) | (have H2_ := (Option.bind_some _ _).symm.trans H; rw [hy148]; with_reducible exact H2_) | (have H2_ := (Option.bind_some _ _).symm.trans H; with_reducible exact H2_) | with_reducible exact H | (rw [hy148]; exact H) | exact H
     have Ny148 := am_ hy148
     clear hy148
     have H' := am_ H
     clear H
     go_wp2_with (first | ((with_reducible refine gate_builtin (b := .append) (xs := #[.tmp 22, .tmp 27]) rfl ?_); at_builtin; refine Kd.R_append Kd.string (w0 := w) w.heap.size rfl (.tmp 22) (.tmp 27) 59 9 (.string ⟨#[]⟩) 16 rfl Tryd.underlying59 info9 rfl (by decide) (by omega) u3 x3_1 (a0.extract (x4_1 : Int).toNat (x5_1 : Int).toNat) [.string (a0.extract (x4_1 : Int).toNat (x5_1 : Int).toNat)] (fun _ => True) (fun _ => False) rfl rfl ?aP (fun _ hk => hk.elim) ?aF ?aO ?aB ?aS ?aL ?_; (case aP => exact rfl); (case aB => exact (by repeat (with_reducible first | exact HB.out | apply p3_ | apply p1_ | apply p2_))); (case aF => exact (fun _ _ => trivial)); (case aO => exact (by (with_reducible repeat (first | apply r1_ | apply r2_ | apply r3_)); exact HO_3.out)); (case aS => exact (bz_ (by repeat (with_reducible first | exact HB.out | apply p3_ | apply p1_ | apply p2_)))); (case aL => have := LMc7.out; omega); intro v149 w8 ho hb hg hat; rw [← Ny148.out] at ho; have n0_ := am_ (hb); have n1_ := am_ (ho); clear HB; clear HO_3; have HB := n0_; have HO150 := n1_; clear n0_ n1_; clear ho hb hg hat))
     go_roundg k1
     case measure => have := HK1.out; omega
     case rel => exact ⟨(y148), (wrap64 (x5_1 + 1)), (wrap64 (x5_1 + 1)), (by first | rfl | (simp; done) | (simp [*]; done)), (by first | rfl | (simp; done) | (simp [*]; done)), H', ⟨by have := HK1.out; omega⟩, ⟨by (with_reducible repeat (first | apply r1_ | apply r2_ | apply r3_)); exact HO150.out⟩, ⟨by repeat (with_reducible first | exact HB.out | apply p3_ | apply p1_ | apply p2_)⟩⟩
    rw [if_neg c3] at H
    have c3b0 : (x5_1 == (a0.size : Int)) = false := e2_ c3
    have c3b1 : (x5_1 != (a0.size : Int)) = true := bne_iff_ne.mpr c3
    by_cases c9 : 0 ≤ x5_1
    rotate_left
    ·rw [if_neg c9] at H
     exact absurd H (by simp)
    rw [if_pos c9] at H
    have c9b0 : decide (0 ≤ x5_1) = true := decide_eq_true c9
    clear c9
    by_cases c10 : x5_1 < (a0.size : Int)
    rotate_left
    ·rw [if_neg c10] at H
     exact absurd H (by simp)
    rw [if_pos c10] at H
    have c10b0 : decide (x5_1 < (a0.size : Int)) = true := decide_eq_true c10
    clear c10
    by_cases c12 : (bt a0 x5_1) = 46
    ·rw [if_pos c12] at H
     have c12b0 : ((bt a0 x5_1) == 46) = true := beq_iff_eq.mpr c12
     have c12b1 : ((bt a0 x5_1) != 46) = false := e1_ c12
     clear c12
     by_cases c13 : 0 ≤ x4_1
     rotate_left
     ·rw [if_neg c13] at H
      exact absurd H (by simp)
     rw [if_pos c13] at H
     have c13b0 := eq_true c13
     have c13b1 : decide (0 ≤ x4_1) = true := decide_eq_true c13
     clear c13
     by_cases c14 : x4_1 ≤ x5_1
     rotate_left
     ·rw [if_neg c14] at H
      exact absurd H (by simp)
     rw [if_pos c14] at H
     have c14b0 := eq_true c14
     have c14b1 : decide (x4_1 ≤ x5_1) = true := decide_eq_true c14
     clear c14
     have c15b0 := eq_true (of_decide_eq_true (by first | (with_reducible assumption) | assumption) : x5_1 ≤ (a0.size : Int))
     by_cases c16 : x3_1.length < 8796093022208
     rotate_left
     ·rw [if_neg c16] at H
      exact absurd H (by simp)
     rw [if_pos c16] at H
     have LMc16 := am_ c16
     clear c16
     obtain ⟨y151, hy151⟩ : ∃ y_ : List ByteArray, y_ = (x3_1 ++ [a0.extract (x4_1 : Int).toNat (x5_1 : Int).toNat]) := ⟨_, rfl⟩
     replace H : (pinfoldref1_parts.l0 k1 a0 y151 (wrap64 (x5_1 + 1)) (wrap64 (x5_1 + 1))) = some r := by first | (rw [hy151]; with_reducible exact H) | (have H2_ := (Option.bind_some _ _).symm.trans H; rw [hy151]; with_reducible exact H2_) | (have H2_ := (Option.bind_some _ _).symm.trans H; with_reducible exact H2_) | with_reducible exact H | (rw [hy151]; exact H) | exact H
     have Ny151 := am_ hy151
     clear hy151
     have H' := am_ H
     clear H
     have p11 : 0 ≤ (x5_1 : Int) := of_decide_eq_true (by first | (with_reducible assumption) | assumption)
     have q11 : x5_1 < (a0.size : Int) := of_decide_eq_true (by first | (with_reducible assumption) | assumption)
     have hx11 := bt_at a0 x5_1
     replace p11 := eq_true p11
     replace q11 := eq_true q11
     go_wp2_with (first | ((with_reducible refine gate_builtin (b := .append) (xs := #[.tmp 22, .tmp 27]) rfl ?_); at_builtin; refine Kd.R_append Kd.string (w0 := w) w.heap.size rfl (.tmp 22) (.tmp 27) 59 9 (.string ⟨#[]⟩) 16 rfl Tryd.underlying59 info9 rfl (by decide) (by omega) u3 x3_1 (a0.extract (x4_1 : Int).toNat (x5_1 : Int).toNat) [.string (a0.extract (x4_1 : Int).toNat (x5_1 : Int).toNat)] (fun _ => True) (fun _ => False) rfl rfl ?aP (fun _ hk => hk.elim) ?aF ?aO ?aB ?aS ?aL ?_; (case aP => exact rfl); (case aB => exact (by repeat (with_reducible first | exact HB.out | apply p3_ | apply p1_ | apply p2_))); (case aF => exact (fun _ _ => trivial)); (case aO => exact (by (with_reducible repeat (first | apply r1_ | apply r2_ | apply r3_)); exact HO_3.out)); (case aS => exact (bz_ (by repeat (with_reducible first | exact HB.out | apply p3_ | apply p1_ | apply p2_)))); (case aL => have := LMc16.out; omega); intro v152 w17 ho hb hg hat; rw [← Ny151.out] at ho; have n0_ := am_ (hb); have n1_ := am_ (ho); clear HB; clear HO_3; have HB := n0_; have HO153 := n1_; clear n0_ n1_; clear ho hb hg hat))
     go_roundg k1
     case measure => have := HK1.out; omega
     case rel => exact ⟨(y151), (wrap64 (x5_1 + 1)), (wrap64 (x5_1 + 1)), (by first | rfl | (simp; done) | (simp [*]; done)), (by first | rfl | (simp; done) | (simp [*]; done)), H', ⟨by have := HK1.out; omega⟩, ⟨by (with_reducible repeat (first | apply r1_ | apply r2_ | apply r3_)); exact HO153.out⟩, ⟨by repeat (with_reducible first | exact HB.out | apply p3_ | apply p1_ | apply p2_)⟩⟩
    rw [if_neg c12] at H
    have c12b0 : ((bt a0 x5_1) == 46) = false := e2_ c12
    have c12b1 : ((bt a0 x5_1) != 46) = true := bne_iff_ne.mpr c12
    have H' := am_ H
    clear H
    have p11 : 0 ≤ (x5_1 : Int) := of_decide_eq_true (by first | (with_reducible assumption) | assumption)
    have q11 : x5_1 < (a0.size : Int) := of_decide_eq_true (by first | (with_reducible assumption) | assumption)
    have hx11 := bt_at a0 x5_1
    replace p11 := eq_true p11
    replace q11 := eq_true q11
    go_wp2
    go_roundg k1
    case measure => have := HK1.out; omega
    case rel => exact ⟨(x3_1), (x4_1), (wrap64 (x5_1 + 1)), (by first | rfl | (simp; done) | (simp [*]; done)), (by first | rfl | (simp; done) | (simp [*]; done)), H', ⟨by have := HK1.out; omega⟩, ⟨by (with_reducible repeat (first | apply r1_ | apply r2_ | apply r3_)); exact HO_3.out⟩, ⟨by repeat (with_reducible first | exact HB.out | apply p3_ | apply p1_ | apply p2_)⟩⟩
   rw [if_neg c2] at H
   have c2b0 : decide (x5_1 ≤ (a0.size : Int)) = false := decide_eq_false c2
   clear c2
   obtain rfl := e5_ H
   go_wp2
   go_ret
   exact ⟨_, by first | rfl | (simp [errW_none, errW_some] <;> rfl) | (simp [*, errW_none, errW_some] <;> rfl), by (with_reducible repeat (first | apply r1_ | apply r2_ | apply r3_)); exact HO_3.out, by repeat (with_reducible first | exact HB.out | apply p3_ | apply p1_ | apply p2_)⟩

end Go.Proofs.YtmoobaehoccihaaDoor.PF
