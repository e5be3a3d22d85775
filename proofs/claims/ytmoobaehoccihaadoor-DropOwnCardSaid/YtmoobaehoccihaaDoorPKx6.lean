-- Made by wip/pr.py out of the translation (a turned copy of the kit's print; contracts by hand where said).
import Derived.Test.YtmoobaehoccihaaDoorPKx0
import Derived.Test.YtmoobaehoccihaaDoorPKx2
import Derived.Test.YtmoobaehoccihaaDoorPKx5
namespace Go.Proofs.YtmoobaehoccihaaDoor.PK
open Go.RowKit Go.Proofs.YtmoobaehoccihaaDoorW.PrintWords Go.Proofs.YtmoobaehoccihaaDoorW.PrintLast Go.Proofs.YtmoobaehoccihaaDoorW.PrintMore
-- shrunk
attribute [local go_sem] max2_int min2_int max_two min_two max_three min_three max_four min_four   -- for this text's walks alone
set_option linter.unusedVariables false
set_option linter.unusedSimpArgs false

/-! ### table_at: function 77 -/
-- BY HAND
/-- where the first of a row stands that is so; below 0: none is. -/
def table_at.idx (p : S42 → Bool) (l : List S42) : Int := match l.findIdx? p with
 | some i => (i : Int)
 | none => -1
theorem table_at.idx_hit (p : S42 → Bool) (l : List S42) (k : Nat) (hk : k < l.length) (h : p l[k] = true) (hn : ∀ (j : Nat) (hj : j < l.length), j < k → p l[j] = false) : table_at.idx p l = k := by
 have e : l.findIdx? p = some k := List.findIdx?_eq_some_iff_getElem.2 ⟨hk, h, fun j hj => by simp [hn j (by omega) hj]⟩
 unfold table_at.idx
 rw [e]
theorem table_at.idx_miss (p : S42 → Bool) (l : List S42) (hn : ∀ (j : Nat) (hj : j < l.length), p l[j] = false) : table_at.idx p l = -1 := by
 have e : l.findIdx? p = none := List.findIdx?_eq_none_iff.2 fun x hx => by
  obtain ⟨j, hj, rfl⟩ := List.getElem_of_mem hx
  exact hn j hj
 unfold table_at.idx
 rw [e]
theorem table_at.idx_lt (p : S42 → Bool) (l : List S42) : table_at.idx p l < l.length ∧ -1 ≤ table_at.idx p l := by
 unfold table_at.idx
 cases e : l.findIdx? p with
 | none => simp only; omega
 | some i =>
  obtain ⟨h, _⟩ := List.findIdx?_eq_some_iff_getElem.1 e
  simp only
  omega
theorem table_at.idx_congr (p q : S42 → Bool) (l : List S42) (h : ∀ x ∈ l, p x = q x) : table_at.idx p l = table_at.idx q l := by
 cases e : l.findIdx? p with
 | none =>
  have hn := List.findIdx?_eq_none_iff.1 e
  rw [table_at.idx_miss p l (fun j hj => hn _ (List.getElem_mem hj)), table_at.idx_miss q l (fun j hj => by rw [← h _ (List.getElem_mem hj)]; exact hn _ (List.getElem_mem hj))]
 | some i =>
  obtain ⟨hi, h1, h2⟩ := List.findIdx?_eq_some_iff_getElem.1 e
  have h3 : ∀ (j : Nat) (hj : j < l.length), j < i → p l[j] = false := fun j hj hji => by simpa using h2 j hji
  rw [table_at.idx_hit p l i hi h1 h3, table_at.idx_hit q l i hi (by rw [← h _ (List.getElem_mem hi)]; exact h1) (fun j hj hji => by rw [← h _ (List.getElem_mem hj)]; exact h3 j hj hji)]
theorem table_at.rd (l : List S42) (k : Nat) (h : k < l.length) : rd_T42 l (k : Int) = l[k] := by
 unfold rd_T42
 rw [Int.toNat_natCast, List.getD_eq_getElem?_getD, List.getElem?_eq_getElem h]
 rfl
set_option maxHeartbeats 8000000 in
set_option maxRecDepth 100000 in
theorem table_at.index (p : S42 → Bool) (G : Nat) (lb : Array Value) (A0 : Option Addr) (c0 : Nat) (l0 : List S42) (w : World) (hr : Kd.C k42 w A0 l0.length l0) (hs : l0.length ≤ 140737488351232)
  (eg : ∀ args w, (callFunc G args).run Tryd.prog w = .ok (.enter G args) w)
  (hp : ∀ (W : World) (x : S42), x ∈ l0 → Below w.heap.size w W → Calls Tryd.prog G (#[.agg #[.int .i64 x.f0, .int .i64 x.f1, .string x.f2, .int .i64 x.f3, .string x.f4, .bool x.f5]] ++ lb) W fun e w' => e = .returned (.bool (p x)) ∧ Below W.heap.size W w') :
  Calls Tryd.prog 68 #[.slice A0 l0.length c0, .func (.func G) #[] lb] w fun e w' => e = .returned (.int .i64 (table_at.idx p l0)) ∧ Below w.heap.size w w' := by
 have HR := am_ hr
 have HP := am_ hp
 clear hr hp
 go_enter Tryd.func68, Tryd.ntmps68
 go_wp2
 go_loopg [5, 8] l0.length (fun gg _ s8 wr => ∃ kk : Nat, kk + gg = l0.length ∧ s8 = .int .i64 kk ∧ Aside0 (Below w.heap.size w wr) ∧ Aside0 (∀ (j : Nat) (h : j < l0.length), j < kk → p (l0[j]'h) = false))
 case atStart => exact ⟨0, by omega, rfl, ⟨Below.refl _ w⟩, ⟨fun j _ hj => absurd hj (Nat.not_lt_zero _)⟩⟩
 case round =>
  obtain ⟨kk, hg, rfl, BW, A⟩ := hrel
  by_cases hlt : kk < l0.length
  ·have hltz : (kk : Int) < (l0.length : Int) := by omega
   obtain ⟨ad, e1, h0, h1, h2, h3, h4, h5⟩ := at_T42 HR.out (kk : Int) (by omega) hltz
   cases e1
   rw [table_at.rd l0 kk hlt] at h0 h1 h2 h3 h4 h5
   rw [Int.toNat_natCast] at h0 h1 h2 h3 h4 h5
   obtain ⟨x, hx⟩ : ∃ x, l0[kk]'hlt = x := ⟨_, rfl⟩
   have B := am_ hx
   rw [hx] at h0 h1 h2 h3 h4 h5
   clear hx
   replace h0 := (BW.out.cell (wb_ w _ h0)).trans h0
   replace h1 := (BW.out.cell (wb_ w _ h1)).trans h1
   replace h2 := (BW.out.cell (wb_ w _ h2)).trans h2
   replace h3 := (BW.out.cell (wb_ w _ h3)).trans h3
   replace h4 := (BW.out.cell (wb_ w _ h4)).trans h4
   replace h5 := (BW.out.cell (wb_ w _ h5)).trans h5
   have hcall := HP.out wr x (by rw [← B.out]; exact List.getElem_mem hlt) BW.out
   cases hq : p x with
   | true =>
    rw [hq] at hcall
    have hq' := am_ hq
    clear hq
    go_wp2_with fail
    refine hcall.mono ?_
    rintro e w' ⟨rfl, hb'⟩
    go_wp2
    go_ret
    refine ⟨?_, bt_ BW.out hb'⟩
    rw [table_at.idx_hit p l0 kk hlt (by rw [B.out]; exact hq'.out) A.out]
    rfl
   | false =>
    rw [hq] at hcall
    have hq' := am_ hq
    clear hq
    go_wp2_with fail
    refine hcall.mono ?_
    rintro e w' ⟨rfl, hb'⟩
    go_wp2
    go_roundg (l0.length - (kk + 1))
    case measure => omega
    case rel =>
     refine ⟨kk + 1, by omega, by go_num, ⟨bt_ BW.out hb'⟩, ⟨fun j h hj => ?_⟩⟩
     by_cases e : j = kk
     ·subst e
      rw [B.out]
      exact hq'.out
     ·exact A.out j h (by omega)
  ·have hltz : ¬ (kk : Int) < (l0.length : Int) := by omega
   go_wp2
   go_ret
   refine ⟨?_, BW.out⟩
   rw [table_at.idx_miss p l0 (fun j hj => A.out j hj (by omega))]
   rfl
set_option maxHeartbeats 8000000 in
set_option maxRecDepth 100000 in
theorem table_at.closure (host : Int) (B : Nat) (x : S42) (w : World) (hc : w.cell? ⟨B, 0, none⟩ = some (.int .i64 host)) :
  Calls Tryd.prog 90 #[.agg #[.int .i64 x.f0, .int .i64 x.f1, .string x.f2, .int .i64 x.f3, .string x.f4, .bool x.f5], .pointer (some ⟨B, 0, none⟩)] w fun e w' => e = .returned (.bool (x.f0 == host)) ∧ Below w.heap.size w w' := by
 have hlt : B < w.heap.size := wb_ w _ hc
 have hne : B ≠ w.heap.size := by omega
 go_enter Tryd.func90, Tryd.ntmps90
 go_wp2
 go_ret
 exact ⟨rfl, by repeat (first | exact Below.refl _ _ | apply p3_ | apply p1_ | apply p2_)⟩
def table_at.f (l0 : List S42) (a1 : Int) : Option Int := if l0.length ≤ 140737488351232 then some (table_at.idx (fun x => x.f0 == a1) l0) else none
set_option maxHeartbeats 8000000 in
set_option maxRecDepth 100000 in
theorem table_at.calls (A0 : Option Addr) (c0 : Nat) (l0 : List (S42)) (a1 : Int) (r : Int) (w : World) (hr0 : Kd.C k42 w A0 l0.length l0) (hc0 : l0.length ≤ c0) (h : table_at.f l0 a1 = some r) :
  Calls Tryd.prog 77 #[.slice A0 l0.length c0, .int .i64 a1] w fun e w' => e = .returned (.int .i64 r) ∧ Below w.heap.size w w' := by
 unfold table_at.f at h
 by_cases hs : l0.length ≤ 140737488351232
 ·rw [if_pos hs] at h
  obtain rfl := e5_ h
  clear h
  have eg : ∀ args w, (callFunc 90 args).run Tryd.prog w = .ok (.enter 90 args) w := fun args w => enters_ Tryd.func90 (by kernel_rfl) rfl args w
  have hb := p3_ (Below.refl w.heap.size w) (.cells #[.int .i64 a1] 3)
  have hcell : (w.alloc (.cells #[.int .i64 a1] 3)).cell? ⟨w.heap.size, 0, none⟩ = some (.int .i64 a1) := (bc_ (blk_new w _) 0).trans rfl
  have hI := table_at.index (fun x => x.f0 == a1) 90 #[.pointer (some ⟨w.heap.size, 0, none⟩)] A0 c0 l0 (w.alloc (.cells #[.int .i64 a1] 3)) (c4_ hr0 hb) hs eg (fun W x _ hW => table_at.closure a1 w.heap.size x W ((hW.cell (p := ⟨w.heap.size, 0, none⟩) (wb_ _ _ hcell)).trans hcell))
  replace hI := am_ hI
  clear hcell eg hr0 hc0
  generalize table_at.idx (fun x => x.f0 == a1) l0 = r at hI ⊢
  go_enter Tryd.func77, Tryd.ntmps77
  go_wp2_with (first | (go_at_call 68; refine hI.out.mono ?_; rintro e w' ⟨rfl, hb'⟩))
  go_ret
  exact ⟨rfl, bt_ hb hb'⟩
 ·rw [if_neg hs] at h
  cases h

/-! ### table_Find: function 59 -/
def table_Find.f (l0 : List (S42)) (a1 : Int) : Option (Int × Int × ByteArray × Int × ByteArray × Bool × Bool) := (table_at.f l0 a1).bind fun t117 => (if t117 < 0 then (some (0, 0, (⟨#[]⟩ : ByteArray), 0, (⟨#[]⟩ : ByteArray), false, false)) else (if 0 ≤ t117 then (if t117 < (l0.length : Int) then (some ((rd_T42 l0 t117).f0, (rd_T42 l0 t117).f1, (rd_T42 l0 t117).f2, (rd_T42 l0 t117).f3, (rd_T42 l0 t117).f4, (rd_T42 l0 t117).f5, true)) else (none)) else (none)))
set_option maxHeartbeats 8000000 in
set_option maxRecDepth 100000 in
theorem table_Find.calls (A0 : Option Addr) (c0 : Nat) (l0 : List (S42)) (a1 : Int) (r1 : Int) (r2 : Int) (r3 : ByteArray) (r4 : Int) (r5 : ByteArray) (r6 : Bool) (r7 : Bool) (w : World) (hr0 : Kd.C k42 w A0 l0.length l0) (hc0 : l0.length ≤ c0) (h : table_Find.f l0 a1 = some (r1, r2, r3, r4, r5, r6, r7)) :
  Calls Tryd.prog 59 #[.slice A0 l0.length c0, .int .i64 a1] w fun e w' => e = .returned (.tuple #[.agg #[.int .i64 r1, .int .i64 r2, .string r3, .int .i64 r4, .string r5, .bool r6], .bool r7]) ∧ Below w.heap.size w w' := by
 have hu42 := Tryd.underlying42
 have HR0 := am_ hr0
 have HC0 := am_ hc0
 clear hr0 hc0
 have HB := am_ (Below.refl w.heap.size w)
 have H : ((table_at.f l0 a1).bind fun t117 => (if t117 < 0 then (some (0, 0, (⟨#[]⟩ : ByteArray), 0, (⟨#[]⟩ : ByteArray), false, false)) else (if 0 ≤ t117 then (if t117 < (l0.length : Int) then (some ((rd_T42 l0 t117).f0, (rd_T42 l0 t117).f1, (rd_T42 l0 t117).f2, (rd_T42 l0 t117).f3, (rd_T42 l0 t117).f4, (rd_T42 l0 t117).f5, true)) else (none)) else (none)))) = some (r1, r2, r3, r4, r5, r6, r7) := h
 clear h
 replace H := e4_ H
 obtain ⟨t117, A30, H⟩ := H
 replace H : (if t117 < 0 then (some (0, 0, (⟨#[]⟩ : ByteArray), 0, (⟨#[]⟩ : ByteArray), false, false)) else (if 0 ≤ t117 then (if t117 < (l0.length : Int) then (some ((rd_T42 l0 t117).f0, (rd_T42 l0 t117).f1, (rd_T42 l0 t117).f2, (rd_T42 l0 t117).f3, (rd_T42 l0 t117).f4, (rd_T42 l0 t117).f5, true)) else (none)) else (none))) = some (r1, r2, r3, r4, r5, r6, r7) := H
 have A3 := am_ A30
 clear A30
 by_cases c4 : t117 < 0
 ·rw [if_pos c4] at H
  have c4b0 : decide (t117 < 0) = true := decide_eq_true c4
  clear c4
  simp only [Option.some.injEq, Prod.mk.injEq] at H
  obtain ⟨rfl, rfl, rfl, rfl, rfl, rfl, rfl⟩ := H
  go_enter Tryd.func59, Tryd.ntmps59
  go_wp2_with (first | ((with_reducible refine gate_dst (N := 4) rfl ?_); refine box_event ?hg (N := 4) ?hd (cs := #[.int .i64 0, .int .i64 0, .string (⟨#[]⟩ : ByteArray), .int .i64 0, .string (⟨#[]⟩ : ByteArray), .bool false]) (t := 42) ?hr ?_; (case hd => rfl); (case hg => rfl); (case hr => first | (go_simp; done) | (go_simp; rfl)); intro gb116 hg w5 hbox hb; have n0_ := am_ (bt_ (by repeat (with_reducible first | exact HB.out | apply p3_ | apply p1_ | apply p2_)) hb); have n1_ := am_ (hbox); have n2_ := am_ ((by rw [hg]; exact (bz_ (by repeat (with_reducible first | exact HB.out | apply p3_ | apply p1_ | apply p2_))) : w.heap.size ≤ gb116)); have n3_ := am_ ((by rw [hg]; exact (bz_ (by repeat (with_reducible first | exact HB.out | apply p3_ | apply p1_ | apply p2_))) : w.heap.size ≤ gb116)); clear HB; have HB := n0_; have BK116 := n1_; have GW116 := n2_; have GE116 := n3_; clear n0_ n1_ n2_ n3_; clear hb hbox hg) | ((with_reducible refine gate_callee (f := 77) rfl ?_); refine goesL_ (some 9) rfl rfl Tryd.func77 (by kernel_rfl) rfl #[.slice A0 l0.length c0, .int .i64 a1] rfl (by (try simp only [List.map_toArray, List.map_cons, List.map_nil]); first | done | rfl | (simp only [List.length_drop, List.length_take]; rfl)) ?_; (with_reducible refine (table_at.calls _ _ l0 a1 t117 _ ?side1 ?side2 A3.out).mono ?_); (case side1 => repeat (first | exact (c4_ HR0.out HB.out) | (with_reducible refine c1_ ?_ _) | (with_reducible refine c2_ ?_ _) | (with_reducible refine c3_ ?_))); (case side2 => exact HC0.out); rintro e w6 ⟨rfl, hb⟩; refine ⟨_, rfl, ?_⟩; have n0_ := am_ (kb_ (g := gb116) (o := .cells #[.int .i64 0, .int .i64 0, .string (⟨#[]⟩ : ByteArray), .int .i64 0, .string (⟨#[]⟩ : ByteArray), .bool false] 42 (0, 0)) (by (with_reducible repeat (first | refine k2_ ?_ _ | refine k3_ ?_ | refine k1_ ?_ _)); exact BK116.out) hb); have n1_ := am_ (bt_ (by repeat (with_reducible first | exact HB.out | apply p3_ | apply p1_ | apply p2_ | refine bs_ ?_ GE116.out)) hb); clear BK116; clear HB; have BK116 := n0_; have HB := n1_; clear n0_ n1_; (try clear hb); have hcz7_0 : w6.cell? ⟨gb116, 0, none⟩ = some (.int .i64 0) := (bc_ BK116.out 0).trans rfl; have hcz7_1 : w6.cell? ⟨gb116, 1, none⟩ = some (.int .i64 0) := (bc_ BK116.out 1).trans rfl; have hcz7_2 : w6.cell? ⟨gb116, 2, none⟩ = some (.string (⟨#[]⟩ : ByteArray)) := (bc_ BK116.out 2).trans rfl; have hcz7_3 : w6.cell? ⟨gb116, 3, none⟩ = some (.int .i64 0) := (bc_ BK116.out 3).trans rfl; have hcz7_4 : w6.cell? ⟨gb116, 4, none⟩ = some (.string (⟨#[]⟩ : ByteArray)) := (bc_ BK116.out 4).trans rfl; have hcz7_5 : w6.cell? ⟨gb116, 5, none⟩ = some (.bool false) := (bc_ BK116.out 5).trans rfl; have hfz7_0 := bf_ BK116.out 0; have hfz7_1 := bf_ BK116.out 1; have hfz7_2 := bf_ BK116.out 2; have hfz7_3 := bf_ BK116.out 3; have hfz7_4 := bf_ BK116.out 4; have hfz7_5 := bf_ BK116.out 5))
  refine bodyPost_ret (results_ct rfl _ _ gb116 42 #[.int .i64 0, .int .i64 0, .string (⟨#[]⟩ : ByteArray), .int .i64 0, .string (⟨#[]⟩ : ByteArray), .bool false] (0, 0) _ rfl (by (with_reducible repeat (first | refine k2_ ?_ _ | refine k3_ ?_ | refine k1_ ?_ _)); refine blk_put (cs := #[.int .i64 0, .int .i64 0, .string (⟨#[]⟩ : ByteArray), .int .i64 0, .string (⟨#[]⟩ : ByteArray), .bool false]) ?_ 5 _ rfl; (with_reducible repeat (first | refine k2_ ?_ _ | refine k3_ ?_ | refine k1_ ?_ _)); refine blk_put (cs := #[.int .i64 0, .int .i64 0, .string (⟨#[]⟩ : ByteArray), .int .i64 0, .string (⟨#[]⟩ : ByteArray), .bool false]) ?_ 4 _ rfl; (with_reducible repeat (first | refine k2_ ?_ _ | refine k3_ ?_ | refine k1_ ?_ _)); refine blk_put (cs := #[.int .i64 0, .int .i64 0, .string (⟨#[]⟩ : ByteArray), .int .i64 0, .string (⟨#[]⟩ : ByteArray), .bool false]) ?_ 3 _ rfl; (with_reducible repeat (first | refine k2_ ?_ _ | refine k3_ ?_ | refine k1_ ?_ _)); refine blk_put (cs := #[.int .i64 0, .int .i64 0, .string (⟨#[]⟩ : ByteArray), .int .i64 0, .string (⟨#[]⟩ : ByteArray), .bool false]) ?_ 2 _ rfl; (with_reducible repeat (first | refine k2_ ?_ _ | refine k3_ ?_ | refine k1_ ?_ _)); refine blk_put (cs := #[.int .i64 0, .int .i64 0, .string (⟨#[]⟩ : ByteArray), .int .i64 0, .string (⟨#[]⟩ : ByteArray), .bool false]) ?_ 1 _ rfl; (with_reducible repeat (first | refine k2_ ?_ _ | refine k3_ ?_ | refine k1_ ?_ _)); refine blk_put (cs := #[.int .i64 0, .int .i64 0, .string (⟨#[]⟩ : ByteArray), .int .i64 0, .string (⟨#[]⟩ : ByteArray), .bool false]) ?_ 0 _ rfl; (with_reducible repeat (first | refine k2_ ?_ _ | refine k3_ ?_ | refine k1_ ?_ _)); exact BK116.out) Tryd.underlying42 rfl (by kernel_rfl)) rfl ?_
  exact ⟨by first | rfl | (simp [errW_none, errW_some] <;> rfl) | (simp [*, errW_none, errW_some] <;> rfl), by repeat (with_reducible first | exact HB.out | apply p3_ | apply p1_ | apply p2_ | refine bs_ ?_ GE116.out)⟩
 rw [if_neg c4] at H
 have c4b0 : decide (t117 < 0) = false := decide_eq_false c4
 clear c4
 by_cases c8 : 0 ≤ t117
 rotate_left
 ·rw [if_neg c8] at H
  exact absurd H (by simp)
 rw [if_pos c8] at H
 have c8b0 : decide (0 ≤ t117) = true := decide_eq_true c8
 clear c8
 by_cases c9 : t117 < (l0.length : Int)
 rotate_left
 ·rw [if_neg c9] at H
  exact absurd H (by simp)
 rw [if_pos c9] at H
 have c9b0 : decide (t117 < (l0.length : Int)) = true := decide_eq_true c9
 clear c9
 simp only [Option.some.injEq, Prod.mk.injEq] at H
 obtain ⟨rfl, rfl, rfl, rfl, rfl, rfl, rfl⟩ := H
 go_enter Tryd.func59, Tryd.ntmps59
 go_wp2_with (first | ((with_reducible refine gate_dst (N := 4) rfl ?_); refine box_event ?hg (N := 4) ?hd (cs := #[.int .i64 0, .int .i64 0, .string (⟨#[]⟩ : ByteArray), .int .i64 0, .string (⟨#[]⟩ : ByteArray), .bool false]) (t := 42) ?hr ?_; (case hd => rfl); (case hg => rfl); (case hr => first | (go_simp; done) | (go_simp; rfl)); intro gb116 hg w10 hbox hb; have n0_ := am_ (bt_ (by repeat (with_reducible first | exact HB.out | apply p3_ | apply p1_ | apply p2_)) hb); have n1_ := am_ (hbox); have n2_ := am_ ((by rw [hg]; exact (bz_ (by repeat (with_reducible first | exact HB.out | apply p3_ | apply p1_ | apply p2_))) : w.heap.size ≤ gb116)); have n3_ := am_ ((by rw [hg]; exact (bz_ (by repeat (with_reducible first | exact HB.out | apply p3_ | apply p1_ | apply p2_))) : w.heap.size ≤ gb116)); clear HB; have HB := n0_; have BK116 := n1_; have GW116 := n2_; have GE116 := n3_; clear n0_ n1_ n2_ n3_; clear hb hbox hg) | ((with_reducible refine gate_callee (f := 77) rfl ?_); refine goesL_ (some 9) rfl rfl Tryd.func77 (by kernel_rfl) rfl #[.slice A0 l0.length c0, .int .i64 a1] rfl (by (try simp only [List.map_toArray, List.map_cons, List.map_nil]); first | done | rfl | (simp only [List.length_drop, List.length_take]; rfl)) ?_; (with_reducible refine (table_at.calls _ _ l0 a1 t117 _ ?side1 ?side2 A3.out).mono ?_); (case side1 => repeat (first | exact (c4_ HR0.out HB.out) | (with_reducible refine c1_ ?_ _) | (with_reducible refine c2_ ?_ _) | (with_reducible refine c3_ ?_))); (case side2 => exact HC0.out); rintro e w11 ⟨rfl, hb⟩; refine ⟨_, rfl, ?_⟩; have n0_ := am_ (kb_ (g := gb116) (o := .cells #[.int .i64 0, .int .i64 0, .string (⟨#[]⟩ : ByteArray), .int .i64 0, .string (⟨#[]⟩ : ByteArray), .bool false] 42 (0, 0)) (by (with_reducible repeat (first | refine k2_ ?_ _ | refine k3_ ?_ | refine k1_ ?_ _)); exact BK116.out) hb); have n1_ := am_ (bt_ (by repeat (with_reducible first | exact HB.out | apply p3_ | apply p1_ | apply p2_ | refine bs_ ?_ GE116.out)) hb); clear BK116; clear HB; have BK116 := n0_; have HB := n1_; clear n0_ n1_; (try clear hb); have p118 : 0 ≤ (t117 : Int) := of_decide_eq_true (by first | (with_reducible assumption) | assumption); have q118 : t117 < (l0.length : Int) := of_decide_eq_true (by first | (with_reducible assumption) | assumption); obtain ⟨ad118, e118, hx118_0, hx118_1, hx118_2, hx118_3, hx118_4, hx118_5⟩ := at_T42 HR0.out t117 p118 q118; cases e118; replace hx118_0 := (HB.out.cell (wb_ w _ hx118_0)).trans hx118_0; replace hx118_1 := (HB.out.cell (wb_ w _ hx118_1)).trans hx118_1; replace hx118_2 := (HB.out.cell (wb_ w _ hx118_2)).trans hx118_2; replace hx118_3 := (HB.out.cell (wb_ w _ hx118_3)).trans hx118_3; replace hx118_4 := (HB.out.cell (wb_ w _ hx118_4)).trans hx118_4; replace hx118_5 := (HB.out.cell (wb_ w _ hx118_5)).trans hx118_5; replace p118 := eq_true p118; replace q118 := eq_true q118; have hcz12_0 : w11.cell? ⟨gb116, 0, none⟩ = some (.int .i64 0) := (bc_ BK116.out 0).trans rfl; have hcz12_1 : w11.cell? ⟨gb116, 1, none⟩ = some (.int .i64 0) := (bc_ BK116.out 1).trans rfl; have hcz12_2 : w11.cell? ⟨gb116, 2, none⟩ = some (.string (⟨#[]⟩ : ByteArray)) := (bc_ BK116.out 2).trans rfl; have hcz12_3 : w11.cell? ⟨gb116, 3, none⟩ = some (.int .i64 0) := (bc_ BK116.out 3).trans rfl; have hcz12_4 : w11.cell? ⟨gb116, 4, none⟩ = some (.string (⟨#[]⟩ : ByteArray)) := (bc_ BK116.out 4).trans rfl; have hcz12_5 : w11.cell? ⟨gb116, 5, none⟩ = some (.bool false) := (bc_ BK116.out 5).trans rfl; have hfz12_0 := bf_ BK116.out 0; have hfz12_1 := bf_ BK116.out 1; have hfz12_2 := bf_ BK116.out 2; have hfz12_3 := bf_ BK116.out 3; have hfz12_4 := bf_ BK116.out 4; have hfz12_5 := bf_ BK116.out 5))
 refine bodyPost_ret (results_ct rfl _ _ gb116 42 #[.int .i64 ((rd_T42 l0 t117).f0), .int .i64 ((rd_T42 l0 t117).f1), .string ((rd_T42 l0 t117).f2), .int .i64 ((rd_T42 l0 t117).f3), .string ((rd_T42 l0 t117).f4), .bool ((rd_T42 l0 t117).f5)] (0, 0) _ rfl (by (with_reducible repeat (first | refine k2_ ?_ _ | refine k3_ ?_ | refine k1_ ?_ _)); refine blk_put (cs := #[.int .i64 ((rd_T42 l0 t117).f0), .int .i64 ((rd_T42 l0 t117).f1), .string ((rd_T42 l0 t117).f2), .int .i64 ((rd_T42 l0 t117).f3), .string ((rd_T42 l0 t117).f4), .bool false]) ?_ 5 _ rfl; (with_reducible repeat (first | refine k2_ ?_ _ | refine k3_ ?_ | refine k1_ ?_ _)); refine blk_put (cs := #[.int .i64 ((rd_T42 l0 t117).f0), .int .i64 ((rd_T42 l0 t117).f1), .string ((rd_T42 l0 t117).f2), .int .i64 ((rd_T42 l0 t117).f3), .string (⟨#[]⟩ : ByteArray), .bool false]) ?_ 4 _ rfl; (with_reducible repeat (first | refine k2_ ?_ _ | refine k3_ ?_ | refine k1_ ?_ _)); refine blk_put (cs := #[.int .i64 ((rd_T42 l0 t117).f0), .int .i64 ((rd_T42 l0 t117).f1), .string ((rd_T42 l0 t117).f2), .int .i64 0, .string (⟨#[]⟩ : ByteArray), .bool false]) ?_ 3 _ rfl; (with_reducible repeat (first | refine k2_ ?_ _ | refine k3_ ?_ | refine k1_ ?_ _)); refine blk_put (cs := #[.int .i64 ((rd_T42 l0 t117).f0), .int .i64 ((rd_T42 l0 t117).f1), .string (⟨#[]⟩ : ByteArray), .int .i64 0, .string (⟨#[]⟩ : ByteArray), .bool false]) ?_ 2 _ rfl; (with_reducible repeat (first | refine k2_ ?_ _ | refine k3_ ?_ | refine k1_ ?_ _)); refine blk_put (cs := #[.int .i64 ((rd_T42 l0 t117).f0), .int .i64 0, .string (⟨#[]⟩ : ByteArray), .int .i64 0, .string (⟨#[]⟩ : ByteArray), .bool false]) ?_ 1 _ rfl; (with_reducible repeat (first | refine k2_ ?_ _ | refine k3_ ?_ | refine k1_ ?_ _)); refine blk_put (cs := #[.int .i64 0, .int .i64 0, .string (⟨#[]⟩ : ByteArray), .int .i64 0, .string (⟨#[]⟩ : ByteArray), .bool false]) ?_ 0 _ rfl; (with_reducible repeat (first | refine k2_ ?_ _ | refine k3_ ?_ | refine k1_ ?_ _)); exact BK116.out) Tryd.underlying42 rfl (by kernel_rfl)) rfl ?_
 exact ⟨by first | rfl | (simp [errW_none, errW_some] <;> rfl) | (simp [*, errW_none, errW_some] <;> rfl), by repeat (with_reducible first | exact HB.out | apply p3_ | apply p1_ | apply p2_ | refine bs_ ?_ GE116.out)⟩

/-! ### table_Find_c: function 59 -/
theorem find_idx (l : List S42) (h : Int) : (table_at.idx (fun x => x.f0 == h) l < 0 ∧ findL l h = none) ∨ ∃ (i : Nat) (hi : i < l.length), table_at.idx (fun x => x.f0 == h) l = (i : Int) ∧ findL l h = some (l[i]'hi) := by
 unfold table_at.idx findL
 cases e : l.findIdx? (fun x => x.f0 == h) with
 | none =>
  left
  refine ⟨by simp, List.find?_eq_none.2 fun x hx => ?_⟩
  have := List.findIdx?_eq_none_iff.1 e x hx
  simpa using this
 | some i =>
  right
  obtain ⟨hi, h1, h2⟩ := List.findIdx?_eq_some_iff_getElem.1 e
  exact ⟨i, hi, rfl, List.find?_eq_some_iff_getElem.2 ⟨h1, i, hi, rfl, fun j hj => by simpa using h2 j hj⟩⟩
def table_Find_c.f (l0 : List S42) (a1 : Int) : Option (Int × Int × ByteArray × Int × ByteArray × Bool × Bool) := if l0.length ≤ 140737488351232 then some ((gotL (findL l0 a1)).f0, (gotL (findL l0 a1)).f1, (gotL (findL l0 a1)).f2, (gotL (findL l0 a1)).f3, (gotL (findL l0 a1)).f4, (gotL (findL l0 a1)).f5, (findL l0 a1).isSome) else none
theorem table_Find_c.calls (A0 : Option Addr) (c0 : Nat) (l0 : List S42) (a1 : Int) (r1 : Int) (r2 : Int) (r3 : ByteArray) (r4 : Int) (r5 : ByteArray) (r6 : Bool) (r7 : Bool) (w : World) (hr0 : Kd.C k42 w A0 l0.length l0) (hc0 : l0.length ≤ c0) (h : table_Find_c.f l0 a1 = some (r1, r2, r3, r4, r5, r6, r7)) :
  Calls Tryd.prog 59 #[.slice A0 l0.length c0, .int .i64 a1] w fun e w' => e = .returned (.tuple #[.agg #[.int .i64 r1, .int .i64 r2, .string r3, .int .i64 r4, .string r5, .bool r6], .bool r7]) ∧ Below w.heap.size w w' := by
 unfold table_Find_c.f at h
 by_cases hs : l0.length ≤ 140737488351232
 ·rw [if_pos hs] at h
  refine table_Find.calls A0 c0 l0 a1 r1 r2 r3 r4 r5 r6 r7 w hr0 hc0 ?_
  unfold table_Find.f table_at.f
  rw [if_pos hs, Option.bind_some, ← h]
  rcases find_idx l0 a1 with ⟨h1, h2⟩ | ⟨i, hi, h1, h2⟩
  ·rw [if_pos h1, h2]
   rfl
  ·rw [h1, if_neg (by omega), if_pos (by omega), if_pos (by omega), h2, table_at.rd l0 i hi]
   rfl
 ·rw [if_neg hs] at h
  cases h

/-! ### drop_other: function 35 -/
-- BY HAND
-- 48 58 59
def otherV (p : S42 → Bool) (a0_0 : Int) (a0_1 : Int) (l0_2 : List Int) (l0_3 : List S72) (a0_4 : Int) (a0_5 : ByteArray) (l0_6 : List S74) (l1 : List S42) (a2 : Int) (a3 : ByteArray) (a4 : Int) (t : S42) : List S42 × Int := if (pickMayB a0_0 a0_1 l0_2 l0_3 a0_4 a0_5 l0_6 l1 a2 a3 && decide (0 ≤ a2 ∧ a2 ≤ 1099510579200)) = true then (swapL l1 a4 (thenL p l1 a4 t), 0) else ([], 1800)
theorem swap_step (l : List S42) (host : Int) (y : S42) (i : Nat) (h : i < l.length) : ∀ x, l[i]? = some x → ((swapL (l.take i) host y ++ l.drop i).set i (if x.f0 = host then y else x)) = swapL (l.take (i + 1)) host y ++ l.drop (i + 1) := by
 intro x hx
 have e : l[i] = x := by rw [List.getElem?_eq_getElem h] at hx; exact e5_ hx
 have hl : (swapL (l.take i) host y).length = i := by unfold swapL; rw [List.length_map, List.length_take]; omega
 rw [List.drop_eq_getElem_cons h, List.set_append_right _ _ (by omega), hl, Nat.sub_self, sb_, List.take_succ_eq_append_getElem h, e]
 unfold swapL
 rw [List.map_append, List.append_assoc]
 rfl
theorem swap_keep (l : List S42) (host : Int) (y : S42) (i : Nat) (h : i < l.length) (hn : ¬ l[i].f0 = host) : swapL (l.take i) host y ++ l.drop i = swapL (l.take (i + 1)) host y ++ l.drop (i + 1) := by
 rw [List.drop_eq_getElem_cons h, List.take_succ_eq_append_getElem h]
 unfold swapL
 rw [List.map_append, List.append_assoc, List.map_cons, if_neg hn]
 rfl
theorem swap_len (l : List S42) (host : Int) (y : S42) (i : Nat) : (swapL (l.take i) host y ++ l.drop i).length = l.length := by
 rw [List.length_append]
 unfold swapL
 rw [List.length_map, List.length_take, List.length_drop]
 omega
theorem swap_get (l : List S42) (host : Int) (y : S42) (i : Nat) (h : i < l.length) : (swapL (l.take i) host y ++ l.drop i)[i]? = some l[i] := by
 have hl : (swapL (l.take i) host y).length = i := by unfold swapL; rw [List.length_map, List.length_take]; omega
 rw [List.getElem?_append_right (by omega), hl, Nat.sub_self, List.drop_eq_getElem_cons h]
 rfl
theorem drop_other.info : (Tryd.prog.info? 42).map (fun i => (i.zero, i.size, i.bytes)) = some (some (.agg #[.int .i64 0, .int .i64 0, .string ⟨#[]⟩, .int .i64 0, .string ⟨#[]⟩, .bool false]), 6, 64) := by kernel_rfl
set_option maxHeartbeats 8000000 in
set_option maxRecDepth 100000 in
theorem drop_other.calls (p : S42 → Bool) (G : Nat) (g : Nat) (a0_0 : Int) (a0_1 : Int) (A0_2 : Option Addr) (c0_2 : Nat) (l0_2 : List Int) (A0_3 : Option Addr) (c0_3 : Nat) (l0_3 : List S72) (a0_4 : Int) (a0_5 : ByteArray) (A0_6 : Option Addr) (c0_6 : Nat) (l0_6 : List S74) (A1 : Option Addr) (c1 : Nat) (l1 : List S42) (a2 : Int) (a3 : ByteArray) (a4 : Int) (t0 t1 : Int) (t2 : ByteArray) (t3 : Int) (t4 : ByteArray) (t5 : Bool) (w : World) (bk : w.heap[g]? = some (.cells #[.int .i64 a0_0, .int .i64 a0_1, .slice A0_2 l0_2.length c0_2, .slice A0_3 l0_3.length c0_3, .int .i64 a0_4, .string a0_5, .slice A0_6 l0_6.length c0_6] 26)) (hr0_2 : Kd.C (Kd.int .i64) w A0_2 l0_2.length l0_2) (hc0_2 : l0_2.length ≤ c0_2) (hr0_3 : Kd.C k72 w A0_3 l0_3.length l0_3) (hc0_3 : l0_3.length ≤ c0_3) (hr0_6 : Kd.C k74 w A0_6 l0_6.length l0_6) (hc0_6 : l0_6.length ≤ c0_6) (hr1 : Kd.C k42 w A1 l1.length l1) (hc1 : l1.length ≤ c1) (hs : pickFit l0_2 l0_3 a0_5 l0_6 l1)
  (eg : ∀ args w, (callFunc G args).run Tryd.prog w = .ok (.enter G args) w)
  (hp : ∀ (W : World) (gl : Nat) (x : S42), W.heap[gl]? = some (.cells #[.int .i64 x.f0, .int .i64 x.f1, .string x.f2, .int .i64 x.f3, .string x.f4, .bool x.f5] 42) → x.f4.size ≤ 140737488351232 → Calls Tryd.prog G #[.pointer (some ⟨gl, 0, none⟩), .string a3, .int .i64 a2] W fun e w' => e = .returned (.bool (p x)) ∧ Below W.heap.size W w') :
  Calls Tryd.prog 35 #[.pointer (some ⟨g, 0, none⟩), .slice A1 l1.length c1, .int .i64 a2, .string a3, .int .i64 a4, .func (.func G) #[] #[], .agg #[.int .i64 t0, .int .i64 t1, .string t2, .int .i64 t3, .string t4, .bool t5]] w fun e w' => ∃ v0_ : Value, e = .returned (.tuple #[v0_, .int .i64 (otherV p a0_0 a0_1 l0_2 l0_3 a0_4 a0_5 l0_6 l1 a2 a3 a4 ⟨t0, t1, t2, t3, t4, t5⟩).2]) ∧ Kd.R k42 42 w' w.heap.size (fun _ => True) v0_ (otherV p a0_0 a0_1 l0_2 l0_3 a0_4 a0_5 l0_6 l1 a2 a3 a4 ⟨t0, t1, t2, t3, t4, t5⟩).1 ∧ Below w.heap.size w w' := by
 obtain ⟨b1, h1⟩ : ∃ b, pickMayB a0_0 a0_1 l0_2 l0_3 a0_4 a0_5 l0_6 l1 a2 a3 = b := ⟨_, rfl⟩
 obtain ⟨b2, h2⟩ : ∃ b, decide (0 ≤ a2 ∧ a2 ≤ 1099510579200) = b := ⟨_, rfl⟩
 obtain ⟨V, hV⟩ : ∃ V, otherV p a0_0 a0_1 l0_2 l0_3 a0_4 a0_5 l0_6 l1 a2 a3 a4 ⟨t0, t1, t2, t3, t4, t5⟩ = V := ⟨_, rfl⟩
 rw [hV]
 unfold otherV at hV
 rw [h1, h2] at hV
 have C1 := am_ (fun W (hb : Below w.heap.size w W) => pick_May.calls g a0_0 a0_1 A0_2 c0_2 l0_2 A0_3 c0_3 l0_3 a0_4 a0_5 A0_6 c0_6 l0_6 A1 c1 l1 a2 a3 b1 W (kb_ bk hb) (c4_ hr0_2 hb) hc0_2 (c4_ hr0_3 hb) hc0_3 (c4_ hr0_6 hb) hc0_6 (c4_ hr1 hb) hc1 hs h1)
 have C2 := am_ (fun W => lease_Early_c.calls a2 b2 W (by unfold lease_Early_c.f; rw [h2]))
 have h8 : b1 = true → l1.length ≤ 8 := fun e => by
  have h := h1.trans e
  unfold pickMayB tableB at h
  simp only [Bool.and_eq_true, decide_eq_true_eq] at h
  omega
 have CTg := am_ (fun (o : Option S42) (e : findL l1 a4 = o) W (hb : Below w.heap.size w W) => table_Find_c.calls A1 c1 l1 a4 (gotL o).f0 (gotL o).f1 (gotL o).f2 (gotL o).f3 (gotL o).f4 (gotL o).f5 o.isSome W (c4_ hr1 hb) hc1 (by unfold table_Find_c.f; rw [if_pos hs.2.1, e]))
 have HX := am_ (fun x (hx : x ∈ l1) => hs.2.2 x hx)
 have HP := am_ hp
 have HR1 := am_ hr1
 have HB := am_ (Below.refl w.heap.size w)
 have BT := am_ (blk_new w (.cells #[.int .i64 t0, .int .i64 t1, .string t2, .int .i64 t3, .string t4, .bool t5] 42))
 clear h1 h2 bk hr0_2 hr0_3 hr0_6 hc0_2 hc0_3 hc0_6 hr1 hc1 hs hp
 cases b1 with
 | false =>
  rw [Bool.false_and, if_neg (by decide)] at hV
  subst hV
  clear C2 CTg HP h8
  go_enter Tryd.func35, Tryd.ntmps35
  go_wp2_with (first | (go_at_call 48; (with_reducible refine (C1.out _ (by repeat (with_reducible first | exact HB.out | apply p3_ | apply p1_ | apply p2_))).mono ?_); rintro e w1 ⟨rfl, hb2⟩; replace BT := am_ (kb_ (show _ from (by (with_reducible repeat (first | exact BT.out | refine k2_ ?_ _ | refine k3_ ?_ | refine k1_ ?_ _)))) hb2); replace HB := am_ (bt_ (show Below w.heap.size w _ from (by repeat (with_reducible first | exact HB.out | apply p3_ | apply p1_ | apply p2_))) hb2); clear hb2))
  go_ret2
  exact ⟨_, rfl, Kd.R_nil _ _ _ _ _, (by repeat (with_reducible first | exact HB.out | apply p3_ | apply p1_ | apply p2_))⟩
 | true =>
 cases b2 with
 | false =>
  rw [Bool.and_false, if_neg (by decide)] at hV
  subst hV
  clear CTg HP h8
  go_enter Tryd.func35, Tryd.ntmps35
  go_wp2_with (first | (go_at_call 48; (with_reducible refine (C1.out _ (by repeat (with_reducible first | exact HB.out | apply p3_ | apply p1_ | apply p2_))).mono ?_); rintro e w1 ⟨rfl, hb2⟩; replace BT := am_ (kb_ (show _ from (by (with_reducible repeat (first | exact BT.out | refine k2_ ?_ _ | refine k3_ ?_ | refine k1_ ?_ _)))) hb2); replace HB := am_ (bt_ (show Below w.heap.size w _ from (by repeat (with_reducible first | exact HB.out | apply p3_ | apply p1_ | apply p2_))) hb2); clear hb2) | (go_at_call 58; (with_reducible refine (C2.out _).mono ?_); rintro e wq ⟨rfl, ⟨nd, rfl⟩⟩))
  go_ret2
  exact ⟨_, rfl, Kd.R_nil _ _ _ _ _, (by repeat (with_reducible first | exact HB.out | apply p3_ | apply p1_ | apply p2_))⟩
 | true =>
 rw [Bool.and_self, if_pos rfl] at hV
 have h8' := h8 rfl
 clear h8
 have hn0 : w.heap.size ≠ w.heap.size + 1 := by omega
 cases hf : findL l1 a4 with
 | none =>
  have hT : thenL p l1 a4 ⟨t0, t1, t2, t3, t4, t5⟩ = (⟨0, 0, (⟨#[]⟩ : ByteArray), 0, (⟨#[]⟩ : ByteArray), false⟩ : S42) := by unfold thenL; rw [hf]; rfl
  rw [hT] at hV
  subst hV
  clear hT
  have CT := am_ (show ∀ W, Below w.heap.size w W → Calls Tryd.prog 59 #[.slice A1 l1.length c1, .int .i64 a4] W (fun e w' => e = .returned (.tuple #[.agg #[.int .i64 0, .int .i64 0, .string (⟨#[]⟩ : ByteArray), .int .i64 0, .string (⟨#[]⟩ : ByteArray), .bool false], .bool false]) ∧ Below W.heap.size W w') from fun W hb => CTg.out none hf W hb)
  clear CTg HP HX hf
  go_enter Tryd.func35, Tryd.ntmps35
  go_upto_region 7 with (first | (go_at_call 48; (with_reducible refine (C1.out _ (by repeat (with_reducible first | exact HB.out | apply p3_ | apply p1_ | apply p2_))).mono ?_); rintro e w1 ⟨rfl, hb2⟩; replace BT := am_ (kb_ (show _ from (by (with_reducible repeat (first | exact BT.out | refine k2_ ?_ _ | refine k3_ ?_ | refine k1_ ?_ _)))) hb2); replace HB := am_ (bt_ (show Below w.heap.size w _ from (by repeat (with_reducible first | exact HB.out | apply p3_ | apply p1_ | apply p2_))) hb2); clear hb2; have v0 := bc_ BT.out 0; have fv0 := bf_ BT.out 0) | (go_at_call 58; (with_reducible refine (C2.out _).mono ?_); rintro e wq ⟨rfl, ⟨nd, rfl⟩⟩) | (go_at_call 59; (with_reducible refine (CT.out _ (by repeat (with_reducible first | exact HB.out | apply p3_ | apply p1_ | apply p2_ | refine bs_ ?_ (Nat.le_refl _)))).mono ?_); rintro e w3 ⟨rfl, hb2⟩; replace BT := am_ (kb_ (o := (.cells #[.int .i64 a4, .int .i64 t1, .string t2, .int .i64 t3, .string t4, .bool t5] 42 (0, 0))) (by (with_reducible repeat (first | refine k2_ ?_ _ | refine k3_ ?_)); refine blk_put (cs := #[.int .i64 t0, .int .i64 t1, .string t2, .int .i64 t3, .string t4, .bool t5]) ?_ 0 _ rfl; (with_reducible repeat (first | refine k2_ ?_ _ | refine k3_ ?_)); exact BT.out) hb2); replace HB := am_ (bt_ (show Below w.heap.size w _ from (by repeat (with_reducible first | exact HB.out | apply p3_ | apply p1_ | apply p2_ | refine bs_ ?_ (Nat.le_refl _)))) hb2); clear hb2 v0 fv0; have BTA := am_ (k1_ BT.out (.cells #[.int .i64 0, .int .i64 0, .string (⟨#[]⟩ : ByteArray), .int .i64 0, .string (⟨#[]⟩ : ByteArray), .bool false] 42)); have v0 := bc_ BTA.out 0; have fv0 := bf_ BTA.out 0; have v1 := bc_ BTA.out 1; have fv1 := bf_ BTA.out 1; have v2 := bc_ BTA.out 2; have fv2 := bf_ BTA.out 2; have v3 := bc_ BTA.out 3; have fv3 := bf_ BTA.out 3; have v4 := bc_ BTA.out 4; have fv4 := bf_ BTA.out 4; have v5 := bc_ BTA.out 5; have fv5 := bf_ BTA.out 5))
  have HBW := am_ (show Below w.heap.size w (((((((w3.alloc (.cells #[.int .i64 0, .int .i64 0, .string (⟨#[]⟩ : ByteArray), .int .i64 0, .string (⟨#[]⟩ : ByteArray), .bool false] 42)).setCell ⟨w.heap.size, 0, none⟩ (.int .i64 0)).setCell ⟨w.heap.size, 1, none⟩ (.int .i64 0)).setCell ⟨w.heap.size, 2, none⟩ (.string (⟨#[]⟩ : ByteArray))).setCell ⟨w.heap.size, 3, none⟩ (.int .i64 0)).setCell ⟨w.heap.size, 4, none⟩ (.string (⟨#[]⟩ : ByteArray))).setCell ⟨w.heap.size, 5, none⟩ (.bool false)) from (by repeat (with_reducible first | exact HB.out | apply p3_ | apply p1_ | apply p2_ | refine bs_ ?_ (Nat.le_refl _))))
  have BTW := am_ (show (((((((w3.alloc (.cells #[.int .i64 0, .int .i64 0, .string (⟨#[]⟩ : ByteArray), .int .i64 0, .string (⟨#[]⟩ : ByteArray), .bool false] 42)).setCell ⟨w.heap.size, 0, none⟩ (.int .i64 0)).setCell ⟨w.heap.size, 1, none⟩ (.int .i64 0)).setCell ⟨w.heap.size, 2, none⟩ (.string (⟨#[]⟩ : ByteArray))).setCell ⟨w.heap.size, 3, none⟩ (.int .i64 0)).setCell ⟨w.heap.size, 4, none⟩ (.string (⟨#[]⟩ : ByteArray))).setCell ⟨w.heap.size, 5, none⟩ (.bool false)).heap[w.heap.size]? = some (.cells #[.int .i64 0, .int .i64 0, .string (⟨#[]⟩ : ByteArray), .int .i64 0, .string (⟨#[]⟩ : ByteArray), .bool false] 42) from (by (with_reducible repeat (first | refine k2_ ?_ _ | refine k3_ ?_)); refine blk_put (cs := #[.int .i64 0, .int .i64 0, .string (⟨#[]⟩ : ByteArray), .int .i64 0, .string (⟨#[]⟩ : ByteArray), .bool t5]) ?_ 5 _ rfl; (with_reducible repeat (first | refine k2_ ?_ _ | refine k3_ ?_)); refine blk_put (cs := #[.int .i64 0, .int .i64 0, .string (⟨#[]⟩ : ByteArray), .int .i64 0, .string t4, .bool t5]) ?_ 4 _ rfl; (with_reducible repeat (first | refine k2_ ?_ _ | refine k3_ ?_)); refine blk_put (cs := #[.int .i64 0, .int .i64 0, .string (⟨#[]⟩ : ByteArray), .int .i64 t3, .string t4, .bool t5]) ?_ 3 _ rfl; (with_reducible repeat (first | refine k2_ ?_ _ | refine k3_ ?_)); refine blk_put (cs := #[.int .i64 0, .int .i64 0, .string t2, .int .i64 t3, .string t4, .bool t5]) ?_ 2 _ rfl; (with_reducible repeat (first | refine k2_ ?_ _ | refine k3_ ?_)); refine blk_put (cs := #[.int .i64 0, .int .i64 t1, .string t2, .int .i64 t3, .string t4, .bool t5]) ?_ 1 _ rfl; (with_reducible repeat (first | refine k2_ ?_ _ | refine k3_ ?_)); refine blk_put (cs := #[.int .i64 a4, .int .i64 t1, .string t2, .int .i64 t3, .string t4, .bool t5]) ?_ 0 _ rfl; (with_reducible repeat (first | refine k2_ ?_ _ | refine k3_ ?_)); exact (k1_ BT.out (.cells #[.int .i64 0, .int .i64 0, .string (⟨#[]⟩ : ByteArray), .int .i64 0, .string (⟨#[]⟩ : ByteArray), .bool false] 42))))
  clear HB BT BTA v0 fv0 v1 fv1 v2 fv2 v3 fv3 v4 fv4 v5 fv5
  generalize (((((((w3.alloc (.cells #[.int .i64 0, .int .i64 0, .string (⟨#[]⟩ : ByteArray), .int .i64 0, .string (⟨#[]⟩ : ByteArray), .bool false] 42)).setCell ⟨w.heap.size, 0, none⟩ (.int .i64 0)).setCell ⟨w.heap.size, 1, none⟩ (.int .i64 0)).setCell ⟨w.heap.size, 2, none⟩ (.string (⟨#[]⟩ : ByteArray))).setCell ⟨w.heap.size, 3, none⟩ (.int .i64 0)).setCell ⟨w.heap.size, 4, none⟩ (.string (⟨#[]⟩ : ByteArray))).setCell ⟨w.heap.size, 5, none⟩ (.bool false)) = W6 at HBW BTW ⊢
  have HB := HBW
  have BT := BTW
  clear HBW BTW
  go_wp2_with (first | ((with_reducible refine gate_builtin (b := .append) (xs := #[.const (.slice none 0 0), .tmp 49]) rfl ?_); at_builtin; refine Kd.R_append_rows k42 (w0 := w) w.heap.size rfl (.const (.slice none 0 0)) (.tmp 49) 27 42 (.agg #[.int .i64 0, .int .i64 0, .string ⟨#[]⟩, .int .i64 0, .string ⟨#[]⟩, .bool false]) 64 rfl Tryd.underlying27 drop_other.info rfl (by decide) (by omega) (.slice none 0 0) [] l1 _ _ _ (fun k => k ≠ w.heap.size) (fun _ => False) rfl rfl (Kd.R_nil _ _ _ _ _) ?aR (fun _ _ h => h) (fun _ h => h.elim) ?aF ?aB ?aS ?aL ?_; (case aR => exact c4_ HR1.out (by repeat (with_reducible first | exact HB.out | apply p3_ | apply p1_ | apply p2_ | refine bs_ ?_ (Nat.le_refl _)))); (case aB => exact (by repeat (with_reducible first | exact HB.out | apply p3_ | apply p1_ | apply p2_ | refine bs_ ?_ (Nat.le_refl _)))); (case aF => exact (fun k hk e => absurd (blk_lt (o := (.cells #[.int .i64 0, .int .i64 0, .string (⟨#[]⟩ : ByteArray), .int .i64 0, .string (⟨#[]⟩ : ByteArray), .bool false] 42 (0, 0))) BT.out) (by omega))); (case aS => exact (show Below w.heap.size w _ from (by repeat (with_reducible first | exact HB.out | apply p3_ | apply p1_ | apply p2_ | refine bs_ ?_ (Nat.le_refl _)))).size); (case aL => simp only [List.length_nil, Nat.zero_add]; omega); intro v9 w9 ho hb hg hat; rw [List.nil_append] at ho; have BT9 := am_ (blk_grown (o := (.cells #[.int .i64 0, .int .i64 0, .string (⟨#[]⟩ : ByteArray), .int .i64 0, .string (⟨#[]⟩ : ByteArray), .bool false] 42 (0, 0))) BT.out hg (fun e => by cases e)); replace HB := am_ hb; have HO := am_ ho; clear hg hat hb ho; obtain ⟨Ao, co, eo⟩ := Kd.R_slice HO.out; subst eo))
  clear C1 C2 CT
  go_loopg [53] l1.length (fun d v53 w' => ∃ i : Nat, i + d = l1.length ∧ v53 = .int .i64 (i : Int) ∧ Aside0 (Below w.heap.size w w') ∧ Aside0 (w'.heap[w.heap.size]? = some (.cells #[.int .i64 0, .int .i64 0, .string (⟨#[]⟩ : ByteArray), .int .i64 0, .string (⟨#[]⟩ : ByteArray), .bool false] 42)) ∧ Aside0 (Kd.R k42 42 w' w.heap.size (fun k => k ≠ w.heap.size) (.slice Ao l1.length co) (swapL (l1.take i) a4 (⟨0, 0, (⟨#[]⟩ : ByteArray), 0, (⟨#[]⟩ : ByteArray), false⟩ : S42) ++ l1.drop i)))
  case atStart => exact ⟨0, by omega, rfl, HB, BT9, HO⟩
  case round =>
   clear HB BT9 HO
   obtain ⟨i, hd, rfl, HB, BT, HO⟩ := hrel
   by_cases hlt : i < l1.length
   ·have hlz : (i : Int) < (l1.length : Int) := by omega
    have hsl := swap_len l1 a4 (⟨0, 0, (⟨#[]⟩ : ByteArray), 0, (⟨#[]⟩ : ByteArray), false⟩ : S42) i
    obtain ⟨g9, cap9, e9, hg9, _, _⟩ := Kd.R_form HO.out (by omega)
    injection e9 with ea en ec
    subst ea ec
    clear en
    have hne : g9 ≠ w.heap.size := HO.out.1 g9 rfl
    have hne2 : w.heap.size ≠ g9 := fun e => hne e.symm
    obtain ⟨ce, hcl, hM, hcc, hfr⟩ := Kd.R_elem HO.out z42 (i : Int) (by omega) hlz
    rw [Int.toNat_natCast, List.getD_eq_getElem?_getD, swap_get l1 a4 (⟨0, 0, (⟨#[]⟩ : ByteArray), 0, (⟨#[]⟩ : ByteArray), false⟩ : S42) i hlt] at hM
    obtain rfl := k42_openM hM
    have hS := swap_step l1 a4 (⟨0, 0, (⟨#[]⟩ : ByteArray), 0, (⟨#[]⟩ : ByteArray), false⟩ : S42) i hlt _ (List.getElem?_eq_getElem hlt)
    have hK := swap_keep l1 a4 (⟨0, 0, (⟨#[]⟩ : ByteArray), 0, (⟨#[]⟩ : ByteArray), false⟩ : S42) i hlt
    rw [Int.toNat_natCast] at hcc hfr
    have hR := Kd.R_seg HO.out (i : Int) (by omega) hlz (seg := [.int .i64 0, .int .i64 0, .string (⟨#[]⟩ : ByteArray), .int .i64 0, .string (⟨#[]⟩ : ByteArray), .bool false]) (j := 0) hcl (by rw [Int.toNat_natCast]; exact hcc) (show 6 ≤ 6 from by decide) (x' := (⟨0, 0, (⟨#[]⟩ : ByteArray), 0, (⟨#[]⟩ : ByteArray), false⟩ : S42)) (k42_mkM _ _ _ (⟨0, 0, (⟨#[]⟩ : ByteArray), 0, (⟨#[]⟩ : ByteArray), false⟩ : S42)) (fun _ hk => hk)
    rw [Int.toNat_natCast] at hR
    simp only [Option.getD_some] at hcc
    have xc0 := hcc 0 _ rfl
    have xf0 := hfr 0
    have xc1 := hcc 1 _ rfl
    have xf1 := hfr 1
    have xc2 := hcc 2 _ rfl
    have xf2 := hfr 2
    have xc3 := hcc 3 _ rfl
    have xf3 := hfr 3
    have xc4 := hcc 4 _ rfl
    have xf4 := hfr 4
    have xc5 := hcc 5 _ rfl
    have xf5 := hfr 5
    simp only [show (k42).sz = 6 from rfl, Nat.add_zero] at xc0 xf0 xc1 xf1 xc2 xf2 xc3 xf3 xc4 xf4 xc5 xf5
    clear hcc hfr hM hcl
    generalize l1[i] = x at xc0 xc1 xc2 xc3 xc4 xc5 hS hK
    obtain ⟨x0, x1, x2, x3, x4, x5⟩ := x
    simp only at xc0 xc1 xc2 xc3 xc4 xc5 hS hK
    have v0 := bc_ BT.out 0
    have fv0 := bf_ BT.out 0
    have v1 := bc_ BT.out 1
    have fv1 := bf_ BT.out 1
    have v2 := bc_ BT.out 2
    have fv2 := bf_ BT.out 2
    have v3 := bc_ BT.out 3
    have fv3 := bf_ BT.out 3
    have v4 := bc_ BT.out 4
    have fv4 := bf_ BT.out 4
    have v5 := bc_ BT.out 5
    have fv5 := bf_ BT.out 5
    by_cases e : x0 = a4
    ·rw [if_pos e] at hS
     have eb : (x0 == a4) = true := by simpa using e
     have HS := am_ hS
     have HRr := am_ hR
     clear hS hK hR e
     go_wp2
     go_roundg (l1.length - (i + 1))
     case measure => first | omega | (simp; omega)
     case rel =>
      refine ⟨i + 1, by omega, by go_num, ⟨?_⟩, ⟨?_⟩, ⟨?_⟩⟩
      ·repeat (first | exact HB.out | refine bs_ ?_ hg9)
      ·exact blk_grown BT.out HRr.out.2 (fun e => hne2 (e5_ e))
      ·rw [← HS.out]; exact HRr.out.1
    ·have eb : (x0 == a4) = false := by simpa using e
     have HS := am_ (hK e)
     clear hS hK hR e
     go_wp2
     go_roundg (l1.length - (i + 1))
     case measure => first | omega | (simp; omega)
     case rel =>
      exact ⟨i + 1, by omega, by go_num, HB, BT, ⟨by rw [← HS.out]; exact HO.out⟩⟩
   ·have hlz : ¬ (i : Int) < (l1.length : Int) := by omega
    have HE := am_ (show swapL (l1.take i) a4 (⟨0, 0, (⟨#[]⟩ : ByteArray), 0, (⟨#[]⟩ : ByteArray), false⟩ : S42) ++ l1.drop i = swapL l1 a4 (⟨0, 0, (⟨#[]⟩ : ByteArray), 0, (⟨#[]⟩ : ByteArray), false⟩ : S42) by rw [List.take_of_length_le (by omega), List.drop_eq_nil_of_le (by omega), List.append_nil])
    go_wp2
    go_ret2
    exact ⟨_, rfl, by rw [← HE.out]; exact Kd.R_mono HO.out (fun _ _ => trivial), HB.out⟩
 | some y =>
 have hy4 := HX.out y (List.mem_of_find?_eq_some hf)
 obtain ⟨y0, y1, y2, y3, y4, y5⟩ := y
 simp only at hy4
 cases hq : p ⟨y0, y1, y2, y3, y4, y5⟩ with
 | true =>
  have hT : thenL p l1 a4 ⟨t0, t1, t2, t3, t4, t5⟩ = (⟨a4, t1, t2, t3, t4, t5⟩ : S42) := by unfold thenL; rw [hf]; simp only [hq, if_true]
  rw [hT] at hV
  subst hV
  clear hT
  have CT := am_ (show ∀ W, Below w.heap.size w W → Calls Tryd.prog 59 #[.slice A1 l1.length c1, .int .i64 a4] W (fun e w' => e = .returned (.tuple #[.agg #[.int .i64 y0, .int .i64 y1, .string y2, .int .i64 y3, .string y4, .bool y5], .bool true]) ∧ Below W.heap.size W w') from fun W hb => CTg.out (some ⟨y0, y1, y2, y3, y4, y5⟩) hf W hb)
  have HI := am_ (fun W (gl : Nat) (bk : W.heap[gl]? = some (.cells #[.int .i64 y0, .int .i64 y1, .string y2, .int .i64 y3, .string y4, .bool y5] 42)) => HP.out W gl ⟨y0, y1, y2, y3, y4, y5⟩ bk hy4)
  rw [hq] at HI
  clear hq hy4
  clear CTg HP HX hf
  go_enter Tryd.func35, Tryd.ntmps35
  go_wp2_with (first | (go_at_call 48; (with_reducible refine (C1.out _ (by repeat (with_reducible first | exact HB.out | apply p3_ | apply p1_ | apply p2_))).mono ?_); rintro e w1 ⟨rfl, hb2⟩; replace BT := am_ (kb_ (show _ from (by (with_reducible repeat (first | exact BT.out | refine k2_ ?_ _ | refine k3_ ?_ | refine k1_ ?_ _)))) hb2); replace HB := am_ (bt_ (show Below w.heap.size w _ from (by repeat (with_reducible first | exact HB.out | apply p3_ | apply p1_ | apply p2_))) hb2); clear hb2; have v0 := bc_ BT.out 0; have fv0 := bf_ BT.out 0) | (go_at_call 58; (with_reducible refine (C2.out _).mono ?_); rintro e wq ⟨rfl, ⟨nd, rfl⟩⟩) | (go_at_call 59; (with_reducible refine (CT.out _ (by repeat (with_reducible first | exact HB.out | apply p3_ | apply p1_ | apply p2_ | refine bs_ ?_ (Nat.le_refl _)))).mono ?_); rintro e w3 ⟨rfl, hb2⟩; replace BT := am_ (kb_ (o := (.cells #[.int .i64 a4, .int .i64 t1, .string t2, .int .i64 t3, .string t4, .bool t5] 42 (0, 0))) (by (with_reducible repeat (first | refine k2_ ?_ _ | refine k3_ ?_)); refine blk_put (cs := #[.int .i64 t0, .int .i64 t1, .string t2, .int .i64 t3, .string t4, .bool t5]) ?_ 0 _ rfl; (with_reducible repeat (first | refine k2_ ?_ _ | refine k3_ ?_)); exact BT.out) hb2); replace HB := am_ (bt_ (show Below w.heap.size w _ from (by repeat (with_reducible first | exact HB.out | apply p3_ | apply p1_ | apply p2_ | refine bs_ ?_ (Nat.le_refl _)))) hb2); clear hb2 v0 fv0))
  refine (HI.out _ _ (blk_new w3 (.cells #[.int .i64 y0, .int .i64 y1, .string y2, .int .i64 y3, .string y4, .bool y5] 42))).mono ?_
  rintro e w4 ⟨rfl, hb2⟩
  replace BT := am_ (kb_ (k1_ BT.out (.cells #[.int .i64 y0, .int .i64 y1, .string y2, .int .i64 y3, .string y4, .bool y5] 42)) hb2)
  have BX := am_ (kb_ (blk_new w3 (.cells #[.int .i64 y0, .int .i64 y1, .string y2, .int .i64 y3, .string y4, .bool y5] 42)) hb2)
  replace HB := am_ (bt_ (p3_ HB.out (.cells #[.int .i64 y0, .int .i64 y1, .string y2, .int .i64 y3, .string y4, .bool y5] 42)) hb2)
  clear hb2 HI
  go_wp2_with (first | ((with_reducible refine gate_builtin (b := .append) (xs := #[.const (.slice none 0 0), .tmp 49]) rfl ?_); at_builtin; refine Kd.R_append_rows k42 (w0 := w) w.heap.size rfl (.const (.slice none 0 0)) (.tmp 49) 27 42 (.agg #[.int .i64 0, .int .i64 0, .string ⟨#[]⟩, .int .i64 0, .string ⟨#[]⟩, .bool false]) 64 rfl Tryd.underlying27 drop_other.info rfl (by decide) (by omega) (.slice none 0 0) [] l1 _ _ _ (fun k => k ≠ w.heap.size) (fun _ => False) rfl rfl (Kd.R_nil _ _ _ _ _) ?aR (fun _ _ h => h) (fun _ h => h.elim) ?aF ?aB ?aS ?aL ?_; (case aR => exact c4_ HR1.out (by repeat (with_reducible first | exact HB.out | apply p3_ | apply p1_ | apply p2_ | refine bs_ ?_ (Nat.le_refl _)))); (case aB => exact (by repeat (with_reducible first | exact HB.out | apply p3_ | apply p1_ | apply p2_ | refine bs_ ?_ (Nat.le_refl _)))); (case aF => exact (fun k hk e => absurd (blk_lt (o := (.cells #[.int .i64 a4, .int .i64 t1, .string t2, .int .i64 t3, .string t4, .bool t5] 42 (0, 0))) BT.out) (by omega))); (case aS => exact (show Below w.heap.size w _ from (by repeat (with_reducible first | exact HB.out | apply p3_ | apply p1_ | apply p2_ | refine bs_ ?_ (Nat.le_refl _)))).size); (case aL => simp only [List.length_nil, Nat.zero_add]; omega); intro v9 w9 ho hb hg hat; rw [List.nil_append] at ho; have BT9 := am_ (blk_grown (o := (.cells #[.int .i64 a4, .int .i64 t1, .string t2, .int .i64 t3, .string t4, .bool t5] 42 (0, 0))) BT.out hg (fun e => by cases e)); replace HB := am_ hb; have HO := am_ ho; clear hg hat hb ho; obtain ⟨Ao, co, eo⟩ := Kd.R_slice HO.out; subst eo))
  clear C1 C2 CT
  go_loopg [53] l1.length (fun d v53 w' => ∃ i : Nat, i + d = l1.length ∧ v53 = .int .i64 (i : Int) ∧ Aside0 (Below w.heap.size w w') ∧ Aside0 (w'.heap[w.heap.size]? = some (.cells #[.int .i64 a4, .int .i64 t1, .string t2, .int .i64 t3, .string t4, .bool t5] 42)) ∧ Aside0 (Kd.R k42 42 w' w.heap.size (fun k => k ≠ w.heap.size) (.slice Ao l1.length co) (swapL (l1.take i) a4 (⟨a4, t1, t2, t3, t4, t5⟩ : S42) ++ l1.drop i)))
  case atStart => exact ⟨0, by omega, rfl, HB, BT9, HO⟩
  case round =>
   clear HB BT9 HO
   obtain ⟨i, hd, rfl, HB, BT, HO⟩ := hrel
   by_cases hlt : i < l1.length
   ·have hlz : (i : Int) < (l1.length : Int) := by omega
    have hsl := swap_len l1 a4 (⟨a4, t1, t2, t3, t4, t5⟩ : S42) i
    obtain ⟨g9, cap9, e9, hg9, _, _⟩ := Kd.R_form HO.out (by omega)
    injection e9 with ea en ec
    subst ea ec
    clear en
    have hne : g9 ≠ w.heap.size := HO.out.1 g9 rfl
    have hne2 : w.heap.size ≠ g9 := fun e => hne e.symm
    obtain ⟨ce, hcl, hM, hcc, hfr⟩ := Kd.R_elem HO.out z42 (i : Int) (by omega) hlz
    rw [Int.toNat_natCast, List.getD_eq_getElem?_getD, swap_get l1 a4 (⟨a4, t1, t2, t3, t4, t5⟩ : S42) i hlt] at hM
    obtain rfl := k42_openM hM
    have hS := swap_step l1 a4 (⟨a4, t1, t2, t3, t4, t5⟩ : S42) i hlt _ (List.getElem?_eq_getElem hlt)
    have hK := swap_keep l1 a4 (⟨a4, t1, t2, t3, t4, t5⟩ : S42) i hlt
    rw [Int.toNat_natCast] at hcc hfr
    have hR := Kd.R_seg HO.out (i : Int) (by omega) hlz (seg := [.int .i64 a4, .int .i64 t1, .string t2, .int .i64 t3, .string t4, .bool t5]) (j := 0) hcl (by rw [Int.toNat_natCast]; exact hcc) (show 6 ≤ 6 from by decide) (x' := (⟨a4, t1, t2, t3, t4, t5⟩ : S42)) (k42_mkM _ _ _ (⟨a4, t1, t2, t3, t4, t5⟩ : S42)) (fun _ hk => hk)
    rw [Int.toNat_natCast] at hR
    simp only [Option.getD_some] at hcc
    have xc0 := hcc 0 _ rfl
    have xf0 := hfr 0
    have xc1 := hcc 1 _ rfl
    have xf1 := hfr 1
    have xc2 := hcc 2 _ rfl
    have xf2 := hfr 2
    have xc3 := hcc 3 _ rfl
    have xf3 := hfr 3
    have xc4 := hcc 4 _ rfl
    have xf4 := hfr 4
    have xc5 := hcc 5 _ rfl
    have xf5 := hfr 5
    simp only [show (k42).sz = 6 from rfl, Nat.add_zero] at xc0 xf0 xc1 xf1 xc2 xf2 xc3 xf3 xc4 xf4 xc5 xf5
    clear hcc hfr hM hcl
    generalize l1[i] = x at xc0 xc1 xc2 xc3 xc4 xc5 hS hK
    obtain ⟨x0, x1, x2, x3, x4, x5⟩ := x
    simp only at xc0 xc1 xc2 xc3 xc4 xc5 hS hK
    have v0 := bc_ BT.out 0
    have fv0 := bf_ BT.out 0
    have v1 := bc_ BT.out 1
    have fv1 := bf_ BT.out 1
    have v2 := bc_ BT.out 2
    have fv2 := bf_ BT.out 2
    have v3 := bc_ BT.out 3
    have fv3 := bf_ BT.out 3
    have v4 := bc_ BT.out 4
    have fv4 := bf_ BT.out 4
    have v5 := bc_ BT.out 5
    have fv5 := bf_ BT.out 5
    by_cases e : x0 = a4
    ·rw [if_pos e] at hS
     have eb : (x0 == a4) = true := by simpa using e
     have HS := am_ hS
     have HRr := am_ hR
     clear hS hK hR e
     go_wp2
     go_roundg (l1.length - (i + 1))
     case measure => first | omega | (simp; omega)
     case rel =>
      refine ⟨i + 1, by omega, by go_num, ⟨?_⟩, ⟨?_⟩, ⟨?_⟩⟩
      ·repeat (first | exact HB.out | refine bs_ ?_ hg9)
      ·exact blk_grown BT.out HRr.out.2 (fun e => hne2 (e5_ e))
      ·rw [← HS.out]; exact HRr.out.1
    ·have eb : (x0 == a4) = false := by simpa using e
     have HS := am_ (hK e)
     clear hS hK hR e
     go_wp2
     go_roundg (l1.length - (i + 1))
     case measure => first | omega | (simp; omega)
     case rel =>
      exact ⟨i + 1, by omega, by go_num, HB, BT, ⟨by rw [← HS.out]; exact HO.out⟩⟩
   ·have hlz : ¬ (i : Int) < (l1.length : Int) := by omega
    have HE := am_ (show swapL (l1.take i) a4 (⟨a4, t1, t2, t3, t4, t5⟩ : S42) ++ l1.drop i = swapL l1 a4 (⟨a4, t1, t2, t3, t4, t5⟩ : S42) by rw [List.take_of_length_le (by omega), List.drop_eq_nil_of_le (by omega), List.append_nil])
    go_wp2
    go_ret2
    exact ⟨_, rfl, by rw [← HE.out]; exact Kd.R_mono HO.out (fun _ _ => trivial), HB.out⟩
 | false =>
  have hT : thenL p l1 a4 ⟨t0, t1, t2, t3, t4, t5⟩ = (⟨y0, y1, y2, y3, y4, y5⟩ : S42) := by unfold thenL; rw [hf]; simp only [hq, Bool.false_eq_true, if_false]
  rw [hT] at hV
  subst hV
  clear hT
  have CT := am_ (show ∀ W, Below w.heap.size w W → Calls Tryd.prog 59 #[.slice A1 l1.length c1, .int .i64 a4] W (fun e w' => e = .returned (.tuple #[.agg #[.int .i64 y0, .int .i64 y1, .string y2, .int .i64 y3, .string y4, .bool y5], .bool true]) ∧ Below W.heap.size W w') from fun W hb => CTg.out (some ⟨y0, y1, y2, y3, y4, y5⟩) hf W hb)
  have HI := am_ (fun W (gl : Nat) (bk : W.heap[gl]? = some (.cells #[.int .i64 y0, .int .i64 y1, .string y2, .int .i64 y3, .string y4, .bool y5] 42)) => HP.out W gl ⟨y0, y1, y2, y3, y4, y5⟩ bk hy4)
  rw [hq] at HI
  clear hq hy4
  clear CTg HP HX hf
  go_enter Tryd.func35, Tryd.ntmps35
  go_wp2_with (first | (go_at_call 48; (with_reducible refine (C1.out _ (by repeat (with_reducible first | exact HB.out | apply p3_ | apply p1_ | apply p2_))).mono ?_); rintro e w1 ⟨rfl, hb2⟩; replace BT := am_ (kb_ (show _ from (by (with_reducible repeat (first | exact BT.out | refine k2_ ?_ _ | refine k3_ ?_ | refine k1_ ?_ _)))) hb2); replace HB := am_ (bt_ (show Below w.heap.size w _ from (by repeat (with_reducible first | exact HB.out | apply p3_ | apply p1_ | apply p2_))) hb2); clear hb2; have v0 := bc_ BT.out 0; have fv0 := bf_ BT.out 0) | (go_at_call 58; (with_reducible refine (C2.out _).mono ?_); rintro e wq ⟨rfl, ⟨nd, rfl⟩⟩) | (go_at_call 59; (with_reducible refine (CT.out _ (by repeat (with_reducible first | exact HB.out | apply p3_ | apply p1_ | apply p2_ | refine bs_ ?_ (Nat.le_refl _)))).mono ?_); rintro e w3 ⟨rfl, hb2⟩; replace BT := am_ (kb_ (o := (.cells #[.int .i64 a4, .int .i64 t1, .string t2, .int .i64 t3, .string t4, .bool t5] 42 (0, 0))) (by (with_reducible repeat (first | refine k2_ ?_ _ | refine k3_ ?_)); refine blk_put (cs := #[.int .i64 t0, .int .i64 t1, .string t2, .int .i64 t3, .string t4, .bool t5]) ?_ 0 _ rfl; (with_reducible repeat (first | refine k2_ ?_ _ | refine k3_ ?_)); exact BT.out) hb2); replace HB := am_ (bt_ (show Below w.heap.size w _ from (by repeat (with_reducible first | exact HB.out | apply p3_ | apply p1_ | apply p2_ | refine bs_ ?_ (Nat.le_refl _)))) hb2); clear hb2 v0 fv0))
  refine (HI.out _ _ (blk_new w3 (.cells #[.int .i64 y0, .int .i64 y1, .string y2, .int .i64 y3, .string y4, .bool y5] 42))).mono ?_
  rintro e w4 ⟨rfl, hb2⟩
  replace BT := am_ (kb_ (k1_ BT.out (.cells #[.int .i64 y0, .int .i64 y1, .string y2, .int .i64 y3, .string y4, .bool y5] 42)) hb2)
  have BX := am_ (kb_ (blk_new w3 (.cells #[.int .i64 y0, .int .i64 y1, .string y2, .int .i64 y3, .string y4, .bool y5] 42)) hb2)
  replace HB := am_ (bt_ (p3_ HB.out (.cells #[.int .i64 y0, .int .i64 y1, .string y2, .int .i64 y3, .string y4, .bool y5] 42)) hb2)
  clear hb2 HI
  have v0 := bc_ BT.out 0
  have fv0 := bf_ BT.out 0
  have v1 := bc_ BT.out 1
  have fv1 := bf_ BT.out 1
  have v2 := bc_ BT.out 2
  have fv2 := bf_ BT.out 2
  have v3 := bc_ BT.out 3
  have fv3 := bf_ BT.out 3
  have v4 := bc_ BT.out 4
  have fv4 := bf_ BT.out 4
  have v5 := bc_ BT.out 5
  have fv5 := bf_ BT.out 5
  have x0 := bc_ BX.out 0
  have fx0 := bf_ BX.out 0
  have x1 := bc_ BX.out 1
  have fx1 := bf_ BX.out 1
  have x2 := bc_ BX.out 2
  have fx2 := bf_ BX.out 2
  have x3 := bc_ BX.out 3
  have fx3 := bf_ BX.out 3
  have x4 := bc_ BX.out 4
  have fx4 := bf_ BX.out 4
  have x5 := bc_ BX.out 5
  have fx5 := bf_ BX.out 5
  go_upto_region 7 with (fail)
  have HBW := am_ (show Below w.heap.size w ((((((w4.setCell ⟨w.heap.size, 0, none⟩ (.int .i64 y0)).setCell ⟨w.heap.size, 1, none⟩ (.int .i64 y1)).setCell ⟨w.heap.size, 2, none⟩ (.string y2)).setCell ⟨w.heap.size, 3, none⟩ (.int .i64 y3)).setCell ⟨w.heap.size, 4, none⟩ (.string y4)).setCell ⟨w.heap.size, 5, none⟩ (.bool y5)) from (by repeat (with_reducible first | exact HB.out | apply p3_ | apply p1_ | apply p2_ | refine bs_ ?_ (Nat.le_refl _))))
  have BTW := am_ (show ((((((w4.setCell ⟨w.heap.size, 0, none⟩ (.int .i64 y0)).setCell ⟨w.heap.size, 1, none⟩ (.int .i64 y1)).setCell ⟨w.heap.size, 2, none⟩ (.string y2)).setCell ⟨w.heap.size, 3, none⟩ (.int .i64 y3)).setCell ⟨w.heap.size, 4, none⟩ (.string y4)).setCell ⟨w.heap.size, 5, none⟩ (.bool y5)).heap[w.heap.size]? = some (.cells #[.int .i64 y0, .int .i64 y1, .string y2, .int .i64 y3, .string y4, .bool y5] 42) from (by (with_reducible repeat (first | refine k2_ ?_ _ | refine k3_ ?_)); refine blk_put (cs := #[.int .i64 y0, .int .i64 y1, .string y2, .int .i64 y3, .string y4, .bool t5]) ?_ 5 _ rfl; (with_reducible repeat (first | refine k2_ ?_ _ | refine k3_ ?_)); refine blk_put (cs := #[.int .i64 y0, .int .i64 y1, .string y2, .int .i64 y3, .string t4, .bool t5]) ?_ 4 _ rfl; (with_reducible repeat (first | refine k2_ ?_ _ | refine k3_ ?_)); refine blk_put (cs := #[.int .i64 y0, .int .i64 y1, .string y2, .int .i64 t3, .string t4, .bool t5]) ?_ 3 _ rfl; (with_reducible repeat (first | refine k2_ ?_ _ | refine k3_ ?_)); refine blk_put (cs := #[.int .i64 y0, .int .i64 y1, .string t2, .int .i64 t3, .string t4, .bool t5]) ?_ 2 _ rfl; (with_reducible repeat (first | refine k2_ ?_ _ | refine k3_ ?_)); refine blk_put (cs := #[.int .i64 y0, .int .i64 t1, .string t2, .int .i64 t3, .string t4, .bool t5]) ?_ 1 _ rfl; (with_reducible repeat (first | refine k2_ ?_ _ | refine k3_ ?_)); refine blk_put (cs := #[.int .i64 a4, .int .i64 t1, .string t2, .int .i64 t3, .string t4, .bool t5]) ?_ 0 _ rfl; (with_reducible repeat (first | refine k2_ ?_ _ | refine k3_ ?_)); exact BT.out))
  clear HB BT BX v0 fv0 x0 fx0 v1 fv1 x1 fx1 v2 fv2 x2 fx2 v3 fv3 x3 fx3 v4 fv4 x4 fx4 v5 fv5 x5 fx5
  generalize ((((((w4.setCell ⟨w.heap.size, 0, none⟩ (.int .i64 y0)).setCell ⟨w.heap.size, 1, none⟩ (.int .i64 y1)).setCell ⟨w.heap.size, 2, none⟩ (.string y2)).setCell ⟨w.heap.size, 3, none⟩ (.int .i64 y3)).setCell ⟨w.heap.size, 4, none⟩ (.string y4)).setCell ⟨w.heap.size, 5, none⟩ (.bool y5)) = W6 at HBW BTW ⊢
  have HB := HBW
  have BT := BTW
  clear HBW BTW
  go_wp2_with (first | ((with_reducible refine gate_builtin (b := .append) (xs := #[.const (.slice none 0 0), .tmp 49]) rfl ?_); at_builtin; refine Kd.R_append_rows k42 (w0 := w) w.heap.size rfl (.const (.slice none 0 0)) (.tmp 49) 27 42 (.agg #[.int .i64 0, .int .i64 0, .string ⟨#[]⟩, .int .i64 0, .string ⟨#[]⟩, .bool false]) 64 rfl Tryd.underlying27 drop_other.info rfl (by decide) (by omega) (.slice none 0 0) [] l1 _ _ _ (fun k => k ≠ w.heap.size) (fun _ => False) rfl rfl (Kd.R_nil _ _ _ _ _) ?aR (fun _ _ h => h) (fun _ h => h.elim) ?aF ?aB ?aS ?aL ?_; (case aR => exact c4_ HR1.out (by repeat (with_reducible first | exact HB.out | apply p3_ | apply p1_ | apply p2_ | refine bs_ ?_ (Nat.le_refl _)))); (case aB => exact (by repeat (with_reducible first | exact HB.out | apply p3_ | apply p1_ | apply p2_ | refine bs_ ?_ (Nat.le_refl _)))); (case aF => exact (fun k hk e => absurd (blk_lt (o := (.cells #[.int .i64 y0, .int .i64 y1, .string y2, .int .i64 y3, .string y4, .bool y5] 42 (0, 0))) BT.out) (by omega))); (case aS => exact (show Below w.heap.size w _ from (by repeat (with_reducible first | exact HB.out | apply p3_ | apply p1_ | apply p2_ | refine bs_ ?_ (Nat.le_refl _)))).size); (case aL => simp only [List.length_nil, Nat.zero_add]; omega); intro v9 w9 ho hb hg hat; rw [List.nil_append] at ho; have BT9 := am_ (blk_grown (o := (.cells #[.int .i64 y0, .int .i64 y1, .string y2, .int .i64 y3, .string y4, .bool y5] 42 (0, 0))) BT.out hg (fun e => by cases e)); replace HB := am_ hb; have HO := am_ ho; clear hg hat hb ho; obtain ⟨Ao, co, eo⟩ := Kd.R_slice HO.out; subst eo))
  clear C1 C2 CT
  go_loopg [53] l1.length (fun d v53 w' => ∃ i : Nat, i + d = l1.length ∧ v53 = .int .i64 (i : Int) ∧ Aside0 (Below w.heap.size w w') ∧ Aside0 (w'.heap[w.heap.size]? = some (.cells #[.int .i64 y0, .int .i64 y1, .string y2, .int .i64 y3, .string y4, .bool y5] 42)) ∧ Aside0 (Kd.R k42 42 w' w.heap.size (fun k => k ≠ w.heap.size) (.slice Ao l1.length co) (swapL (l1.take i) a4 (⟨y0, y1, y2, y3, y4, y5⟩ : S42) ++ l1.drop i)))
  case atStart => exact ⟨0, by omega, rfl, HB, BT9, HO⟩
  case round =>
   clear HB BT9 HO
   obtain ⟨i, hd, rfl, HB, BT, HO⟩ := hrel
   by_cases hlt : i < l1.length
   ·have hlz : (i : Int) < (l1.length : Int) := by omega
    have hsl := swap_len l1 a4 (⟨y0, y1, y2, y3, y4, y5⟩ : S42) i
    obtain ⟨g9, cap9, e9, hg9, _, _⟩ := Kd.R_form HO.out (by omega)
    injection e9 with ea en ec
    subst ea ec
    clear en
    have hne : g9 ≠ w.heap.size := HO.out.1 g9 rfl
    have hne2 : w.heap.size ≠ g9 := fun e => hne e.symm
    obtain ⟨ce, hcl, hM, hcc, hfr⟩ := Kd.R_elem HO.out z42 (i : Int) (by omega) hlz
    rw [Int.toNat_natCast, List.getD_eq_getElem?_getD, swap_get l1 a4 (⟨y0, y1, y2, y3, y4, y5⟩ : S42) i hlt] at hM
    obtain rfl := k42_openM hM
    have hS := swap_step l1 a4 (⟨y0, y1, y2, y3, y4, y5⟩ : S42) i hlt _ (List.getElem?_eq_getElem hlt)
    have hK := swap_keep l1 a4 (⟨y0, y1, y2, y3, y4, y5⟩ : S42) i hlt
    rw [Int.toNat_natCast] at hcc hfr
    have hR := Kd.R_seg HO.out (i : Int) (by omega) hlz (seg := [.int .i64 y0, .int .i64 y1, .string y2, .int .i64 y3, .string y4, .bool y5]) (j := 0) hcl (by rw [Int.toNat_natCast]; exact hcc) (show 6 ≤ 6 from by decide) (x' := (⟨y0, y1, y2, y3, y4, y5⟩ : S42)) (k42_mkM _ _ _ (⟨y0, y1, y2, y3, y4, y5⟩ : S42)) (fun _ hk => hk)
    rw [Int.toNat_natCast] at hR
    simp only [Option.getD_some] at hcc
    have xc0 := hcc 0 _ rfl
    have xf0 := hfr 0
    have xc1 := hcc 1 _ rfl
    have xf1 := hfr 1
    have xc2 := hcc 2 _ rfl
    have xf2 := hfr 2
    have xc3 := hcc 3 _ rfl
    have xf3 := hfr 3
    have xc4 := hcc 4 _ rfl
    have xf4 := hfr 4
    have xc5 := hcc 5 _ rfl
    have xf5 := hfr 5
    simp only [show (k42).sz = 6 from rfl, Nat.add_zero] at xc0 xf0 xc1 xf1 xc2 xf2 xc3 xf3 xc4 xf4 xc5 xf5
    clear hcc hfr hM hcl
    generalize l1[i] = x at xc0 xc1 xc2 xc3 xc4 xc5 hS hK
    obtain ⟨x0, x1, x2, x3, x4, x5⟩ := x
    simp only at xc0 xc1 xc2 xc3 xc4 xc5 hS hK
    have v0 := bc_ BT.out 0
    have fv0 := bf_ BT.out 0
    have v1 := bc_ BT.out 1
    have fv1 := bf_ BT.out 1
    have v2 := bc_ BT.out 2
    have fv2 := bf_ BT.out 2
    have v3 := bc_ BT.out 3
    have fv3 := bf_ BT.out 3
    have v4 := bc_ BT.out 4
    have fv4 := bf_ BT.out 4
    have v5 := bc_ BT.out 5
    have fv5 := bf_ BT.out 5
    by_cases e : x0 = a4
    ·rw [if_pos e] at hS
     have eb : (x0 == a4) = true := by simpa using e
     have HS := am_ hS
     have HRr := am_ hR
     clear hS hK hR e
     go_wp2
     go_roundg (l1.length - (i + 1))
     case measure => first | omega | (simp; omega)
     case rel =>
      refine ⟨i + 1, by omega, by go_num, ⟨?_⟩, ⟨?_⟩, ⟨?_⟩⟩
      ·repeat (first | exact HB.out | refine bs_ ?_ hg9)
      ·exact blk_grown BT.out HRr.out.2 (fun e => hne2 (e5_ e))
      ·rw [← HS.out]; exact HRr.out.1
    ·have eb : (x0 == a4) = false := by simpa using e
     have HS := am_ (hK e)
     clear hS hK hR e
     go_wp2
     go_roundg (l1.length - (i + 1))
     case measure => first | omega | (simp; omega)
     case rel =>
      exact ⟨i + 1, by omega, by go_num, HB, BT, ⟨by rw [← HS.out]; exact HO.out⟩⟩
   ·have hlz : ¬ (i : Int) < (l1.length : Int) := by omega
    have HE := am_ (show swapL (l1.take i) a4 (⟨y0, y1, y2, y3, y4, y5⟩ : S42) ++ l1.drop i = swapL l1 a4 (⟨y0, y1, y2, y3, y4, y5⟩ : S42) by rw [List.take_of_length_le (by omega), List.drop_eq_nil_of_le (by omega), List.append_nil])
    go_wp2
    go_ret2
    exact ⟨_, rfl, by rw [← HE.out]; exact Kd.R_mono HO.out (fun _ _ => trivial), HB.out⟩

/-! ### lease_Live: function 54 -/
-- BY HAND
def lease_Live.f (a0_0 : Int) (a0_1 : Int) (a0_2 : ByteArray) (a0_3 : Int) (a0_4 : ByteArray) (a0_5 : Bool) (a1 : Int) : Option Bool := if a0_4.size ≤ 140737488351232 then some (liveB a0_0 a0_1 a0_2 a0_3 a0_4 a0_5 a1) else none
set_option maxHeartbeats 8000000 in
set_option maxRecDepth 100000 in
theorem lease_Live.calls (a0_0 : Int) (a0_1 : Int) (a0_2 : ByteArray) (a0_3 : Int) (a0_4 : ByteArray) (a0_5 : Bool) (a1 : Int) (r : Bool) (w : World) (h : lease_Live.f a0_0 a0_1 a0_2 a0_3 a0_4 a0_5 a1 = some r) :
  Calls Tryd.prog 54 #[.agg #[.int .i64 a0_0, .int .i64 a0_1, .string a0_2, .int .i64 a0_3, .string a0_4, .bool a0_5], .int .i64 a1] w fun e w' => e = .returned (.bool r) ∧ Below w.heap.size w w' := by
 unfold lease_Live.f at h
 by_cases hs : a0_4.size ≤ 140737488351232
 rotate_left
 ·rw [if_neg hs] at h
  cases h
 rw [if_pos hs] at h
 have HR := e5_ h
 unfold liveB at HR
 obtain ⟨b1, h1⟩ : ∃ b, leaseB a0_0 a0_1 a0_2 a0_3 a0_4 a0_5 = b := ⟨_, rfl⟩
 rw [h1] at HR
 have C1 := am_ (fun W => lease_May.calls a0_0 a0_1 a0_2 a0_3 a0_4 a0_5 b1 W (by unfold lease_May.f; rw [if_pos hs, h1]))
 have BK := am_ (blk_new w (.cells #[.int .i64 a0_0, .int .i64 a0_1, .string a0_2, .int .i64 a0_3, .string a0_4, .bool a0_5] 42))
 have HB := am_ (Below.refl w.heap.size w)
 replace HR := am_ HR
 clear h hs h1
 go_enter Tryd.func54, Tryd.ntmps54
 go_wp2_with (first
  | (go_at_call 74; (with_reducible refine (C1.out _).mono ?_); rintro e w1 ⟨rfl, hb2⟩; replace BK := am_ (kb_ (show _ from (by (with_reducible repeat (first | exact BK.out | refine k2_ ?_ _ | refine k3_ ?_ | refine k1_ ?_ _)))) hb2); replace HB := am_ (bt_ (show Below w.heap.size w _ by repeat (with_reducible first | exact HB.out | apply p3_ | apply p1_ | apply p2_)) hb2); clear hb2; have u0 := bc_ BK.out 0; have u1 := bc_ BK.out 1; have u2 := bc_ BK.out 2; have u3 := bc_ BK.out 3; have u4 := bc_ BK.out 4; have u5 := bc_ BK.out 5))
 all_goals (try go_ret)
 all_goals refine ⟨ret_bool ?_, ?_⟩
 all_goals first
  | ((repeat (with_reducible first | exact HB.out | apply p3_ | apply p1_ | apply p2_)); done)
  | (rw [← HR.out]; clear HR HB C1 BK; (try clear v0 v1 v2 v3 v4 v5); (try clear u0 u1 u2 u3 u4 u5); rw [Bool.eq_iff_iff]; (simp_all; done))
  | (rw [← HR.out]; clear HR HB C1 BK; simp_all <;> omega)

/-! ### lease_Holds: function 40 -/
-- BY HAND
set_option maxHeartbeats 8000000 in
set_option maxRecDepth 100000 in
theorem lease_Holds.calls (g : Nat) (s0 s1 : Int) (s2 : ByteArray) (s3 : Int) (s4 : ByteArray) (s5 : Bool) (c : ByteArray) (now : Int) (r : Bool) (w : World) (hb : w.heap[g]? = some (.cells #[.int .i64 s0, .int .i64 s1, .string s2, .int .i64 s3, .string s4, .bool s5] 42)) (hs : s4.size ≤ 140737488351232) (h : holdsB s0 s1 s2 s3 s4 s5 c now = r) :
  Calls Tryd.prog 40 #[.pointer (some ⟨g, 0, none⟩), .string c, .int .i64 now] w fun e w' => e = .returned (.bool r) ∧ Below w.heap.size w w' := by
 unfold holdsB at h
 obtain ⟨b1, h1⟩ : ∃ b, liveB s0 s1 s2 s3 s4 s5 now = b := ⟨_, rfl⟩
 rw [h1] at h
 have C1 := am_ (fun W => lease_Live.calls s0 s1 s2 s3 s4 s5 now b1 W (by unfold lease_Live.f; rw [if_pos hs, h1]))
 have HR := am_ h
 have HB := am_ (Below.refl w.heap.size w)
 have BK := am_ hb
 have v0 := bc_ hb 0
 have v1 := bc_ hb 1
 have v2 := bc_ hb 2
 have v3 := bc_ hb 3
 have v4 := bc_ hb 4
 have v5 := bc_ hb 5
 clear h hb hs h1
 go_enter Tryd.func40, Tryd.ntmps40
 go_wp2_with (first
  | (go_at_call 54; (with_reducible refine (C1.out _).mono ?_); rintro e w1 ⟨rfl, hb2⟩; replace BK := am_ (kb_ (show _ from (by (with_reducible repeat (first | exact BK.out | refine k2_ ?_ _ | refine k3_ ?_ | refine k1_ ?_ _)))) hb2); replace HB := am_ (bt_ (show Below w.heap.size w _ by repeat (with_reducible first | exact HB.out | apply p3_ | apply p1_ | apply p2_)) hb2); clear hb2; have u0 := bc_ BK.out 0; have u1 := bc_ BK.out 1; have u2 := bc_ BK.out 2; have u3 := bc_ BK.out 3; have u4 := bc_ BK.out 4; have u5 := bc_ BK.out 5))
 all_goals (try go_ret)
 all_goals refine ⟨ret_bool ?_, ?_⟩
 all_goals first
  | ((repeat (with_reducible first | exact HB.out | apply p3_ | apply p1_ | apply p2_)); done)
  | (rw [← HR.out]; clear HR HB C1 BK; (try clear v0 v1 v2 v3 v4 v5); (try clear u0 u1 u2 u3 u4 u5); rw [Bool.eq_iff_iff]; (simp_all; done))
  | (rw [← HR.out]; clear HR HB C1 BK; simp_all <;> omega)

/-! ### lease_Bound: function 36 -/
-- BY HAND
set_option maxHeartbeats 8000000 in
set_option maxRecDepth 100000 in
theorem lease_Bound.calls (g : Nat) (s0 s1 : Int) (s2 : ByteArray) (s3 : Int) (s4 : ByteArray) (s5 : Bool) (c : ByteArray) (now : Int) (r : Bool) (w : World) (hb : w.heap[g]? = some (.cells #[.int .i64 s0, .int .i64 s1, .string s2, .int .i64 s3, .string s4, .bool s5] 42)) (hs : s4.size ≤ 140737488351232) (h : boundB s0 s1 s2 s3 s4 s5 c now = r) :
  Calls Tryd.prog 36 #[.pointer (some ⟨g, 0, none⟩), .string c, .int .i64 now] w fun e w' => e = .returned (.bool r) ∧ Below w.heap.size w w' := by
 unfold boundB at h
 obtain ⟨b1, h1⟩ : ∃ b, holdsB s0 s1 s2 s3 s4 s5 c now = b := ⟨_, rfl⟩
 rw [h1] at h
 have C1 := am_ (fun W (bk : W.heap[g]? = some (.cells #[.int .i64 s0, .int .i64 s1, .string s2, .int .i64 s3, .string s4, .bool s5] 42)) => lease_Holds.calls g s0 s1 s2 s3 s4 s5 c now b1 W bk hs h1)
 have HR := am_ h
 have HB := am_ (Below.refl w.heap.size w)
 have BK := am_ hb
 have v0 := bc_ hb 0
 have v1 := bc_ hb 1
 have v2 := bc_ hb 2
 have v3 := bc_ hb 3
 have v4 := bc_ hb 4
 have v5 := bc_ hb 5
 clear h hb hs h1
 go_enter Tryd.func36, Tryd.ntmps36
 go_wp2_with (first
  | (go_at_call 40; (with_reducible refine (C1.out _ (by (with_reducible repeat (first | exact BK.out | refine k2_ ?_ _ | refine k3_ ?_ | refine k1_ ?_ _)))).mono ?_); rintro e w1 ⟨rfl, hb2⟩; replace BK := am_ (kb_ (show _ from (by (with_reducible repeat (first | exact BK.out | refine k2_ ?_ _ | refine k3_ ?_ | refine k1_ ?_ _)))) hb2); replace HB := am_ (bt_ (show Below w.heap.size w _ by repeat (with_reducible first | exact HB.out | apply p3_ | apply p1_ | apply p2_)) hb2); clear hb2; have u0 := bc_ BK.out 0; have u1 := bc_ BK.out 1; have u2 := bc_ BK.out 2; have u3 := bc_ BK.out 3; have u4 := bc_ BK.out 4; have u5 := bc_ BK.out 5))
 all_goals (try go_ret)
 all_goals refine ⟨ret_bool ?_, ?_⟩
 all_goals first
  | ((repeat (with_reducible first | exact HB.out | apply p3_ | apply p1_ | apply p2_)); done)
  | (rw [← HR.out]; clear HR HB C1 BK; (try clear v0 v1 v2 v3 v4 v5); (try clear u0 u1 u2 u3 u4 u5); rw [Bool.eq_iff_iff]; (simp_all; done))
  | (rw [← HR.out]; clear HR HB C1 BK; simp_all <;> omega)

/-! ### drop_Release: function 15 -/
-- BY HAND
-- 35 36
def drop_Release.f (a0_0 : Int) (a0_1 : Int) (l0_2 : List Int) (l0_3 : List S72) (a0_4 : Int) (a0_5 : ByteArray) (l0_6 : List S74) (l1 : List S42) (a2 : Int) (a3 : ByteArray) (a4 : Int) : Option (List S42 × Int) := if pickFit l0_2 l0_3 a0_5 l0_6 l1 then some (otherV (boundX a3 a2) a0_0 a0_1 l0_2 l0_3 a0_4 a0_5 l0_6 l1 a2 a3 a4 ⟨0, 0, a3, a2, ⟨#[]⟩, false⟩) else none
set_option maxHeartbeats 8000000 in
set_option maxRecDepth 100000 in
theorem drop_Release.calls (a0_0 : Int) (a0_1 : Int) (A0_2 : Option Addr) (c0_2 : Nat) (l0_2 : List Int) (A0_3 : Option Addr) (c0_3 : Nat) (l0_3 : List S72) (a0_4 : Int) (a0_5 : ByteArray) (A0_6 : Option Addr) (c0_6 : Nat) (l0_6 : List S74) (A1 : Option Addr) (c1 : Nat) (l1 : List S42) (a2 : Int) (a3 : ByteArray) (a4 : Int) (r1 : List S42) (r2 : Int) (w : World) (hr0_2 : Kd.C (Kd.int .i64) w A0_2 l0_2.length l0_2) (hc0_2 : l0_2.length ≤ c0_2) (hr0_3 : Kd.C k72 w A0_3 l0_3.length l0_3) (hc0_3 : l0_3.length ≤ c0_3) (hr0_6 : Kd.C k74 w A0_6 l0_6.length l0_6) (hc0_6 : l0_6.length ≤ c0_6) (hr1 : Kd.C k42 w A1 l1.length l1) (hc1 : l1.length ≤ c1) (h : drop_Release.f a0_0 a0_1 l0_2 l0_3 a0_4 a0_5 l0_6 l1 a2 a3 a4 = some (r1, r2)) :
  Calls Tryd.prog 15 #[.agg #[.int .i64 a0_0, .int .i64 a0_1, .slice A0_2 l0_2.length c0_2, .slice A0_3 l0_3.length c0_3, .int .i64 a0_4, .string a0_5, .slice A0_6 l0_6.length c0_6], .slice A1 l1.length c1, .int .i64 a2, .string a3, .int .i64 a4] w fun e w' => ∃ v0_ : Value, e = .returned (.tuple #[v0_, .int .i64 r2]) ∧ Kd.R k42 42 w' w.heap.size (fun _ => True) v0_ r1 ∧ Below w.heap.size w w' := by
 unfold drop_Release.f at h
 by_cases hs : pickFit l0_2 l0_3 a0_5 l0_6 l1
 rotate_left
 ·rw [if_neg hs] at h
  cases h
 rw [if_pos hs] at h
 have h' := e5_ h
 have eg : ∀ args w, (callFunc 36 args).run Tryd.prog w = .ok (.enter 36 args) w := fun args w => enters_ Tryd.func36 (by kernel_rfl) rfl args w
 have HB := am_ (Below.refl w.heap.size w)
 have BK := am_ (blk_new w (.cells #[.int .i64 a0_0, .int .i64 a0_1, .slice A0_2 l0_2.length c0_2, .slice A0_3 l0_3.length c0_3, .int .i64 a0_4, .string a0_5, .slice A0_6 l0_6.length c0_6] 26))
 have CO := am_ (fun t0 t1 t2 t3 t4 t5 W (hb : Below w.heap.size w W) (bk : W.heap[w.heap.size]? = some (.cells #[.int .i64 a0_0, .int .i64 a0_1, .slice A0_2 l0_2.length c0_2, .slice A0_3 l0_3.length c0_3, .int .i64 a0_4, .string a0_5, .slice A0_6 l0_6.length c0_6] 26)) => drop_other.calls (boundX a3 a2) 36 w.heap.size a0_0 a0_1 A0_2 c0_2 l0_2 A0_3 c0_3 l0_3 a0_4 a0_5 A0_6 c0_6 l0_6 A1 c1 l1 a2 a3 a4 t0 t1 t2 t3 t4 t5 W bk (c4_ hr0_2 hb) hc0_2 (c4_ hr0_3 hb) hc0_3 (c4_ hr0_6 hb) hc0_6 (c4_ hr1 hb) hc1 hs eg (fun W gl x hk hx => lease_Bound.calls gl x.f0 x.f1 x.f2 x.f3 x.f4 x.f5 a3 a2 _ W hk hx rfl))
 replace h' := am_ h'
 clear h hs eg hr0_2 hr0_3 hr0_6 hc0_2 hc0_3 hc0_6 hr1 hc1
 go_enter Tryd.func15, Tryd.ntmps15
 go_wp2_with (first | (go_at_call 35; ((with_reducible refine (CO.out _ _ _ _ _ _ _ (by repeat (with_reducible first | exact HB.out | apply p3_ | apply p1_ | apply p2_)) (by (with_reducible repeat (first | exact BK.out | refine k2_ ?_ _ | refine k3_ ?_ | refine k1_ ?_ _)))).mono ?_); rintro e w1 ⟨v, rfl, hR, hb2⟩; rw [h'.out] at hR; have HV := am_ (Kd.R_lower hR (show Below w.heap.size w _ from (by repeat (with_reducible first | exact HB.out | apply p3_ | apply p1_ | apply p2_))).size); replace HB := am_ (bt_ (show Below w.heap.size w _ from (by repeat (with_reducible first | exact HB.out | apply p3_ | apply p1_ | apply p2_))) hb2); clear hb2 hR)))
 go_ret2
 exact ⟨_, by (first | (rw [h'.out]; done) | (rw [h'.out]; rfl)), HV.out, HB.out⟩

/-! ### drop_Decline: function 17 -/
-- BY HAND
-- 35 40
def drop_Decline.f (a0_0 : Int) (a0_1 : Int) (l0_2 : List Int) (l0_3 : List S72) (a0_4 : Int) (a0_5 : ByteArray) (l0_6 : List S74) (l1 : List S42) (a2 : Int) (a3 : ByteArray) (a4 : Int) : Option (List S42 × Int) := if pickFit l0_2 l0_3 a0_5 l0_6 l1 then some (otherV (holdsX a3 a2) a0_0 a0_1 l0_2 l0_3 a0_4 a0_5 l0_6 l1 a2 a3 a4 ⟨0, 3, ⟨#[]⟩, wrap64 (a2 + 64), ⟨#[]⟩, false⟩) else none
set_option maxHeartbeats 8000000 in
set_option maxRecDepth 100000 in
theorem drop_Decline.calls (a0_0 : Int) (a0_1 : Int) (A0_2 : Option Addr) (c0_2 : Nat) (l0_2 : List Int) (A0_3 : Option Addr) (c0_3 : Nat) (l0_3 : List S72) (a0_4 : Int) (a0_5 : ByteArray) (A0_6 : Option Addr) (c0_6 : Nat) (l0_6 : List S74) (A1 : Option Addr) (c1 : Nat) (l1 : List S42) (a2 : Int) (a3 : ByteArray) (a4 : Int) (r1 : List S42) (r2 : Int) (w : World) (hr0_2 : Kd.C (Kd.int .i64) w A0_2 l0_2.length l0_2) (hc0_2 : l0_2.length ≤ c0_2) (hr0_3 : Kd.C k72 w A0_3 l0_3.length l0_3) (hc0_3 : l0_3.length ≤ c0_3) (hr0_6 : Kd.C k74 w A0_6 l0_6.length l0_6) (hc0_6 : l0_6.length ≤ c0_6) (hr1 : Kd.C k42 w A1 l1.length l1) (hc1 : l1.length ≤ c1) (h : drop_Decline.f a0_0 a0_1 l0_2 l0_3 a0_4 a0_5 l0_6 l1 a2 a3 a4 = some (r1, r2)) :
  Calls Tryd.prog 17 #[.agg #[.int .i64 a0_0, .int .i64 a0_1, .slice A0_2 l0_2.length c0_2, .slice A0_3 l0_3.length c0_3, .int .i64 a0_4, .string a0_5, .slice A0_6 l0_6.length c0_6], .slice A1 l1.length c1, .int .i64 a2, .string a3, .int .i64 a4] w fun e w' => ∃ v0_ : Value, e = .returned (.tuple #[v0_, .int .i64 r2]) ∧ Kd.R k42 42 w' w.heap.size (fun _ => True) v0_ r1 ∧ Below w.heap.size w w' := by
 unfold drop_Decline.f at h
 by_cases hs : pickFit l0_2 l0_3 a0_5 l0_6 l1
 rotate_left
 ·rw [if_neg hs] at h
  cases h
 rw [if_pos hs] at h
 have h' := e5_ h
 have eg : ∀ args w, (callFunc 40 args).run Tryd.prog w = .ok (.enter 40 args) w := fun args w => enters_ Tryd.func40 (by kernel_rfl) rfl args w
 have HB := am_ (Below.refl w.heap.size w)
 have BK := am_ (blk_new w (.cells #[.int .i64 a0_0, .int .i64 a0_1, .slice A0_2 l0_2.length c0_2, .slice A0_3 l0_3.length c0_3, .int .i64 a0_4, .string a0_5, .slice A0_6 l0_6.length c0_6] 26))
 have CO := am_ (fun t0 t1 t2 t3 t4 t5 W (hb : Below w.heap.size w W) (bk : W.heap[w.heap.size]? = some (.cells #[.int .i64 a0_0, .int .i64 a0_1, .slice A0_2 l0_2.length c0_2, .slice A0_3 l0_3.length c0_3, .int .i64 a0_4, .string a0_5, .slice A0_6 l0_6.length c0_6] 26)) => drop_other.calls (holdsX a3 a2) 40 w.heap.size a0_0 a0_1 A0_2 c0_2 l0_2 A0_3 c0_3 l0_3 a0_4 a0_5 A0_6 c0_6 l0_6 A1 c1 l1 a2 a3 a4 t0 t1 t2 t3 t4 t5 W bk (c4_ hr0_2 hb) hc0_2 (c4_ hr0_3 hb) hc0_3 (c4_ hr0_6 hb) hc0_6 (c4_ hr1 hb) hc1 hs eg (fun W gl x hk hx => lease_Holds.calls gl x.f0 x.f1 x.f2 x.f3 x.f4 x.f5 a3 a2 _ W hk hx rfl))
 replace h' := am_ h'
 clear h hs eg hr0_2 hr0_3 hr0_6 hc0_2 hc0_3 hc0_6 hr1 hc1
 go_enter Tryd.func17, Tryd.ntmps17
 go_wp2_with (first | (go_at_call 35; ((with_reducible refine (CO.out _ _ _ _ _ _ _ (by repeat (with_reducible first | exact HB.out | apply p3_ | apply p1_ | apply p2_)) (by (with_reducible repeat (first | exact BK.out | refine k2_ ?_ _ | refine k3_ ?_ | refine k1_ ?_ _)))).mono ?_); rintro e w1 ⟨v, rfl, hR, hb2⟩; rw [h'.out] at hR; have HV := am_ (Kd.R_lower hR (show Below w.heap.size w _ from (by repeat (with_reducible first | exact HB.out | apply p3_ | apply p1_ | apply p2_))).size); replace HB := am_ (bt_ (show Below w.heap.size w _ from (by repeat (with_reducible first | exact HB.out | apply p3_ | apply p1_ | apply p2_))) hb2); clear hb2 hR)))
 go_ret2
 exact ⟨_, by (first | (rw [h'.out]; done) | (rw [h'.out]; rfl)), HV.out, HB.out⟩

/-! ### pinfoldlaw0_Num: function 20 -/
def pinfoldlaw0_Num.f (a0 : Int) : Option (Int) := some a0
set_option maxHeartbeats 8000000 in
set_option maxRecDepth 100000 in
theorem pinfoldlaw0_Num.calls (a0 : Int) (r : Int) (w : World) (h : pinfoldlaw0_Num.f a0 = some r) :
  Calls Tryd.prog 20 #[.int .i64 a0] w fun e w' => e = .returned (.int .i64 r) ∧ Drawn0 w w' := by
 have H : (some a0) = some r := h
 clear h
 obtain rfl := e5_ H
 go_enter Tryd.func20, Tryd.ntmps20
 go_wp2
 go_ret
 exact ⟨by first | rfl | (simp; done) | (simp [*]; done), by repeat (first | exact Drawn0.refl _ | apply Drawn0.step)⟩

end Go.Proofs.YtmoobaehoccihaaDoor.PK
