-- Made by wip/pr.py out of the translation (a turned copy of the kit's print; contracts by hand where said).
import Derived.Test.YtmoobaehoccihaaDoorPEx0
import Derived.Test.YtmoobaehoccihaaDoorPEx4
import Derived.Test.YtmoobaehoccihaaDoorPEx6
import Derived.Test.YtmoobaehoccihaaDoorPEx7
import Derived.Test.YtmoobaehoccihaaDoorPEx8
namespace Go.Proofs.YtmoobaehoccihaaDoor.PE
open Go.RowKit Go.Proofs.YtmoobaehoccihaaDoorW.PrintWords Go.Proofs.YtmoobaehoccihaaDoorW.PrintLast Go.Proofs.YtmoobaehoccihaaDoorW.PrintMore
-- shrunk
attribute [local go_sem] max2_int min2_int max_two min_two max_three min_three max_four min_four   -- for this text's walks alone
set_option linter.unusedVariables false
set_option linter.unusedSimpArgs false

/-! ### table_May_c: function 65 -/
theorem table_May.eq (l0 : List S42) (hf : tabFit l0) : ∀ (d : Nat) (i : Int) (k : Nat), 0 ≤ i → i.toNat + d = l0.length → d < k → table_May.l0 k l0 l0 (l0.length : Int) i = some (goTab (if i > 0 then some (rd_T42 l0 (i - 1)).f0 else none) (l0.drop i.toNat) && decide (l0.length ≤ 8))
 | 0, i, k + 1, h0, hd, _ => by
  unfold table_May.l0
  rw [if_neg (by omega), List.drop_eq_nil_of_le (by omega)]
  congr 1
  rw [show (∀ p, goTab p [] = true) from fun _ => rfl, Bool.true_and, Bool.eq_iff_iff, decide_eq_true_eq, decide_eq_true_eq]
  omega
 | d + 1, i, k + 1, h0, hd, hk => by
  have hlt : i < (l0.length : Int) := by omega
  obtain ⟨hd1, hm⟩ := dropLease l0 i h0 hlt
  have h7 := hf.1
  have ih := table_May.eq l0 hf d (i + 1) k (by omega) (by omega) (by omega)
  rw [if_pos (by omega : i + 1 > 0), show (i + 1 - 1 : Int) = i by omega, show (i + 1).toNat = i.toNat + 1 by omega] at ih
  unfold table_May.l0
  rw [if_pos hlt, if_pos h0, if_pos hlt, hd1]
  unfold lease_May.f
  rw [if_pos (hf.2 _ hm)]
  rw [Option.bind_some, w64 (a := i + 1) (by omega), ih]
  conv => rhs; unfold goTab
  have e1 : leaseB (rd_T42 l0 i).f0 (rd_T42 l0 i).f1 (rd_T42 l0 i).f2 (rd_T42 l0 i).f3 (rd_T42 l0 i).f4 (rd_T42 l0 i).f5 = leaseOk (rd_T42 l0 i) := rfl
  rw [e1]
  cases leaseOk (rd_T42 l0 i) with
  | false =>
   rw [if_neg (by simp)]
   simp
  | true =>
   rw [if_pos rfl, Bool.true_and]
   by_cases hp : i > 0
   ·rw [if_pos hp, if_pos hp, w64 (a := i - 1) (by omega), if_pos (by omega), if_pos (by omega)]
    by_cases hq : (rd_T42 l0 (i - 1)).f0 ≥ (rd_T42 l0 i).f0
    ·rw [if_pos hq]
     have : above (some (rd_T42 l0 (i - 1)).f0) (rd_T42 l0 i).f0 = false := by
      unfold above
      exact decide_eq_false (by omega)
     rw [this]
     simp
    ·rw [if_neg hq]
     have : above (some (rd_T42 l0 (i - 1)).f0) (rd_T42 l0 i).f0 = true := by
      unfold above
      exact decide_eq_true (by omega)
     rw [this, Bool.true_and]
   ·rw [if_neg hp, if_neg hp]
    rw [show above none (rd_T42 l0 i).f0 = true from rfl, Bool.true_and]
def table_May_c.f (l0 : List S42) : Option Bool := if tabFit l0 then some (tableB l0) else none
theorem table_May_c.calls (A0 : Option Addr) (c0 : Nat) (l0 : List S42) (r : Bool) (w : World) (hr0 : Kd.C k42 w A0 l0.length l0) (hc0 : l0.length ≤ c0) (h : table_May_c.f l0 = some r) :
  Calls Tryd.prog 65 #[.slice A0 l0.length c0] w fun e w' => e = .returned (.bool r) ∧ Below w.heap.size w w' := by
 unfold table_May_c.f at h
 by_cases hs : tabFit l0
 ·rw [if_pos hs] at h
  obtain rfl := e5_ h
  refine table_May.calls (l0.length + 1) A0 c0 l0 _ w hr0 hc0 ?_
  have := table_May.eq l0 hs l0.length 0 (l0.length + 1) (by omega) (by simp) (by omega)
  unfold table_May.f
  rw [this, if_neg (by omega)]
  rfl
 ·rw [if_neg hs] at h
  cases h

/-! ### pick_May: function 48 -/
-- BY HAND
-- 64 65 66 67
def pickFit (l2 : List Int) (l3 : List S72) (z : ByteArray) (l6 : List S74) (ls : List S42) : Prop := confFit l2 l3 z l6 ∧ tabFit ls
instance (l2 : List Int) (l3 : List S72) (z : ByteArray) (l6 : List S74) (ls : List S42) : Decidable (pickFit l2 l3 z l6 ls) := by unfold pickFit; infer_instance
/-- may it be asked for a client. -/
def pickMayB (a0_0 : Int) (a0_1 : Int) (l0_2 : List Int) (l0_3 : List S72) (a0_4 : Int) (a0_5 : ByteArray) (l0_6 : List S74) (l1 : List S42) (a2 : Int) (a3 : ByteArray) : Bool := confB a0_0 a0_1 l0_2 l0_3 a0_4 a0_5 l0_6 && (tableB l1 && (decide (0 ≤ a2 ∧ a2 ≤ 1099511627776) && clientB a3))
set_option maxHeartbeats 8000000 in
set_option maxRecDepth 100000 in
theorem pick_May.calls (g : Nat) (a0_0 : Int) (a0_1 : Int) (A0_2 : Option Addr) (c0_2 : Nat) (l0_2 : List Int) (A0_3 : Option Addr) (c0_3 : Nat) (l0_3 : List S72) (a0_4 : Int) (a0_5 : ByteArray) (A0_6 : Option Addr) (c0_6 : Nat) (l0_6 : List S74) (A1 : Option Addr) (c1 : Nat) (l1 : List S42) (a2 : Int) (a3 : ByteArray) (r : Bool) (w : World) (bk : w.heap[g]? = some (.cells #[.int .i64 a0_0, .int .i64 a0_1, .slice A0_2 l0_2.length c0_2, .slice A0_3 l0_3.length c0_3, .int .i64 a0_4, .string a0_5, .slice A0_6 l0_6.length c0_6] 26)) (hr0_2 : Kd.C (Kd.int .i64) w A0_2 l0_2.length l0_2) (hc0_2 : l0_2.length ≤ c0_2) (hr0_3 : Kd.C k72 w A0_3 l0_3.length l0_3) (hc0_3 : l0_3.length ≤ c0_3) (hr0_6 : Kd.C k74 w A0_6 l0_6.length l0_6) (hc0_6 : l0_6.length ≤ c0_6) (hr1 : Kd.C k42 w A1 l1.length l1) (hc1 : l1.length ≤ c1) (hs : pickFit l0_2 l0_3 a0_5 l0_6 l1) (h : pickMayB a0_0 a0_1 l0_2 l0_3 a0_4 a0_5 l0_6 l1 a2 a3 = r) :
  Calls Tryd.prog 48 #[.pointer (some ⟨g, 0, none⟩), .slice A1 l1.length c1, .int .i64 a2, .string a3] w fun e w' => e = .returned (.bool r) ∧ Below w.heap.size w w' := by
 unfold pickMayB at h
 obtain ⟨b1, h1⟩ : ∃ b, confB a0_0 a0_1 l0_2 l0_3 a0_4 a0_5 l0_6 = b := ⟨_, rfl⟩
 obtain ⟨b2, h2⟩ : ∃ b, tableB l1 = b := ⟨_, rfl⟩
 obtain ⟨b3, h3⟩ : ∃ b, decide (0 ≤ a2 ∧ a2 ≤ 1099511627776) = b := ⟨_, rfl⟩
 obtain ⟨b4, h4⟩ : ∃ b, clientB a3 = b := ⟨_, rfl⟩
 rw [h1, h2, h3, h4] at h
 have C1 := am_ (fun W (hb : Below w.heap.size w W) => conf_May.calls a0_0 a0_1 A0_2 c0_2 l0_2 A0_3 c0_3 l0_3 a0_4 a0_5 A0_6 c0_6 l0_6 b1 W (c4_ hr0_2 hb) hc0_2 (c4_ hr0_3 hb) hc0_3 (c4_ hr0_6 hb) hc0_6 (by unfold conf_May.f; rw [if_pos hs.1, h1]))
 have C2 := am_ (fun W (hb : Below w.heap.size w W) => table_May_c.calls A1 c1 l1 b2 W (c4_ hr1 hb) hc1 (by unfold table_May_c.f; rw [if_pos hs.2, h2]))
 have C3 := am_ (fun W => lease_Time_c.calls a2 b3 W (by unfold lease_Time_c.f; rw [h3]))
 have C4 := am_ (fun W => ident_May_c.calls a3 b4 W (by unfold ident_May_c.f; rw [h4]))
 have HR := am_ h
 have HB := am_ (Below.refl w.heap.size w)
 have u0 := bc_ (am_ bk).out 0
 have u1 := bc_ (am_ bk).out 1
 have u2 := bc_ (am_ bk).out 2
 have u3 := bc_ (am_ bk).out 3
 have u4 := bc_ (am_ bk).out 4
 have u5 := bc_ (am_ bk).out 5
 have u6 := bc_ (am_ bk).out 6
 clear h h1 h2 h3 h4 bk hr0_2 hr0_3 hr0_6 hc0_2 hc0_3 hc0_6 hr1 hc1 hs
 go_enter Tryd.func48, Tryd.ntmps48
 go_wp2_with (first
  | (go_at_call 64; (with_reducible refine (C1.out _ (by repeat (with_reducible first | exact HB.out | apply p3_ | apply p1_ | apply p2_))).mono ?_); rintro e w1 ⟨rfl, hb2⟩; replace HB := am_ (bt_ (show Below w.heap.size w _ from (by repeat (with_reducible first | exact HB.out | apply p3_ | apply p1_ | apply p2_))) hb2); clear hb2; clear u0 u1 u2 u3 u4 u5 u6)
  | (go_at_call 65; (with_reducible refine (C2.out _ (by repeat (with_reducible first | exact HB.out | apply p3_ | apply p1_ | apply p2_))).mono ?_); rintro e w2 ⟨rfl, hb2⟩; replace HB := am_ (bt_ (show Below w.heap.size w _ from (by repeat (with_reducible first | exact HB.out | apply p3_ | apply p1_ | apply p2_))) hb2); clear hb2)
  | (go_at_call 66; (with_reducible refine (C3.out _).mono ?_); rintro e wq ⟨rfl, ⟨nd, rfl⟩⟩)
  | (go_at_call 67; (with_reducible refine (C4.out _).mono ?_); rintro e wq ⟨rfl, ⟨nd, rfl⟩⟩))
 all_goals (try go_ret)
 all_goals refine ⟨ret_bool ?_, ?_⟩
 all_goals first
  | ((repeat (with_reducible first | exact HB.out | apply p3_ | apply p1_ | apply p2_)); done)
  | (rw [← HR.out]; clear HR HB C1 C2 C3 C4; rw [Bool.eq_iff_iff]; (simp_all; done))
  | (rw [← HR.out]; clear HR HB C1 C2 C3 C4; simp_all)

/-! ### table_at: function 77 -/
-- BY HAND
/-- where the first of a row stands that is so; below 0: none is. -/
def table_at.idx (p : S42 → Bool) (l : List S42) : Int := match l.findIdx? p with
 | some i => (i : Int)
 | none => -1
theorem table_at.idx_hit (p : S42 → Bool) (l : List S42) (k : Nat) (hk : k < l.length) (h : p l[k] = true) (hn : ∀ (j : Nat) (hj : j < l.length), j < k → p l[j] = false) : table_at.idx p l = k := by
 have e : l.findIdx? p = some k := List.findIdx?_eq_some_iff_getElem.2 ⟨hk, h, fun j hj => by simp [hn j (by omega) hj]⟩
 unfold table_at.idx
 rw [e]
theorem table_at.idx_miss (p : S42 → Bool) (l : List S42) (hn : ∀ (j : Nat) (hj : j < l.length), p l[j] = false) : table_at.idx p l = -1 := by
 have e : l.findIdx? p = none := List.findIdx?_eq_none_iff.2 fun x hx => by
  obtain ⟨j, hj, rfl⟩ := List.getElem_of_mem hx
  exact hn j hj
 unfold table_at.idx
 rw [e]
theorem table_at.idx_lt (p : S42 → Bool) (l : List S42) : table_at.idx p l < l.length ∧ -1 ≤ table_at.idx p l := by
 unfold table_at.idx
 cases e : l.findIdx? p with
 | none => simp only; omega
 | some i =>
  obtain ⟨h, _⟩ := List.findIdx?_eq_some_iff_getElem.1 e
  simp only
  omega
theorem table_at.idx_congr (p q : S42 → Bool) (l : List S42) (h : ∀ x ∈ l, p x = q x) : table_at.idx p l = table_at.idx q l := by
 cases e : l.findIdx? p with
 | none =>
  have hn := List.findIdx?_eq_none_iff.1 e
  rw [table_at.idx_miss p l (fun j hj => hn _ (List.getElem_mem hj)), table_at.idx_miss q l (fun j hj => by rw [← h _ (List.getElem_mem hj)]; exact hn _ (List.getElem_mem hj))]
 | some i =>
  obtain ⟨hi, h1, h2⟩ := List.findIdx?_eq_some_iff_getElem.1 e
  have h3 : ∀ (j : Nat) (hj : j < l.length), j < i → p l[j] = false := fun j hj hji => by simpa using h2 j hji
  rw [table_at.idx_hit p l i hi h1 h3, table_at.idx_hit q l i hi (by rw [← h _ (List.getElem_mem hi)]; exact h1) (fun j hj hji => by rw [← h _ (List.getElem_mem hj)]; exact h3 j hj hji)]
theorem table_at.rd (l : List S42) (k : Nat) (h : k < l.length) : rd_T42 l (k : Int) = l[k] := by
 unfold rd_T42
 rw [Int.toNat_natCast, List.getD_eq_getElem?_getD, List.getElem?_eq_getElem h]
 rfl
set_option maxHeartbeats 8000000 in
set_option maxRecDepth 100000 in
theorem table_at.index (p : S42 → Bool) (G : Nat) (lb : Array Value) (A0 : Option Addr) (c0 : Nat) (l0 : List S42) (w : World) (hr : Kd.C k42 w A0 l0.length l0) (hs : l0.length ≤ 140737488351232)
  (eg : ∀ args w, (callFunc G args).run Tryd.prog w = .ok (.enter G args) w)
  (hp : ∀ (W : World) (x : S42), x ∈ l0 → Below w.heap.size w W → Calls Tryd.prog G (#[.agg #[.int .i64 x.f0, .int .i64 x.f1, .string x.f2, .int .i64 x.f3, .string x.f4, .bool x.f5]] ++ lb) W fun e w' => e = .returned (.bool (p x)) ∧ Below W.heap.size W w') :
  Calls Tryd.prog 68 #[.slice A0 l0.length c0, .func (.func G) #[] lb] w fun e w' => e = .returned (.int .i64 (table_at.idx p l0)) ∧ Below w.heap.size w w' := by
 have HR := am_ hr
 have HP := am_ hp
 clear hr hp
 go_enter Tryd.func68, Tryd.ntmps68
 go_wp2
 go_loopg [5, 8] l0.length (fun gg _ s8 wr => ∃ kk : Nat, kk + gg = l0.length ∧ s8 = .int .i64 kk ∧ Aside0 (Below w.heap.size w wr) ∧ Aside0 (∀ (j : Nat) (h : j < l0.length), j < kk → p (l0[j]'h) = false))
 case atStart => exact ⟨0, by omega, rfl, ⟨Below.refl _ w⟩, ⟨fun j _ hj => absurd hj (Nat.not_lt_zero _)⟩⟩
 case round =>
  obtain ⟨kk, hg, rfl, BW, A⟩ := hrel
  by_cases hlt : kk < l0.length
  ·have hltz : (kk : Int) < (l0.length : Int) := by omega
   obtain ⟨ad, e1, h0, h1, h2, h3, h4, h5⟩ := at_T42 HR.out (kk : Int) (by omega) hltz
   cases e1
   rw [table_at.rd l0 kk hlt] at h0 h1 h2 h3 h4 h5
   rw [Int.toNat_natCast] at h0 h1 h2 h3 h4 h5
   obtain ⟨x, hx⟩ : ∃ x, l0[kk]'hlt = x := ⟨_, rfl⟩
   have B := am_ hx
   rw [hx] at h0 h1 h2 h3 h4 h5
   clear hx
   replace h0 := (BW.out.cell (wb_ w _ h0)).trans h0
   replace h1 := (BW.out.cell (wb_ w _ h1)).trans h1
   replace h2 := (BW.out.cell (wb_ w _ h2)).trans h2
   replace h3 := (BW.out.cell (wb_ w _ h3)).trans h3
   replace h4 := (BW.out.cell (wb_ w _ h4)).trans h4
   replace h5 := (BW.out.cell (wb_ w _ h5)).trans h5
   have hcall := HP.out wr x (by rw [← B.out]; exact List.getElem_mem hlt) BW.out
   cases hq : p x with
   | true =>
    rw [hq] at hcall
    have hq' := am_ hq
    clear hq
    go_wp2_with fail
    refine hcall.mono ?_
    rintro e w' ⟨rfl, hb'⟩
    go_wp2
    go_ret
    refine ⟨?_, bt_ BW.out hb'⟩
    rw [table_at.idx_hit p l0 kk hlt (by rw [B.out]; exact hq'.out) A.out]
    rfl
   | false =>
    rw [hq] at hcall
    have hq' := am_ hq
    clear hq
    go_wp2_with fail
    refine hcall.mono ?_
    rintro e w' ⟨rfl, hb'⟩
    go_wp2
    go_roundg (l0.length - (kk + 1))
    case measure => omega
    case rel =>
     refine ⟨kk + 1, by omega, by go_num, ⟨bt_ BW.out hb'⟩, ⟨fun j h hj => ?_⟩⟩
     by_cases e : j = kk
     ·subst e
      rw [B.out]
      exact hq'.out
     ·exact A.out j h (by omega)
  ·have hltz : ¬ (kk : Int) < (l0.length : Int) := by omega
   go_wp2
   go_ret
   refine ⟨?_, BW.out⟩
   rw [table_at.idx_miss p l0 (fun j hj => A.out j hj (by omega))]
   rfl
set_option maxHeartbeats 8000000 in
set_option maxRecDepth 100000 in
theorem table_at.closure (host : Int) (B : Nat) (x : S42) (w : World) (hc : w.cell? ⟨B, 0, none⟩ = some (.int .i64 host)) :
  Calls Tryd.prog 90 #[.agg #[.int .i64 x.f0, .int .i64 x.f1, .string x.f2, .int .i64 x.f3, .string x.f4, .bool x.f5], .pointer (some ⟨B, 0, none⟩)] w fun e w' => e = .returned (.bool (x.f0 == host)) ∧ Below w.heap.size w w' := by
 have hlt : B < w.heap.size := wb_ w _ hc
 have hne : B ≠ w.heap.size := by omega
 go_enter Tryd.func90, Tryd.ntmps90
 go_wp2
 go_ret
 exact ⟨rfl, by repeat (first | exact Below.refl _ _ | apply p3_ | apply p1_ | apply p2_)⟩
def table_at.f (l0 : List S42) (a1 : Int) : Option Int := if l0.length ≤ 140737488351232 then some (table_at.idx (fun x => x.f0 == a1) l0) else none
set_option maxHeartbeats 8000000 in
set_option maxRecDepth 100000 in
theorem table_at.calls (A0 : Option Addr) (c0 : Nat) (l0 : List (S42)) (a1 : Int) (r : Int) (w : World) (hr0 : Kd.C k42 w A0 l0.length l0) (hc0 : l0.length ≤ c0) (h : table_at.f l0 a1 = some r) :
  Calls Tryd.prog 77 #[.slice A0 l0.length c0, .int .i64 a1] w fun e w' => e = .returned (.int .i64 r) ∧ Below w.heap.size w w' := by
 unfold table_at.f at h
 by_cases hs : l0.length ≤ 140737488351232
 ·rw [if_pos hs] at h
  obtain rfl := e5_ h
  clear h
  have eg : ∀ args w, (callFunc 90 args).run Tryd.prog w = .ok (.enter 90 args) w := fun args w => enters_ Tryd.func90 (by kernel_rfl) rfl args w
  have hb := p3_ (Below.refl w.heap.size w) (.cells #[.int .i64 a1] 3)
  have hcell : (w.alloc (.cells #[.int .i64 a1] 3)).cell? ⟨w.heap.size, 0, none⟩ = some (.int .i64 a1) := (bc_ (blk_new w _) 0).trans rfl
  have hI := table_at.index (fun x => x.f0 == a1) 90 #[.pointer (some ⟨w.heap.size, 0, none⟩)] A0 c0 l0 (w.alloc (.cells #[.int .i64 a1] 3)) (c4_ hr0 hb) hs eg (fun W x _ hW => table_at.closure a1 w.heap.size x W ((hW.cell (p := ⟨w.heap.size, 0, none⟩) (wb_ _ _ hcell)).trans hcell))
  replace hI := am_ hI
  clear hcell eg hr0 hc0
  generalize table_at.idx (fun x => x.f0 == a1) l0 = r at hI ⊢
  go_enter Tryd.func77, Tryd.ntmps77
  go_wp2_with (first | (go_at_call 68; refine hI.out.mono ?_; rintro e w' ⟨rfl, hb'⟩))
  go_ret
  exact ⟨rfl, bt_ hb hb'⟩
 ·rw [if_neg hs] at h
  cases h

/-! ### table_Find: function 59 -/
def table_Find.f (l0 : List (S42)) (a1 : Int) : Option (Int × Int × ByteArray × Int × ByteArray × Bool × Bool) := (table_at.f l0 a1).bind fun t147 => (if t147 < 0 then (some (0, 0, (⟨#[]⟩ : ByteArray), 0, (⟨#[]⟩ : ByteArray), false, false)) else (if 0 ≤ t147 then (if t147 < (l0.length : Int) then (some ((rd_T42 l0 t147).f0, (rd_T42 l0 t147).f1, (rd_T42 l0 t147).f2, (rd_T42 l0 t147).f3, (rd_T42 l0 t147).f4, (rd_T42 l0 t147).f5, true)) else (none)) else (none)))
set_option maxHeartbeats 8000000 in
set_option maxRecDepth 100000 in
theorem table_Find.calls (A0 : Option Addr) (c0 : Nat) (l0 : List (S42)) (a1 : Int) (r1 : Int) (r2 : Int) (r3 : ByteArray) (r4 : Int) (r5 : ByteArray) (r6 : Bool) (r7 : Bool) (w : World) (hr0 : Kd.C k42 w A0 l0.length l0) (hc0 : l0.length ≤ c0) (h : table_Find.f l0 a1 = some (r1, r2, r3, r4, r5, r6, r7)) :
  Calls Tryd.prog 59 #[.slice A0 l0.length c0, .int .i64 a1] w fun e w' => e = .returned (.tuple #[.agg #[.int .i64 r1, .int .i64 r2, .string r3, .int .i64 r4, .string r5, .bool r6], .bool r7]) ∧ Below w.heap.size w w' := by
 have hu42 := Tryd.underlying42
 have HR0 := am_ hr0
 have HC0 := am_ hc0
 clear hr0 hc0
 have HB := am_ (Below.refl w.heap.size w)
 have H : ((table_at.f l0 a1).bind fun t147 => (if t147 < 0 then (some (0, 0, (⟨#[]⟩ : ByteArray), 0, (⟨#[]⟩ : ByteArray), false, false)) else (if 0 ≤ t147 then (if t147 < (l0.length : Int) then (some ((rd_T42 l0 t147).f0, (rd_T42 l0 t147).f1, (rd_T42 l0 t147).f2, (rd_T42 l0 t147).f3, (rd_T42 l0 t147).f4, (rd_T42 l0 t147).f5, true)) else (none)) else (none)))) = some (r1, r2, r3, r4, r5, r6, r7) := h
 clear h
 replace H := e4_ H
 obtain ⟨t147, A30, H⟩ := H
 replace H : (if t147 < 0 then (some (0, 0, (⟨#[]⟩ : ByteArray), 0, (⟨#[]⟩ : ByteArray), false, false)) else (if 0 ≤ t147 then (if t147 < (l0.length : Int) then (some ((rd_T42 l0 t147).f0, (rd_T42 l0 t147).f1, (rd_T42 l0 t147).f2, (rd_T42 l0 t147).f3, (rd_T42 l0 t147).f4, (rd_T42 l0 t147).f5, true)) else (none)) else (none))) = some (r1, r2, r3, r4, r5, r6, r7) := H
 have A3 := am_ A30
 clear A30
 by_cases c4 : t147 < 0
 ·rw [if_pos c4] at H
  have c4b0 : decide (t147 < 0) = true := decide_eq_true c4
  clear c4
  simp only [Option.some.injEq, Prod.mk.injEq] at H
  obtain ⟨rfl, rfl, rfl, rfl, rfl, rfl, rfl⟩ := H
  go_enter Tryd.func59, Tryd.ntmps59
  go_wp2_with (first | ((with_reducible refine gate_dst (N := 4) rfl ?_); refine box_event ?hg (N := 4) ?hd (cs := #[.int .i64 0, .int .i64 0, .string (⟨#[]⟩ : ByteArray), .int .i64 0, .string (⟨#[]⟩ : ByteArray), .bool false]) (t := 42) ?hr ?_; (case hd => rfl); (case hg => rfl); (case hr => first | (go_simp; done) | (go_simp; rfl)); intro gb146 hg w5 hbox hb; have n0_ := am_ (bt_ (by repeat (with_reducible first | exact HB.out | apply p3_ | apply p1_ | apply p2_)) hb); have n1_ := am_ (hbox); have n2_ := am_ ((by rw [hg]; exact (bz_ (by repeat (with_reducible first | exact HB.out | apply p3_ | apply p1_ | apply p2_))) : w.heap.size ≤ gb146)); have n3_ := am_ ((by rw [hg]; exact (bz_ (by repeat (with_reducible first | exact HB.out | apply p3_ | apply p1_ | apply p2_))) : w.heap.size ≤ gb146)); clear HB; have HB := n0_; have BK146 := n1_; have GW146 := n2_; have GE146 := n3_; clear n0_ n1_ n2_ n3_; clear hb hbox hg) | ((with_reducible refine gate_callee (f := 77) rfl ?_); refine goesL_ (some 9) rfl rfl Tryd.func77 (by kernel_rfl) rfl #[.slice A0 l0.length c0, .int .i64 a1] rfl (by (try simp only [List.map_toArray, List.map_cons, List.map_nil]); first | done | rfl | (simp only [List.length_drop, List.length_take]; rfl)) ?_; (with_reducible refine (table_at.calls _ _ l0 a1 t147 _ ?side1 ?side2 A3.out).mono ?_); (case side1 => repeat (first | exact (c4_ HR0.out HB.out) | (with_reducible refine c1_ ?_ _) | (with_reducible refine c2_ ?_ _) | (with_reducible refine c3_ ?_))); (case side2 => exact HC0.out); rintro e w6 ⟨rfl, hb⟩; refine ⟨_, rfl, ?_⟩; have n0_ := am_ (kb_ (g := gb146) (o := .cells #[.int .i64 0, .int .i64 0, .string (⟨#[]⟩ : ByteArray), .int .i64 0, .string (⟨#[]⟩ : ByteArray), .bool false] 42 (0, 0)) (by (with_reducible repeat (first | refine k2_ ?_ _ | refine k3_ ?_ | refine k1_ ?_ _)); exact BK146.out) hb); have n1_ := am_ (bt_ (by repeat (with_reducible first | exact HB.out | apply p3_ | apply p1_ | apply p2_ | refine bs_ ?_ GE146.out)) hb); clear BK146; clear HB; have BK146 := n0_; have HB := n1_; clear n0_ n1_; (try clear hb); have hcz7_0 : w6.cell? ⟨gb146, 0, none⟩ = some (.int .i64 0) := (bc_ BK146.out 0).trans rfl; have hcz7_1 : w6.cell? ⟨gb146, 1, none⟩ = some (.int .i64 0) := (bc_ BK146.out 1).trans rfl; have hcz7_2 : w6.cell? ⟨gb146, 2, none⟩ = some (.string (⟨#[]⟩ : ByteArray)) := (bc_ BK146.out 2).trans rfl; have hcz7_3 : w6.cell? ⟨gb146, 3, none⟩ = some (.int .i64 0) := (bc_ BK146.out 3).trans rfl; have hcz7_4 : w6.cell? ⟨gb146, 4, none⟩ = some (.string (⟨#[]⟩ : ByteArray)) := (bc_ BK146.out 4).trans rfl; have hcz7_5 : w6.cell? ⟨gb146, 5, none⟩ = some (.bool false) := (bc_ BK146.out 5).trans rfl; have hfz7_0 := bf_ BK146.out 0; have hfz7_1 := bf_ BK146.out 1; have hfz7_2 := bf_ BK146.out 2; have hfz7_3 := bf_ BK146.out 3; have hfz7_4 := bf_ BK146.out 4; have hfz7_5 := bf_ BK146.out 5))
  refine bodyPost_ret (results_ct rfl _ _ gb146 42 #[.int .i64 0, .int .i64 0, .string (⟨#[]⟩ : ByteArray), .int .i64 0, .string (⟨#[]⟩ : ByteArray), .bool false] (0, 0) _ rfl (by (with_reducible repeat (first | refine k2_ ?_ _ | refine k3_ ?_ | refine k1_ ?_ _)); refine blk_put (cs := #[.int .i64 0, .int .i64 0, .string (⟨#[]⟩ : ByteArray), .int .i64 0, .string (⟨#[]⟩ : ByteArray), .bool false]) ?_ 5 _ rfl; (with_reducible repeat (first | refine k2_ ?_ _ | refine k3_ ?_ | refine k1_ ?_ _)); refine blk_put (cs := #[.int .i64 0, .int .i64 0, .string (⟨#[]⟩ : ByteArray), .int .i64 0, .string (⟨#[]⟩ : ByteArray), .bool false]) ?_ 4 _ rfl; (with_reducible repeat (first | refine k2_ ?_ _ | refine k3_ ?_ | refine k1_ ?_ _)); refine blk_put (cs := #[.int .i64 0, .int .i64 0, .string (⟨#[]⟩ : ByteArray), .int .i64 0, .string (⟨#[]⟩ : ByteArray), .bool false]) ?_ 3 _ rfl; (with_reducible repeat (first | refine k2_ ?_ _ | refine k3_ ?_ | refine k1_ ?_ _)); refine blk_put (cs := #[.int .i64 0, .int .i64 0, .string (⟨#[]⟩ : ByteArray), .int .i64 0, .string (⟨#[]⟩ : ByteArray), .bool false]) ?_ 2 _ rfl; (with_reducible repeat (first | refine k2_ ?_ _ | refine k3_ ?_ | refine k1_ ?_ _)); refine blk_put (cs := #[.int .i64 0, .int .i64 0, .string (⟨#[]⟩ : ByteArray), .int .i64 0, .string (⟨#[]⟩ : ByteArray), .bool false]) ?_ 1 _ rfl; (with_reducible repeat (first | refine k2_ ?_ _ | refine k3_ ?_ | refine k1_ ?_ _)); refine blk_put (cs := #[.int .i64 0, .int .i64 0, .string (⟨#[]⟩ : ByteArray), .int .i64 0, .string (⟨#[]⟩ : ByteArray), .bool false]) ?_ 0 _ rfl; (with_reducible repeat (first | refine k2_ ?_ _ | refine k3_ ?_ | refine k1_ ?_ _)); exact BK146.out) Tryd.underlying42 rfl (by kernel_rfl)) rfl ?_
  exact ⟨by first | rfl | (simp [errW_none, errW_some] <;> rfl) | (simp [*, errW_none, errW_some] <;> rfl), by repeat (with_reducible first | exact HB.out | apply p3_ | apply p1_ | apply p2_ | refine bs_ ?_ GE146.out)⟩
 rw [if_neg c4] at H
 have c4b0 : decide (t147 < 0) = false := decide_eq_false c4
 clear c4
 by_cases c8 : 0 ≤ t147
 rotate_left
 ·rw [if_neg c8] at H
  exact absurd H (by simp)
 rw [if_pos c8] at H
 have c8b0 : decide (0 ≤ t147) = true := decide_eq_true c8
 clear c8
 by_cases c9 : t147 < (l0.length : Int)
 rotate_left
 ·rw [if_neg c9] at H
  exact absurd H (by simp)
 rw [if_pos c9] at H
 have c9b0 : decide (t147 < (l0.length : Int)) = true := decide_eq_true c9
 clear c9
 simp only [Option.some.injEq, Prod.mk.injEq] at H
 obtain ⟨rfl, rfl, rfl, rfl, rfl, rfl, rfl⟩ := H
 go_enter Tryd.func59, Tryd.ntmps59
 go_wp2_with (first | ((with_reducible refine gate_dst (N := 4) rfl ?_); refine box_event ?hg (N := 4) ?hd (cs := #[.int .i64 0, .int .i64 0, .string (⟨#[]⟩ : ByteArray), .int .i64 0, .string (⟨#[]⟩ : ByteArray), .bool false]) (t := 42) ?hr ?_; (case hd => rfl); (case hg => rfl); (case hr => first | (go_simp; done) | (go_simp; rfl)); intro gb146 hg w10 hbox hb; have n0_ := am_ (bt_ (by repeat (with_reducible first | exact HB.out | apply p3_ | apply p1_ | apply p2_)) hb); have n1_ := am_ (hbox); have n2_ := am_ ((by rw [hg]; exact (bz_ (by repeat (with_reducible first | exact HB.out | apply p3_ | apply p1_ | apply p2_))) : w.heap.size ≤ gb146)); have n3_ := am_ ((by rw [hg]; exact (bz_ (by repeat (with_reducible first | exact HB.out | apply p3_ | apply p1_ | apply p2_))) : w.heap.size ≤ gb146)); clear HB; have HB := n0_; have BK146 := n1_; have GW146 := n2_; have GE146 := n3_; clear n0_ n1_ n2_ n3_; clear hb hbox hg) | ((with_reducible refine gate_callee (f := 77) rfl ?_); refine goesL_ (some 9) rfl rfl Tryd.func77 (by kernel_rfl) rfl #[.slice A0 l0.length c0, .int .i64 a1] rfl (by (try simp only [List.map_toArray, List.map_cons, List.map_nil]); first | done | rfl | (simp only [List.length_drop, List.length_take]; rfl)) ?_; (with_reducible refine (table_at.calls _ _ l0 a1 t147 _ ?side1 ?side2 A3.out).mono ?_); (case side1 => repeat (first | exact (c4_ HR0.out HB.out) | (with_reducible refine c1_ ?_ _) | (with_reducible refine c2_ ?_ _) | (with_reducible refine c3_ ?_))); (case side2 => exact HC0.out); rintro e w11 ⟨rfl, hb⟩; refine ⟨_, rfl, ?_⟩; have n0_ := am_ (kb_ (g := gb146) (o := .cells #[.int .i64 0, .int .i64 0, .string (⟨#[]⟩ : ByteArray), .int .i64 0, .string (⟨#[]⟩ : ByteArray), .bool false] 42 (0, 0)) (by (with_reducible repeat (first | refine k2_ ?_ _ | refine k3_ ?_ | refine k1_ ?_ _)); exact BK146.out) hb); have n1_ := am_ (bt_ (by repeat (with_reducible first | exact HB.out | apply p3_ | apply p1_ | apply p2_ | refine bs_ ?_ GE146.out)) hb); clear BK146; clear HB; have BK146 := n0_; have HB := n1_; clear n0_ n1_; (try clear hb); have p148 : 0 ≤ (t147 : Int) := of_decide_eq_true (by first | (with_reducible assumption) | assumption); have q148 : t147 < (l0.length : Int) := of_decide_eq_true (by first | (with_reducible assumption) | assumption); obtain ⟨ad148, e148, hx148_0, hx148_1, hx148_2, hx148_3, hx148_4, hx148_5⟩ := at_T42 HR0.out t147 p148 q148; cases e148; replace hx148_0 := (HB.out.cell (wb_ w _ hx148_0)).trans hx148_0; replace hx148_1 := (HB.out.cell (wb_ w _ hx148_1)).trans hx148_1; replace hx148_2 := (HB.out.cell (wb_ w _ hx148_2)).trans hx148_2; replace hx148_3 := (HB.out.cell (wb_ w _ hx148_3)).trans hx148_3; replace hx148_4 := (HB.out.cell (wb_ w _ hx148_4)).trans hx148_4; replace hx148_5 := (HB.out.cell (wb_ w _ hx148_5)).trans hx148_5; replace p148 := eq_true p148; replace q148 := eq_true q148; have hcz12_0 : w11.cell? ⟨gb146, 0, none⟩ = some (.int .i64 0) := (bc_ BK146.out 0).trans rfl; have hcz12_1 : w11.cell? ⟨gb146, 1, none⟩ = some (.int .i64 0) := (bc_ BK146.out 1).trans rfl; have hcz12_2 : w11.cell? ⟨gb146, 2, none⟩ = some (.string (⟨#[]⟩ : ByteArray)) := (bc_ BK146.out 2).trans rfl; have hcz12_3 : w11.cell? ⟨gb146, 3, none⟩ = some (.int .i64 0) := (bc_ BK146.out 3).trans rfl; have hcz12_4 : w11.cell? ⟨gb146, 4, none⟩ = some (.string (⟨#[]⟩ : ByteArray)) := (bc_ BK146.out 4).trans rfl; have hcz12_5 : w11.cell? ⟨gb146, 5, none⟩ = some (.bool false) := (bc_ BK146.out 5).trans rfl; have hfz12_0 := bf_ BK146.out 0; have hfz12_1 := bf_ BK146.out 1; have hfz12_2 := bf_ BK146.out 2; have hfz12_3 := bf_ BK146.out 3; have hfz12_4 := bf_ BK146.out 4; have hfz12_5 := bf_ BK146.out 5))
 refine bodyPost_ret (results_ct rfl _ _ gb146 42 #[.int .i64 ((rd_T42 l0 t147).f0), .int .i64 ((rd_T42 l0 t147).f1), .string ((rd_T42 l0 t147).f2), .int .i64 ((rd_T42 l0 t147).f3), .string ((rd_T42 l0 t147).f4), .bool ((rd_T42 l0 t147).f5)] (0, 0) _ rfl (by (with_reducible repeat (first | refine k2_ ?_ _ | refine k3_ ?_ | refine k1_ ?_ _)); refine blk_put (cs := #[.int .i64 ((rd_T42 l0 t147).f0), .int .i64 ((rd_T42 l0 t147).f1), .string ((rd_T42 l0 t147).f2), .int .i64 ((rd_T42 l0 t147).f3), .string ((rd_T42 l0 t147).f4), .bool false]) ?_ 5 _ rfl; (with_reducible repeat (first | refine k2_ ?_ _ | refine k3_ ?_ | refine k1_ ?_ _)); refine blk_put (cs := #[.int .i64 ((rd_T42 l0 t147).f0), .int .i64 ((rd_T42 l0 t147).f1), .string ((rd_T42 l0 t147).f2), .int .i64 ((rd_T42 l0 t147).f3), .string (⟨#[]⟩ : ByteArray), .bool false]) ?_ 4 _ rfl; (with_reducible repeat (first | refine k2_ ?_ _ | refine k3_ ?_ | refine k1_ ?_ _)); refine blk_put (cs := #[.int .i64 ((rd_T42 l0 t147).f0), .int .i64 ((rd_T42 l0 t147).f1), .string ((rd_T42 l0 t147).f2), .int .i64 0, .string (⟨#[]⟩ : ByteArray), .bool false]) ?_ 3 _ rfl; (with_reducible repeat (first | refine k2_ ?_ _ | refine k3_ ?_ | refine k1_ ?_ _)); refine blk_put (cs := #[.int .i64 ((rd_T42 l0 t147).f0), .int .i64 ((rd_T42 l0 t147).f1), .string (⟨#[]⟩ : ByteArray), .int .i64 0, .string (⟨#[]⟩ : ByteArray), .bool false]) ?_ 2 _ rfl; (with_reducible repeat (first | refine k2_ ?_ _ | refine k3_ ?_ | refine k1_ ?_ _)); refine blk_put (cs := #[.int .i64 ((rd_T42 l0 t147).f0), .int .i64 0, .string (⟨#[]⟩ : ByteArray), .int .i64 0, .string (⟨#[]⟩ : ByteArray), .bool false]) ?_ 1 _ rfl; (with_reducible repeat (first | refine k2_ ?_ _ | refine k3_ ?_ | refine k1_ ?_ _)); refine blk_put (cs := #[.int .i64 0, .int .i64 0, .string (⟨#[]⟩ : ByteArray), .int .i64 0, .string (⟨#[]⟩ : ByteArray), .bool false]) ?_ 0 _ rfl; (with_reducible repeat (first | refine k2_ ?_ _ | refine k3_ ?_ | refine k1_ ?_ _)); exact BK146.out) Tryd.underlying42 rfl (by kernel_rfl)) rfl ?_
 exact ⟨by first | rfl | (simp [errW_none, errW_some] <;> rfl) | (simp [*, errW_none, errW_some] <;> rfl), by repeat (with_reducible first | exact HB.out | apply p3_ | apply p1_ | apply p2_ | refine bs_ ?_ GE146.out)⟩

/-! ### table_Find_c: function 59 -/
theorem find_idx (l : List S42) (h : Int) : (table_at.idx (fun x => x.f0 == h) l < 0 ∧ findL l h = none) ∨ ∃ (i : Nat) (hi : i < l.length), table_at.idx (fun x => x.f0 == h) l = (i : Int) ∧ findL l h = some (l[i]'hi) := by
 unfold table_at.idx findL
 cases e : l.findIdx? (fun x => x.f0 == h) with
 | none =>
  left
  refine ⟨by simp, List.find?_eq_none.2 fun x hx => ?_⟩
  have := List.findIdx?_eq_none_iff.1 e x hx
  simpa using this
 | some i =>
  right
  obtain ⟨hi, h1, h2⟩ := List.findIdx?_eq_some_iff_getElem.1 e
  exact ⟨i, hi, rfl, List.find?_eq_some_iff_getElem.2 ⟨h1, i, hi, rfl, fun j hj => by simpa using h2 j hj⟩⟩
def table_Find_c.f (l0 : List S42) (a1 : Int) : Option (Int × Int × ByteArray × Int × ByteArray × Bool × Bool) := if l0.length ≤ 140737488351232 then some ((gotL (findL l0 a1)).f0, (gotL (findL l0 a1)).f1, (gotL (findL l0 a1)).f2, (gotL (findL l0 a1)).f3, (gotL (findL l0 a1)).f4, (gotL (findL l0 a1)).f5, (findL l0 a1).isSome) else none
theorem table_Find_c.calls (A0 : Option Addr) (c0 : Nat) (l0 : List S42) (a1 : Int) (r1 : Int) (r2 : Int) (r3 : ByteArray) (r4 : Int) (r5 : ByteArray) (r6 : Bool) (r7 : Bool) (w : World) (hr0 : Kd.C k42 w A0 l0.length l0) (hc0 : l0.length ≤ c0) (h : table_Find_c.f l0 a1 = some (r1, r2, r3, r4, r5, r6, r7)) :
  Calls Tryd.prog 59 #[.slice A0 l0.length c0, .int .i64 a1] w fun e w' => e = .returned (.tuple #[.agg #[.int .i64 r1, .int .i64 r2, .string r3, .int .i64 r4, .string r5, .bool r6], .bool r7]) ∧ Below w.heap.size w w' := by
 unfold table_Find_c.f at h
 by_cases hs : l0.length ≤ 140737488351232
 ·rw [if_pos hs] at h
  refine table_Find.calls A0 c0 l0 a1 r1 r2 r3 r4 r5 r6 r7 w hr0 hc0 ?_
  unfold table_Find.f table_at.f
  rw [if_pos hs, Option.bind_some, ← h]
  rcases find_idx l0 a1 with ⟨h1, h2⟩ | ⟨i, hi, h1, h2⟩
  ·rw [if_pos h1, h2]
   rfl
  ·rw [h1, if_neg (by omega), if_pos (by omega), if_pos (by omega), h2, table_at.rd l0 i hi]
   rfl
 ·rw [if_neg hs] at h
  cases h

/-! ### lease_Live: function 54 -/
-- BY HAND
def lease_Live.f (a0_0 : Int) (a0_1 : Int) (a0_2 : ByteArray) (a0_3 : Int) (a0_4 : ByteArray) (a0_5 : Bool) (a1 : Int) : Option Bool := if a0_4.size ≤ 140737488351232 then some (liveB a0_0 a0_1 a0_2 a0_3 a0_4 a0_5 a1) else none
set_option maxHeartbeats 8000000 in
set_option maxRecDepth 100000 in
theorem lease_Live.calls (a0_0 : Int) (a0_1 : Int) (a0_2 : ByteArray) (a0_3 : Int) (a0_4 : ByteArray) (a0_5 : Bool) (a1 : Int) (r : Bool) (w : World) (h : lease_Live.f a0_0 a0_1 a0_2 a0_3 a0_4 a0_5 a1 = some r) :
  Calls Tryd.prog 54 #[.agg #[.int .i64 a0_0, .int .i64 a0_1, .string a0_2, .int .i64 a0_3, .string a0_4, .bool a0_5], .int .i64 a1] w fun e w' => e = .returned (.bool r) ∧ Below w.heap.size w w' := by
 unfold lease_Live.f at h
 by_cases hs : a0_4.size ≤ 140737488351232
 rotate_left
 ·rw [if_neg hs] at h
  cases h
 rw [if_pos hs] at h
 have HR := e5_ h
 unfold liveB at HR
 obtain ⟨b1, h1⟩ : ∃ b, leaseB a0_0 a0_1 a0_2 a0_3 a0_4 a0_5 = b := ⟨_, rfl⟩
 rw [h1] at HR
 have C1 := am_ (fun W => lease_May.calls a0_0 a0_1 a0_2 a0_3 a0_4 a0_5 b1 W (by unfold lease_May.f; rw [if_pos hs, h1]))
 have BK := am_ (blk_new w (.cells #[.int .i64 a0_0, .int .i64 a0_1, .string a0_2, .int .i64 a0_3, .string a0_4, .bool a0_5] 42))
 have HB := am_ (Below.refl w.heap.size w)
 replace HR := am_ HR
 clear h hs h1
 go_enter Tryd.func54, Tryd.ntmps54
 go_wp2_with (first
  | (go_at_call 74; (with_reducible refine (C1.out _).mono ?_); rintro e w1 ⟨rfl, hb2⟩; replace BK := am_ (kb_ (show _ from (by (with_reducible repeat (first | exact BK.out | refine k2_ ?_ _ | refine k3_ ?_ | refine k1_ ?_ _)))) hb2); replace HB := am_ (bt_ (show Below w.heap.size w _ by repeat (with_reducible first | exact HB.out | apply p3_ | apply p1_ | apply p2_)) hb2); clear hb2; have u0 := bc_ BK.out 0; have u1 := bc_ BK.out 1; have u2 := bc_ BK.out 2; have u3 := bc_ BK.out 3; have u4 := bc_ BK.out 4; have u5 := bc_ BK.out 5))
 all_goals (try go_ret)
 all_goals refine ⟨ret_bool ?_, ?_⟩
 all_goals first
  | ((repeat (with_reducible first | exact HB.out | apply p3_ | apply p1_ | apply p2_)); done)
  | (rw [← HR.out]; clear HR HB C1 BK; (try clear v0 v1 v2 v3 v4 v5); (try clear u0 u1 u2 u3 u4 u5); rw [Bool.eq_iff_iff]; (simp_all; done))
  | (rw [← HR.out]; clear HR HB C1 BK; simp_all <;> omega)

/-! ### lease_Holds: function 40 -/
-- BY HAND
set_option maxHeartbeats 8000000 in
set_option maxRecDepth 100000 in
theorem lease_Holds.calls (g : Nat) (s0 s1 : Int) (s2 : ByteArray) (s3 : Int) (s4 : ByteArray) (s5 : Bool) (c : ByteArray) (now : Int) (r : Bool) (w : World) (hb : w.heap[g]? = some (.cells #[.int .i64 s0, .int .i64 s1, .string s2, .int .i64 s3, .string s4, .bool s5] 42)) (hs : s4.size ≤ 140737488351232) (h : holdsB s0 s1 s2 s3 s4 s5 c now = r) :
  Calls Tryd.prog 40 #[.pointer (some ⟨g, 0, none⟩), .string c, .int .i64 now] w fun e w' => e = .returned (.bool r) ∧ Below w.heap.size w w' := by
 unfold holdsB at h
 obtain ⟨b1, h1⟩ : ∃ b, liveB s0 s1 s2 s3 s4 s5 now = b := ⟨_, rfl⟩
 rw [h1] at h
 have C1 := am_ (fun W => lease_Live.calls s0 s1 s2 s3 s4 s5 now b1 W (by unfold lease_Live.f; rw [if_pos hs, h1]))
 have HR := am_ h
 have HB := am_ (Below.refl w.heap.size w)
 have BK := am_ hb
 have v0 := bc_ hb 0
 have v1 := bc_ hb 1
 have v2 := bc_ hb 2
 have v3 := bc_ hb 3
 have v4 := bc_ hb 4
 have v5 := bc_ hb 5
 clear h hb hs h1
 go_enter Tryd.func40, Tryd.ntmps40
 go_wp2_with (first
  | (go_at_call 54; (with_reducible refine (C1.out _).mono ?_); rintro e w1 ⟨rfl, hb2⟩; replace BK := am_ (kb_ (show _ from (by (with_reducible repeat (first | exact BK.out | refine k2_ ?_ _ | refine k3_ ?_ | refine k1_ ?_ _)))) hb2); replace HB := am_ (bt_ (show Below w.heap.size w _ by repeat (with_reducible first | exact HB.out | apply p3_ | apply p1_ | apply p2_)) hb2); clear hb2; have u0 := bc_ BK.out 0; have u1 := bc_ BK.out 1; have u2 := bc_ BK.out 2; have u3 := bc_ BK.out 3; have u4 := bc_ BK.out 4; have u5 := bc_ BK.out 5))
 all_goals (try go_ret)
 all_goals refine ⟨ret_bool ?_, ?_⟩
 all_goals first
  | ((repeat (with_reducible first | exact HB.out | apply p3_ | apply p1_ | apply p2_)); done)
  | (rw [← HR.out]; clear HR HB C1 BK; (try clear v0 v1 v2 v3 v4 v5); (try clear u0 u1 u2 u3 u4 u5); rw [Bool.eq_iff_iff]; (simp_all; done))
  | (rw [← HR.out]; clear HR HB C1 BK; simp_all <;> omega)

/-! ### pinfoldlaw0_Num: function 20 -/
def pinfoldlaw0_Num.f (a0 : Int) : Option (Int) := some a0
set_option maxHeartbeats 8000000 in
set_option maxRecDepth 100000 in
theorem pinfoldlaw0_Num.calls (a0 : Int) (r : Int) (w : World) (h : pinfoldlaw0_Num.f a0 = some r) :
  Calls Tryd.prog 20 #[.int .i64 a0] w fun e w' => e = .returned (.int .i64 r) ∧ Drawn0 w w' := by
 have H : (some a0) = some r := h
 clear h
 obtain rfl := e5_ H
 go_enter Tryd.func20, Tryd.ntmps20
 go_wp2
 go_ret
 exact ⟨by first | rfl | (simp; done) | (simp [*]; done), by repeat (first | exact Drawn0.refl _ | apply Drawn0.step)⟩

end Go.Proofs.YtmoobaehoccihaaDoor.PE
