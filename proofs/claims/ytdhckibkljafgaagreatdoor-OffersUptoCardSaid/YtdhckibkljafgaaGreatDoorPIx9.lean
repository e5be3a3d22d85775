-- Made by wip/pr.py out of the translation (a turned copy of the kit's print; contracts by hand where said).
import Derived.Test.YtdhckibkljafgaaGreatDoorPIx0
import Derived.Test.YtdhckibkljafgaaGreatDoorPIx4
import Derived.Test.YtdhckibkljafgaaGreatDoorPIx6
import Derived.Test.YtdhckibkljafgaaGreatDoorPIx7
import Derived.Test.YtdhckibkljafgaaGreatDoorPIx8
namespace Go.Proofs.YtdhckibkljafgaaGreatDoor.PI
open Go.RowKit Go.Proofs.YtdhckibkljafgaaGreatDoorW.PrintWords Go.Proofs.YtdhckibkljafgaaGreatDoorW.PrintLast Go.Proofs.YtdhckibkljafgaaGreatDoorW.PrintMore
-- shrunk
attribute [local go_sem] max2_int min2_int max_two min_two max_three min_three max_four min_four   -- for this text's walks alone
set_option linter.unusedVariables false
set_option linter.unusedSimpArgs false

/-! ### table_Of: function 39 -/
-- BY HAND
-- 54 50 48
def table_Of.f (l0 : List S44) (a1 : ByteArray) (a2 : Int) : Option (Int × Int × ByteArray × Int × ByteArray × Bool × Bool) := if tabFit l0 then some ((gotL (ofL l0 a1 a2)).f0, (gotL (ofL l0 a1 a2)).f1, (gotL (ofL l0 a1 a2)).f2, (gotL (ofL l0 a1 a2)).f3, (gotL (ofL l0 a1 a2)).f4, (gotL (ofL l0 a1 a2)).f5, (ofL l0 a1 a2).isSome) else none
theorem of_idx (p : S44 → Bool) (l : List S44) : (table_at.idx p l < 0 ∧ l.find? p = none) ∨ ∃ (i : Nat) (hi : i < l.length), table_at.idx p l = (i : Int) ∧ l.find? p = some (l[i]'hi) := by
 unfold table_at.idx
 cases e : l.findIdx? p with
 | none =>
  left
  refine ⟨by simp, List.find?_eq_none.2 fun x hx => ?_⟩
  have := List.findIdx?_eq_none_iff.1 e x hx
  simpa using this
 | some i =>
  right
  obtain ⟨hi, h1, h2⟩ := List.findIdx?_eq_some_iff_getElem.1 e
  exact ⟨i, hi, rfl, List.find?_eq_some_iff_getElem.2 ⟨h1, i, hi, rfl, fun j hj => by simpa using h2 j hj⟩⟩
set_option maxHeartbeats 8000000 in
set_option maxRecDepth 100000 in
theorem table_Of.closure (a1 : ByteArray) (a2 : Int) (B1 B2 : Nat) (x : S44) (r : Bool) (w : World) (hc1 : w.cell? ⟨B1, 0, none⟩ = some (.string a1)) (hc2 : w.cell? ⟨B2, 0, none⟩ = some (.int .i64 a2)) (hs : x.f4.size ≤ 140737488351232) (h : holdsX a1 a2 x = r) :
  Calls Tryz.prog 64 #[.agg #[.int .i64 x.f0, .int .i64 x.f1, .string x.f2, .int .i64 x.f3, .string x.f4, .bool x.f5], .pointer (some ⟨B1, 0, none⟩), .pointer (some ⟨B2, 0, none⟩)] w fun e w' => e = .returned (.bool r) ∧ Below w.heap.size w w' := by
 have hlt1 : B1 < w.heap.size := wb_ w _ hc1
 have hlt2 : B2 < w.heap.size := wb_ w _ hc2
 have hne1 : B1 ≠ w.heap.size := by omega
 have hne2 : B2 ≠ w.heap.size := by omega
 have hcall := lease_Holds.calls w.heap.size x.f0 x.f1 x.f2 x.f3 x.f4 x.f5 a1 a2 r (w.alloc (.cells #[.int .i64 x.f0, .int .i64 x.f1, .string x.f2, .int .i64 x.f3, .string x.f4, .bool x.f5] 44)) (blk_new _ _) hs h
 clear h hs
 go_enter Tryz.func64, Tryz.ntmps64
 go_wp2_with (first | (go_at_call 48; refine hcall.mono ?_; rintro e w' ⟨rfl, hb'⟩))
 go_ret
 exact ⟨rfl, bt_ (p3_ (Below.refl _ _) _) hb'⟩
set_option maxHeartbeats 8000000 in
set_option maxRecDepth 100000 in
theorem table_Of.calls (A0 : Option Addr) (c0 : Nat) (l0 : List (S44)) (a1 : ByteArray) (a2 : Int) (r1 : Int) (r2 : Int) (r3 : ByteArray) (r4 : Int) (r5 : ByteArray) (r6 : Bool) (r7 : Bool) (w : World) (hr0 : Kd.C k44 w A0 l0.length l0) (hc0 : l0.length ≤ c0) (h : table_Of.f l0 a1 a2 = some (r1, r2, r3, r4, r5, r6, r7)) :
  Calls Tryz.prog 39 #[.slice A0 l0.length c0, .string a1, .int .i64 a2] w fun e w' => e = .returned (.tuple #[.agg #[.int .i64 r1, .int .i64 r2, .string r3, .int .i64 r4, .string r5, .bool r6], .bool r7]) ∧ Below w.heap.size w w' := by
 unfold table_Of.f at h
 by_cases ha : tabFit l0
 rotate_left
 ·rw [if_neg ha] at h
  cases h
 rw [if_pos ha] at h
 have hs := ha.1
 have HO := of_idx (holdsX a1 a2) l0
 unfold ofL at h
 have eg : ∀ args w, (callFunc 64 args).run Tryz.prog w = .ok (.enter 64 args) w := fun args w => enters_ Tryz.func64 (by kernel_rfl) rfl args w
 obtain ⟨W3, hW3⟩ : ∃ W3, ((w.alloc (.cells #[.string a1] 9)).alloc (.cells #[.int .i64 a2] 3)).alloc (.cells #[.int .i64 0, .int .i64 0, .string (⟨#[]⟩ : ByteArray), .int .i64 0, .string (⟨#[]⟩ : ByteArray), .bool false] 44) = W3 := ⟨_, rfl⟩
 have HB := am_ (show Below w.heap.size w W3 by rw [← hW3]; repeat (first | exact Below.refl _ _ | apply p3_))
 have e1 : W3.heap[w.heap.size]? = some (.cells #[.string a1] 9) := by
  rw [← hW3]
  exact kb_ (blk_new w _) (by repeat (first | exact Below.refl _ _ | apply p3_))
 have e2 : W3.heap[w.heap.size + 1]? = some (.cells #[.int .i64 a2] 3) := by
  have := kb_ (blk_new (w.alloc (.cells #[.string a1] 9)) (.cells #[.int .i64 a2] 3)) (p3_ (Below.refl _ _) (.cells #[.int .i64 0, .int .i64 0, .string (⟨#[]⟩ : ByteArray), .int .i64 0, .string (⟨#[]⟩ : ByteArray), .bool false] 44))
  rw [hW3] at this
  simpa using this
 have E3 := am_ (show W3.heap[w.heap.size + 1 + 1]? = some (.cells #[.int .i64 0, .int .i64 0, .string (⟨#[]⟩ : ByteArray), .int .i64 0, .string (⟨#[]⟩ : ByteArray), .bool false] 44) by
  have := blk_new ((w.alloc (.cells #[.string a1] 9)).alloc (.cells #[.int .i64 a2] 3)) (.cells #[.int .i64 0, .int .i64 0, .string (⟨#[]⟩ : ByteArray), .int .i64 0, .string (⟨#[]⟩ : ByteArray), .bool false] 44)
  rw [hW3] at this
  simpa using this)
 have hI := table_at.index (holdsX a1 a2) 64 #[.pointer (some ⟨w.heap.size, 0, none⟩), .pointer (some ⟨w.heap.size + 1, 0, none⟩)] A0 c0 l0 W3 (c4_ hr0 HB.out) hs eg (fun W x hx hW => table_Of.closure a1 a2 w.heap.size (w.heap.size + 1) x _ W ((bc_ (kb_ e1 hW) 0).trans rfl) ((bc_ (kb_ e2 hW) 0).trans rfl) (ha.2 x hx) rfl)
 replace hI := am_ hI
 have HR := am_ (c4_ hr0 HB.out)
 have HC := am_ hc0
 have hil := table_at.idx_lt (holdsX a1 a2) l0
 have HA := am_ ha
 clear eg e1 e2 ha hr0 hc0
 generalize table_at.idx (holdsX a1 a2) l0 = i at hI HO hil
 by_cases hi : i < 0
 ·have hn : l0.find? (holdsX a1 a2) = none := by
   rcases HO with ⟨_, h2⟩ | ⟨ii, hii, e, _⟩
   ·exact h2
   ·omega
  have hno : (if tableB l0 = true then l0.find? (holdsX a1 a2) else none) = none := by rw [hn, ite_self]
  rw [hno] at h
  replace h : (some ((0 : Int), (0 : Int), (⟨#[]⟩ : ByteArray), (0 : Int), (⟨#[]⟩ : ByteArray), false, false) : Option (Int × Int × ByteArray × Int × ByteArray × Bool × Bool)) = some (r1, r2, r3, r4, r5, r6, r7) := h
  simp only [Option.some.injEq, Prod.mk.injEq] at h
  obtain ⟨rfl, rfl, rfl, rfl, rfl, rfl, rfl⟩ := h
  clear HO hn hno HA
  have hib : decide (i < 0) = true := decide_eq_true hi
  clear hi
  go_enter Tryz.func39, Tryz.ntmps39
  go_wp2_with (first
   | (go_at_call 63; (try rw [hW3]); refine hI.out.mono ?_; rintro e w4 ⟨rfl, hb4⟩; have e4 := kb_ E3.out hb4; have u0 := bc_ e4 0; have u1 := bc_ e4 1; have u2 := bc_ e4 2; have u3 := bc_ e4 3; have u4 := bc_ e4 4; have u5 := bc_ e4 5; have v0 := bf_ e4 0; have v1 := bf_ e4 1; have v2 := bf_ e4 2; have v3 := bf_ e4 3; have v4 := bf_ e4 4; have v5 := bf_ e4 5; replace HB := am_ (bt_ HB.out hb4); have E4 := am_ e4; clear hb4 e4))
  have hg : w.heap.size ≤ w.heap.size + 1 + 1 := by omega
  refine bodyPost_ret (results_ct rfl _ _ (w.heap.size + 1 + 1) 44 #[.int .i64 0, .int .i64 0, .string (⟨#[]⟩ : ByteArray), .int .i64 0, .string (⟨#[]⟩ : ByteArray), .bool false] (0, 0) _ rfl (blk_set (blk_set (blk_set (blk_set (blk_set (blk_set E4.out 0 (.int .i64 0)) 1 (.int .i64 0)) 2 (.string (⟨#[]⟩ : ByteArray))) 3 (.int .i64 0)) 4 (.string (⟨#[]⟩ : ByteArray))) 5 (.bool false)) Tryz.underlying44 rfl (by kernel_rfl)) rfl ?_
  exact ⟨by first | rfl | simp, (((((HB.out.setCell hg _).setCell hg _).setCell hg _).setCell hg _).setCell hg _).setCell hg _⟩
 ·obtain ⟨m, hm⟩ : ∃ m, tableB l0 = m := ⟨_, rfl⟩
  rw [hm] at h
  have HM := am_ (fun W hr => table_May_c.calls A0 c0 l0 m W hr HC.out (by unfold table_May_c.f; rw [if_pos HA.out, hm]))
  have hf : l0.find? (holdsX a1 a2) = some (rd_T44 l0 i) := by
   rcases HO with ⟨h1, _⟩ | ⟨ii, hii, e, h2⟩
   ·exact absurd h1 hi
   ·rw [h2, e, table_at.rd l0 ii hii]
  rw [hf] at h
  clear HO hf HA
  have hib : decide (i < 0) = false := decide_eq_false hi
  have hg : w.heap.size ≤ w.heap.size + 1 + 1 := by omega
  have hi0 : 0 ≤ i := by omega
  have hi1 : i < (l0.length : Int) := hil.1
  clear hm hi hil
  cases m with
  | false =>
   rw [if_neg (by decide)] at h
   replace h : (some ((0 : Int), (0 : Int), (⟨#[]⟩ : ByteArray), (0 : Int), (⟨#[]⟩ : ByteArray), false, false) : Option (Int × Int × ByteArray × Int × ByteArray × Bool × Bool)) = some (r1, r2, r3, r4, r5, r6, r7) := h
   simp only [Option.some.injEq, Prod.mk.injEq] at h
   obtain ⟨rfl, rfl, rfl, rfl, rfl, rfl, rfl⟩ := h
   go_enter Tryz.func39, Tryz.ntmps39
   go_wp2_with (first
   | (go_at_call 63; (try rw [hW3]); refine hI.out.mono ?_; rintro e w4 ⟨rfl, hb4⟩; have e4 := kb_ E3.out hb4; replace HB := am_ (bt_ HB.out hb4); have E4 := am_ e4; have HB3 := am_ hb4; clear hb4 e4)
   | (go_at_call 54; refine (HM.out _ (c4_ HR.out HB3.out)).mono ?_; rintro e w5 ⟨rfl, hb5⟩; have e5 := kb_ E4.out hb5; have u0 := bc_ e5 0; have u1 := bc_ e5 1; have u2 := bc_ e5 2; have u3 := bc_ e5 3; have u4 := bc_ e5 4; have u5 := bc_ e5 5; have v0 := bf_ e5 0; have v1 := bf_ e5 1; have v2 := bf_ e5 2; have v3 := bf_ e5 3; have v4 := bf_ e5 4; have v5 := bf_ e5 5; replace HB := am_ (bt_ HB.out hb5); replace HB3 := am_ (bt_ HB3.out hb5); have E5 := am_ e5; clear hb5 e5))
   refine bodyPost_ret (results_ct rfl _ _ (w.heap.size + 1 + 1) 44 #[.int .i64 0, .int .i64 0, .string (⟨#[]⟩ : ByteArray), .int .i64 0, .string (⟨#[]⟩ : ByteArray), .bool false] (0, 0) _ rfl (blk_set (blk_set (blk_set (blk_set (blk_set (blk_set E5.out 0 (.int .i64 0)) 1 (.int .i64 0)) 2 (.string (⟨#[]⟩ : ByteArray))) 3 (.int .i64 0)) 4 (.string (⟨#[]⟩ : ByteArray))) 5 (.bool false)) Tryz.underlying44 rfl (by kernel_rfl)) rfl ?_
   exact ⟨by first | rfl | simp, (((((HB.out.setCell hg _).setCell hg _).setCell hg _).setCell hg _).setCell hg _).setCell hg _⟩
  | true =>
   rw [if_pos rfl] at h
   obtain ⟨ad, e1, hx0, hx1, hx2, hx3, hx4, hx5⟩ := at_T44 HR.out i hi0 hi1
   cases e1
   generalize rd_T44 l0 i = x at h hx0 hx1 hx2 hx3 hx4 hx5
   replace h : some (x.f0, x.f1, x.f2, x.f3, x.f4, x.f5, true) = some (r1, r2, r3, r4, r5, r6, r7) := h
   simp only [Option.some.injEq, Prod.mk.injEq] at h
   obtain ⟨rfl, rfl, rfl, rfl, rfl, rfl, rfl⟩ := h
   go_enter Tryz.func39, Tryz.ntmps39
   go_wp2_with (first
   | (go_at_call 63; (try rw [hW3]); refine hI.out.mono ?_; rintro e w4 ⟨rfl, hb4⟩; have e4 := kb_ E3.out hb4; replace HB := am_ (bt_ HB.out hb4); have E4 := am_ e4; have HB3 := am_ hb4; clear hb4 e4)
   | (go_at_call 54; refine (HM.out _ (c4_ HR.out HB3.out)).mono ?_; rintro e w5 ⟨rfl, hb5⟩; have e5 := kb_ E4.out hb5; have u0 := bc_ e5 0; have u1 := bc_ e5 1; have u2 := bc_ e5 2; have u3 := bc_ e5 3; have u4 := bc_ e5 4; have u5 := bc_ e5 5; have v0 := bf_ e5 0; have v1 := bf_ e5 1; have v2 := bf_ e5 2; have v3 := bf_ e5 3; have v4 := bf_ e5 4; have v5 := bf_ e5 5; have x0 := (HB3.out.cell (wb_ _ _ hx0)).trans hx0; have x0 := (hb5.cell (wb_ _ _ x0)).trans x0; have x1 := (HB3.out.cell (wb_ _ _ hx1)).trans hx1; have x1 := (hb5.cell (wb_ _ _ x1)).trans x1; have x2 := (HB3.out.cell (wb_ _ _ hx2)).trans hx2; have x2 := (hb5.cell (wb_ _ _ x2)).trans x2; have x3 := (HB3.out.cell (wb_ _ _ hx3)).trans hx3; have x3 := (hb5.cell (wb_ _ _ x3)).trans x3; have x4 := (HB3.out.cell (wb_ _ _ hx4)).trans hx4; have x4 := (hb5.cell (wb_ _ _ x4)).trans x4; have x5 := (HB3.out.cell (wb_ _ _ hx5)).trans hx5; have x5 := (hb5.cell (wb_ _ _ x5)).trans x5; replace HB := am_ (bt_ HB.out hb5); replace HB3 := am_ (bt_ HB3.out hb5); have E5 := am_ e5; clear hb5 e5))
   refine bodyPost_ret (results_ct rfl _ _ (w.heap.size + 1 + 1) 44 #[.int .i64 x.f0, .int .i64 x.f1, .string x.f2, .int .i64 x.f3, .string x.f4, .bool x.f5] (0, 0) _ rfl (blk_set (blk_set (blk_set (blk_set (blk_set (blk_set E5.out 0 (.int .i64 x.f0)) 1 (.int .i64 x.f1)) 2 (.string x.f2)) 3 (.int .i64 x.f3)) 4 (.string x.f4)) 5 (.bool x.f5)) Tryz.underlying44 rfl (by kernel_rfl)) rfl ?_
   exact ⟨by first | rfl | simp, (((((HB.out.setCell hg _).setCell hg _).setCell hg _).setCell hg _).setCell hg _).setCell hg _⟩

/-! ### conf_find: function 65 -/
-- BY HAND
-- 61
set_option maxHeartbeats 8000000 in
set_option maxRecDepth 100000 in
theorem conf_find.calls (p : S81 → Bool) (G : Nat) (lb : Array Value) (g : Nat) (a0_0 : Int) (a0_1 : Int) (A0_2 : Option Addr) (c0_2 : Nat) (l0_2 : List Int) (A0_3 : Option Addr) (c0_3 : Nat) (l0_3 : List S81) (a0_4 : Int) (a0_5 : ByteArray) (A0_6 : Option Addr) (c0_6 : Nat) (l0_6 : List S83) (b : Bool) (w : World)
  (bk : w.heap[g]? = some (.cells #[.int .i64 a0_0, .int .i64 a0_1, .slice A0_2 l0_2.length c0_2, .slice A0_3 l0_3.length c0_3, .int .i64 a0_4, .string a0_5, .slice A0_6 l0_6.length c0_6] 26))
  (hr0_2 : Kd.C (Kd.int .i64) w A0_2 l0_2.length l0_2) (hc0_2 : l0_2.length ≤ c0_2) (hr0_3 : Kd.C k81 w A0_3 l0_3.length l0_3) (hc0_3 : l0_3.length ≤ c0_3) (hr0_6 : Kd.C k83 w A0_6 l0_6.length l0_6) (hc0_6 : l0_6.length ≤ c0_6) (h : conf_May.f a0_0 a0_1 l0_2 l0_3 a0_4 a0_5 l0_6 = some b)
  (hs : l0_3.length ≤ 5864062014805)
  (eg : ∀ args w, (callFunc G args).run Tryz.prog w = .ok (.enter G args) w)
  (hp : ∀ (W : World) (ad : Addr) (x : S81), Below w.heap.size w W → W.cell? ad = some (.string x.f0) → W.cell? ⟨ad.block, ad.off + 1, none⟩ = some (.int .i64 x.f1) → Calls Tryz.prog G (#[.pointer (some ad)] ++ lb) W fun e w' => e = .returned (.bool (p x)) ∧ Below W.heap.size W w') :
  Calls Tryz.prog 65 #[.pointer (some ⟨g, 0, none⟩), .func (.func G) #[] lb] w fun e w' => e = .returned (.tuple #[(.agg #[.string (foundN (findS p b l0_3)), .int .i64 (foundH (findS p b l0_3))]), .bool (foundIs (findS p b l0_3))]) ∧ Below w.heap.size w w' := by
 have HR3 := am_ hr0_3
 have BG := am_ bk
 have HP := am_ hp
 have CM := am_ (fun W (hb : Below w.heap.size w W) => conf_May.calls a0_0 a0_1 A0_2 c0_2 l0_2 A0_3 c0_3 l0_3 a0_4 a0_5 A0_6 c0_6 l0_6 b W (c4_ hr0_2 hb) hc0_2 (c4_ hr0_3 hb) hc0_3 (c4_ hr0_6 hb) hc0_6 h)
 obtain ⟨R, hR⟩ : ∃ R, findS p b l0_3 = R := ⟨_, rfl⟩
 have HF := am_ hR
 rw [hR]
 have hg := blk_lt bk
 have hgne : g ≠ w.heap.size := by omega
 have hz3 : (w.alloc (.cells #[.string (⟨#[]⟩ : ByteArray), .int .i64 0] 81)).cell? ⟨g, 3, none⟩ = some (.slice A0_3 l0_3.length c0_3) := (bc_ (k1_ bk _) 3).trans rfl
 clear hr0_2 hr0_3 hr0_6 hc0_2 hc0_3 hc0_6 h hp bk hR
 go_enter Tryz.func65, Tryz.ntmps65
 go_wp2
 clear hz3
 go_loopg [12] l0_3.length (fun d v9 wr => ∃ (i : Int), 0 ≤ i ∧ i.toNat + d = l0_3.length ∧ v9 = .int .i64 i ∧ Aside0 (wr.heap[w.heap.size]? = some (.cells #[.string (⟨#[]⟩ : ByteArray), .int .i64 0] 81)) ∧ Aside0 (Below w.heap.size w wr) ∧ Aside0 (findS p b l0_3 = findS p b (l0_3.drop i.toNat)))
 case atStart => exact ⟨0, by omega, by simp, rfl, ⟨blk_new _ _⟩, ⟨p3_ (Below.refl _ _) _⟩, ⟨rfl⟩⟩
 case round =>
  obtain ⟨i, hi0, hd, rfl, BZ, HB, HS⟩ := hrel
  have hge : w.heap.size ≤ w.heap.size := Nat.le_refl _
  by_cases hlt : i < (l0_3.length : Int)
  ·obtain ⟨ad, e1, hx0, hx1⟩ := at_T81 HR3.out i hi0 hlt
   cases e1
   replace hx0 := (HB.out.cell (wb_ w _ hx0)).trans hx0
   replace hx1 := (HB.out.cell (wb_ w _ hx1)).trans hx1
   have HD := HS.out
   have hd1 := (dropRes l0_3 i hi0 hlt).1
   rw [hd1] at HD
   clear HS hd1
   generalize rd_T81 l0_3 i = x at hx0 hx1 HD
   have hcall := HP.out wr (ad.add (i.toNat * 2)) x HB.out hx0 hx1
   have HG := am_ (kb_ BG.out HB.out)
   have v0 := bc_ HG.out 0
   have v1 := bc_ HG.out 1
   have v2 := bc_ HG.out 2
   have v3 := bc_ HG.out 3
   have v4 := bc_ HG.out 4
   have v5 := bc_ HG.out 5
   have v6 := bc_ HG.out 6
   obtain ⟨q, hq⟩ : ∃ q, p x = q := ⟨_, rfl⟩
   rw [hq] at hcall
   have HQ : q = true → b = true → R = some x := fun e1 e2 => by
    rw [← HF.out, HD]
    unfold findS
    rw [if_pos e2, List.find?_cons, hq, e1]
   have HN : (q && b) = false → findS p b l0_3 = findS p b (l0_3.drop (i.toNat + 1)) := fun e => by
    rw [HD]
    unfold findS
    cases b with
    | false => rfl
    | true =>
     rw [Bool.and_true] at e
     rw [if_pos rfl, if_pos rfl, List.find?_cons, hq, e]
   clear HD hq HP
   cases q with
   | true =>
    cases b with
    | true =>
     have HQ2 := am_ (HQ rfl rfl)
     clear HQ HN HF
     go_wp2_with fail
     refine hcall.mono ?_
     rintro e w' ⟨rfl, hb'⟩
     clear hcall
     replace hx0 := (hb'.cell (wb_ _ _ hx0)).trans hx0
     replace hx1 := (hb'.cell (wb_ _ _ hx1)).trans hx1
     replace BZ := am_ (kb_ BZ.out hb')
     replace HG := am_ (kb_ HG.out hb')
     replace v0 := bc_ HG.out 0
     replace v1 := bc_ HG.out 1
     replace v2 := bc_ HG.out 2
     replace v3 := bc_ HG.out 3
     replace v4 := bc_ HG.out 4
     replace v5 := bc_ HG.out 5
     replace v6 := bc_ HG.out 6
     replace HB := am_ (bt_ HB.out hb')
     clear hb'
     go_wp2_with fail
     (with_reducible refine (CM.out _ HB.out).mono ?_)
     rintro e w'' ⟨rfl, hb'⟩
     replace hx0 := (hb'.cell (wb_ _ _ hx0)).trans hx0
     replace hx1 := (hb'.cell (wb_ _ _ hx1)).trans hx1
     replace BZ := am_ (kb_ BZ.out hb')
     replace HG := am_ (kb_ HG.out hb')
     replace v0 := bc_ HG.out 0
     replace v1 := bc_ HG.out 1
     replace v2 := bc_ HG.out 2
     replace v3 := bc_ HG.out 3
     replace v4 := bc_ HG.out 4
     replace v5 := bc_ HG.out 5
     replace v6 := bc_ HG.out 6
     have z0 := bf_ BZ.out 0
     have z1 := bf_ BZ.out 1
     have y0 := bc_ BZ.out 0
     have y1 := bc_ BZ.out 1
     replace HB := am_ (bt_ HB.out hb')
     clear hb'
     go_wp2
     refine bodyPost_ret (results_ct rfl _ _ w.heap.size 81 #[.string x.f0, .int .i64 x.f1] (0, 0) _ rfl (blk_set (blk_set BZ.out 0 (.string x.f0)) 1 (.int .i64 x.f1)) Tryz.underlying81 rfl (by kernel_rfl)) rfl ?_
     rw [HQ2.out]
     exact ⟨rfl, (HB.out.setCell hge _).setCell hge _⟩
    | false =>
     replace HN := am_ (HN rfl)
     clear HQ
     go_wp2_with fail
     refine hcall.mono ?_
     rintro e w' ⟨rfl, hb'⟩
     clear hcall
     replace hx0 := (hb'.cell (wb_ _ _ hx0)).trans hx0
     replace hx1 := (hb'.cell (wb_ _ _ hx1)).trans hx1
     replace BZ := am_ (kb_ BZ.out hb')
     replace HG := am_ (kb_ HG.out hb')
     replace v0 := bc_ HG.out 0
     replace v1 := bc_ HG.out 1
     replace v2 := bc_ HG.out 2
     replace v3 := bc_ HG.out 3
     replace v4 := bc_ HG.out 4
     replace v5 := bc_ HG.out 5
     replace v6 := bc_ HG.out 6
     replace HB := am_ (bt_ HB.out hb')
     clear hb'
     go_wp2_with fail
     (with_reducible refine (CM.out _ HB.out).mono ?_)
     rintro e w'' ⟨rfl, hb'⟩
     replace hx0 := (hb'.cell (wb_ _ _ hx0)).trans hx0
     replace hx1 := (hb'.cell (wb_ _ _ hx1)).trans hx1
     replace BZ := am_ (kb_ BZ.out hb')
     replace HG := am_ (kb_ HG.out hb')
     replace v0 := bc_ HG.out 0
     replace v1 := bc_ HG.out 1
     replace v2 := bc_ HG.out 2
     replace v3 := bc_ HG.out 3
     replace v4 := bc_ HG.out 4
     replace v5 := bc_ HG.out 5
     replace v6 := bc_ HG.out 6
     have z0 := bf_ BZ.out 0
     have z1 := bf_ BZ.out 1
     have y0 := bc_ BZ.out 0
     have y1 := bc_ BZ.out 1
     replace HB := am_ (bt_ HB.out hb')
     clear hb'
     go_wp2
     go_roundg (l0_3.length - (i.toNat + 1))
     case measure => first | omega | (simp; omega)
     case rel =>
      have e2 : (i + 1).toNat = i.toNat + 1 := by omega
      exact ⟨i + 1, by omega, by omega, by go_num, ⟨BZ.out⟩, ⟨HB.out⟩, ⟨by rw [e2]; exact HN.out⟩⟩
   | false =>
    replace HN := am_ (HN rfl)
    clear HQ
    go_wp2_with fail
    refine hcall.mono ?_
    rintro e w' ⟨rfl, hb'⟩
    clear hcall
    replace hx0 := (hb'.cell (wb_ _ _ hx0)).trans hx0
    replace hx1 := (hb'.cell (wb_ _ _ hx1)).trans hx1
    replace BZ := am_ (kb_ BZ.out hb')
    replace HG := am_ (kb_ HG.out hb')
    replace v0 := bc_ HG.out 0
    replace v1 := bc_ HG.out 1
    replace v2 := bc_ HG.out 2
    replace v3 := bc_ HG.out 3
    replace v4 := bc_ HG.out 4
    replace v5 := bc_ HG.out 5
    replace v6 := bc_ HG.out 6
    replace HB := am_ (bt_ HB.out hb')
    clear hb'
    go_wp2
    go_roundg (l0_3.length - (i.toNat + 1))
    case measure => first | omega | (simp; omega)
    case rel =>
     have e2 : (i + 1).toNat = i.toNat + 1 := by omega
     exact ⟨i + 1, by omega, by omega, by go_num, ⟨BZ.out⟩, ⟨HB.out⟩, ⟨by rw [e2]; exact HN.out⟩⟩
  ·have e3 : l0_3.drop i.toNat = [] := List.drop_eq_nil_of_le (by omega)
   have HE : R = none := by
    rw [← HF.out, HS.out, e3]
    unfold findS
    split <;> rfl
   replace HE := am_ HE
   clear HS HF
   have z0 := bf_ BZ.out 0
   have z1 := bf_ BZ.out 1
   have y0 := bc_ BZ.out 0
   have y1 := bc_ BZ.out 1
   go_wp2
   refine bodyPost_ret (results_ct rfl _ _ w.heap.size 81 #[.string (⟨#[]⟩ : ByteArray), .int .i64 0] (0, 0) _ rfl (blk_set (blk_set BZ.out 0 (.string (⟨#[]⟩ : ByteArray))) 1 (.int .i64 0)) Tryz.underlying81 rfl (by kernel_rfl)) rfl ?_
   rw [HE.out]
   exact ⟨rfl, (HB.out.setCell hge _).setCell hge _⟩

/-! ### conf_Reserved: function 40 -/
-- BY HAND
-- 61 65
def conf_Reserved.f (a0_0 : Int) (a0_1 : Int) (l0_2 : List Int) (l0_3 : List S81) (a0_4 : Int) (a0_5 : ByteArray) (l0_6 : List S83) (a1 : ByteArray) : Option (Int × Bool) := if confFit l0_2 l0_3 a0_5 l0_6 then some (foundH (reservR a0_0 a0_1 l0_2 l0_3 a0_4 a0_5 l0_6 a1), foundIs (reservR a0_0 a0_1 l0_2 l0_3 a0_4 a0_5 l0_6 a1)) else none
set_option maxHeartbeats 8000000 in
set_option maxRecDepth 100000 in
theorem conf_Reserved.is_ (a1 : ByteArray) (B1 : Nat) (ad : Addr) (x : S81) (w : World) (hc : w.cell? ⟨B1, 0, none⟩ = some (.string a1)) (h0 : w.cell? ad = some (.string x.f0)) (h1 : w.cell? ⟨ad.block, ad.off + 1, none⟩ = some (.int .i64 x.f1)) :
  Calls Tryz.prog 66 #[.pointer (some ad), .pointer (some ⟨B1, 0, none⟩)] w fun e w' => e = .returned (.bool (x.f0.toList == a1.toList)) ∧ Below w.heap.size w w' := by
 go_enter Tryz.func66, Tryz.ntmps66
 go_wp2
 go_quiet (fail)
 go_wp2
 go_ret
 exact ⟨rfl, p1_ (Below.refl _ _) _⟩
set_option maxHeartbeats 8000000 in
set_option maxRecDepth 100000 in
theorem conf_Reserved.calls (a0_0 : Int) (a0_1 : Int) (A0_2 : Option Addr) (c0_2 : Nat) (l0_2 : List Int) (A0_3 : Option Addr) (c0_3 : Nat) (l0_3 : List S81) (a0_4 : Int) (a0_5 : ByteArray) (A0_6 : Option Addr) (c0_6 : Nat) (l0_6 : List S83) (a1 : ByteArray) (r1 : Int) (r2 : Bool) (w : World) (hr0_2 : Kd.C (Kd.int .i64) w A0_2 l0_2.length l0_2) (hc0_2 : l0_2.length ≤ c0_2) (hr0_3 : Kd.C k81 w A0_3 l0_3.length l0_3) (hc0_3 : l0_3.length ≤ c0_3) (hr0_6 : Kd.C k83 w A0_6 l0_6.length l0_6) (hc0_6 : l0_6.length ≤ c0_6) (h : conf_Reserved.f a0_0 a0_1 l0_2 l0_3 a0_4 a0_5 l0_6 a1 = some (r1, r2)) :
  Calls Tryz.prog 40 #[.agg #[.int .i64 a0_0, .int .i64 a0_1, .slice A0_2 l0_2.length c0_2, .slice A0_3 l0_3.length c0_3, .int .i64 a0_4, .string a0_5, .slice A0_6 l0_6.length c0_6], .string a1] w fun e w' => e = .returned (.tuple #[.int .i64 r1, .bool r2]) ∧ Below w.heap.size w w' := by
 unfold conf_Reserved.f at h
 by_cases hs : confFit l0_2 l0_3 a0_5 l0_6
 rotate_left
 ·rw [if_neg hs] at h
  cases h
 rw [if_pos hs] at h
 simp only [Option.some.injEq, Prod.mk.injEq] at h
 obtain ⟨rfl, rfl⟩ := h
 have hm : conf_May.f a0_0 a0_1 l0_2 l0_3 a0_4 a0_5 l0_6 = some (confB a0_0 a0_1 l0_2 l0_3 a0_4 a0_5 l0_6) := by
  unfold conf_May.f
  rw [if_pos hs]
 have eg : ∀ args w, (callFunc 66 args).run Tryz.prog w = .ok (.enter 66 args) w := fun args w => enters_ Tryz.func66 (by kernel_rfl) rfl args w
 obtain ⟨W2, hW2⟩ : ∃ W2, (w.alloc (.cells #[.int .i64 a0_0, .int .i64 a0_1, .slice A0_2 l0_2.length c0_2, .slice A0_3 l0_3.length c0_3, .int .i64 a0_4, .string a0_5, .slice A0_6 l0_6.length c0_6] 26)).alloc (.cells #[.string a1] 9) = W2 := ⟨_, rfl⟩
 have HB := am_ (show Below w.heap.size w W2 by rw [← hW2]; repeat (first | exact Below.refl _ _ | apply p3_))
 have e1 : W2.heap[w.heap.size]? = some (.cells #[.int .i64 a0_0, .int .i64 a0_1, .slice A0_2 l0_2.length c0_2, .slice A0_3 l0_3.length c0_3, .int .i64 a0_4, .string a0_5, .slice A0_6 l0_6.length c0_6] 26) := by
  rw [← hW2]
  exact k1_ (blk_new w _) _
 have e2 : W2.heap[w.heap.size + 1]? = some (.cells #[.string a1] 9) := by
  have := blk_new (w.alloc (.cells #[.int .i64 a0_0, .int .i64 a0_1, .slice A0_2 l0_2.length c0_2, .slice A0_3 l0_3.length c0_3, .int .i64 a0_4, .string a0_5, .slice A0_6 l0_6.length c0_6] 26)) (.cells #[.string a1] 9)
  rw [hW2] at this
  simpa using this
 have HF := conf_find.calls (fun x => x.f0.toList == a1.toList) 66 #[.pointer (some ⟨w.heap.size + 1, 0, none⟩)] w.heap.size a0_0 a0_1 A0_2 c0_2 l0_2 A0_3 c0_3 l0_3 a0_4 a0_5 A0_6 c0_6 l0_6 _ W2 e1 (c4_ hr0_2 HB.out) hc0_2 (c4_ hr0_3 HB.out) hc0_3 (c4_ hr0_6 HB.out) hc0_6 hm hs.2.1 eg (fun W ad x hb h0 h1 => conf_Reserved.is_ a1 (w.heap.size + 1) ad x W ((bc_ (kb_ e2 hb) 0).trans rfl) h0 h1)
 rw [show findS (fun x => x.f0.toList == a1.toList) (confB a0_0 a0_1 l0_2 l0_3 a0_4 a0_5 l0_6) l0_3 = reservR a0_0 a0_1 l0_2 l0_3 a0_4 a0_5 l0_6 a1 from rfl] at HF
 obtain ⟨vN, hN⟩ : ∃ v, foundN (reservR a0_0 a0_1 l0_2 l0_3 a0_4 a0_5 l0_6 a1) = v := ⟨_, rfl⟩
 obtain ⟨vH, hH⟩ : ∃ v, foundH (reservR a0_0 a0_1 l0_2 l0_3 a0_4 a0_5 l0_6 a1) = v := ⟨_, rfl⟩
 obtain ⟨vI, hI⟩ : ∃ v, foundIs (reservR a0_0 a0_1 l0_2 l0_3 a0_4 a0_5 l0_6 a1) = v := ⟨_, rfl⟩
 rw [hN, hH, hI] at HF
 rw [hH, hI]
 replace HF := am_ HF
 clear hN hH hI hm hs e1 e2 eg hr0_2 hr0_3 hr0_6 hc0_2 hc0_3 hc0_6
 go_enter Tryz.func40, Tryz.ntmps40
 go_wp2_with (first | (go_at_call 65; (try rw [hW2]); (with_reducible refine HF.out.mono ?_); rintro e w4 ⟨rfl, hb4⟩; replace HB := am_ (bt_ HB.out hb4); clear hb4))
 go_ret2
 exact ⟨rfl, by repeat (with_reducible first | exact HB.out | apply p3_ | apply p1_ | apply p2_ | refine Below.setCell ?_ (by first | exact HB.out.size | (have := HB.out.size; simp; omega)) _)⟩

/-! ### conf_Owner: function 83 -/
-- BY HAND
-- 61 65
def conf_Owner.f (a0_0 : Int) (a0_1 : Int) (l0_2 : List Int) (l0_3 : List S81) (a0_4 : Int) (a0_5 : ByteArray) (l0_6 : List S83) (a1 : Int) : Option (ByteArray × Bool) := if confFit l0_2 l0_3 a0_5 l0_6 then some (foundN (ownerR a0_0 a0_1 l0_2 l0_3 a0_4 a0_5 l0_6 a1), foundIs (ownerR a0_0 a0_1 l0_2 l0_3 a0_4 a0_5 l0_6 a1)) else none
set_option maxHeartbeats 8000000 in
set_option maxRecDepth 100000 in
theorem conf_Owner.is_ (a1 : Int) (B1 : Nat) (ad : Addr) (x : S81) (w : World) (hc : w.cell? ⟨B1, 0, none⟩ = some (.int .i64 a1)) (h0 : w.cell? ad = some (.string x.f0)) (h1 : w.cell? ⟨ad.block, ad.off + 1, none⟩ = some (.int .i64 x.f1)) :
  Calls Tryz.prog 95 #[.pointer (some ad), .pointer (some ⟨B1, 0, none⟩)] w fun e w' => e = .returned (.bool (x.f1 == a1)) ∧ Below w.heap.size w w' := by
 go_enter Tryz.func95, Tryz.ntmps95
 go_wp2
 go_quiet (fail)
 go_wp2
 go_ret
 exact ⟨rfl, p1_ (Below.refl _ _) _⟩
set_option maxHeartbeats 8000000 in
set_option maxRecDepth 100000 in
theorem conf_Owner.calls (a0_0 : Int) (a0_1 : Int) (A0_2 : Option Addr) (c0_2 : Nat) (l0_2 : List Int) (A0_3 : Option Addr) (c0_3 : Nat) (l0_3 : List S81) (a0_4 : Int) (a0_5 : ByteArray) (A0_6 : Option Addr) (c0_6 : Nat) (l0_6 : List S83) (a1 : Int) (r1 : ByteArray) (r2 : Bool) (w : World) (hr0_2 : Kd.C (Kd.int .i64) w A0_2 l0_2.length l0_2) (hc0_2 : l0_2.length ≤ c0_2) (hr0_3 : Kd.C k81 w A0_3 l0_3.length l0_3) (hc0_3 : l0_3.length ≤ c0_3) (hr0_6 : Kd.C k83 w A0_6 l0_6.length l0_6) (hc0_6 : l0_6.length ≤ c0_6) (h : conf_Owner.f a0_0 a0_1 l0_2 l0_3 a0_4 a0_5 l0_6 a1 = some (r1, r2)) :
  Calls Tryz.prog 83 #[.agg #[.int .i64 a0_0, .int .i64 a0_1, .slice A0_2 l0_2.length c0_2, .slice A0_3 l0_3.length c0_3, .int .i64 a0_4, .string a0_5, .slice A0_6 l0_6.length c0_6], .int .i64 a1] w fun e w' => e = .returned (.tuple #[.string r1, .bool r2]) ∧ Below w.heap.size w w' := by
 unfold conf_Owner.f at h
 by_cases hs : confFit l0_2 l0_3 a0_5 l0_6
 rotate_left
 ·rw [if_neg hs] at h
  cases h
 rw [if_pos hs] at h
 simp only [Option.some.injEq, Prod.mk.injEq] at h
 obtain ⟨rfl, rfl⟩ := h
 have hm : conf_May.f a0_0 a0_1 l0_2 l0_3 a0_4 a0_5 l0_6 = some (confB a0_0 a0_1 l0_2 l0_3 a0_4 a0_5 l0_6) := by
  unfold conf_May.f
  rw [if_pos hs]
 have eg : ∀ args w, (callFunc 95 args).run Tryz.prog w = .ok (.enter 95 args) w := fun args w => enters_ Tryz.func95 (by kernel_rfl) rfl args w
 obtain ⟨W2, hW2⟩ : ∃ W2, (w.alloc (.cells #[.int .i64 a0_0, .int .i64 a0_1, .slice A0_2 l0_2.length c0_2, .slice A0_3 l0_3.length c0_3, .int .i64 a0_4, .string a0_5, .slice A0_6 l0_6.length c0_6] 26)).alloc (.cells #[.int .i64 a1] 3) = W2 := ⟨_, rfl⟩
 have HB := am_ (show Below w.heap.size w W2 by rw [← hW2]; repeat (first | exact Below.refl _ _ | apply p3_))
 have e1 : W2.heap[w.heap.size]? = some (.cells #[.int .i64 a0_0, .int .i64 a0_1, .slice A0_2 l0_2.length c0_2, .slice A0_3 l0_3.length c0_3, .int .i64 a0_4, .string a0_5, .slice A0_6 l0_6.length c0_6] 26) := by
  rw [← hW2]
  exact k1_ (blk_new w _) _
 have e2 : W2.heap[w.heap.size + 1]? = some (.cells #[.int .i64 a1] 3) := by
  have := blk_new (w.alloc (.cells #[.int .i64 a0_0, .int .i64 a0_1, .slice A0_2 l0_2.length c0_2, .slice A0_3 l0_3.length c0_3, .int .i64 a0_4, .string a0_5, .slice A0_6 l0_6.length c0_6] 26)) (.cells #[.int .i64 a1] 3)
  rw [hW2] at this
  simpa using this
 have HF := conf_find.calls (fun x => x.f1 == a1) 95 #[.pointer (some ⟨w.heap.size + 1, 0, none⟩)] w.heap.size a0_0 a0_1 A0_2 c0_2 l0_2 A0_3 c0_3 l0_3 a0_4 a0_5 A0_6 c0_6 l0_6 _ W2 e1 (c4_ hr0_2 HB.out) hc0_2 (c4_ hr0_3 HB.out) hc0_3 (c4_ hr0_6 HB.out) hc0_6 hm hs.2.1 eg (fun W ad x hb h0 h1 => conf_Owner.is_ a1 (w.heap.size + 1) ad x W ((bc_ (kb_ e2 hb) 0).trans rfl) h0 h1)
 rw [show findS (fun x => x.f1 == a1) (confB a0_0 a0_1 l0_2 l0_3 a0_4 a0_5 l0_6) l0_3 = ownerR a0_0 a0_1 l0_2 l0_3 a0_4 a0_5 l0_6 a1 from rfl] at HF
 obtain ⟨vN, hN⟩ : ∃ v, foundN (ownerR a0_0 a0_1 l0_2 l0_3 a0_4 a0_5 l0_6 a1) = v := ⟨_, rfl⟩
 obtain ⟨vH, hH⟩ : ∃ v, foundH (ownerR a0_0 a0_1 l0_2 l0_3 a0_4 a0_5 l0_6 a1) = v := ⟨_, rfl⟩
 obtain ⟨vI, hI⟩ : ∃ v, foundIs (ownerR a0_0 a0_1 l0_2 l0_3 a0_4 a0_5 l0_6 a1) = v := ⟨_, rfl⟩
 rw [hN, hH, hI] at HF
 rw [hN, hI]
 replace HF := am_ HF
 clear hN hH hI hm hs e1 e2 eg hr0_2 hr0_3 hr0_6 hc0_2 hc0_3 hc0_6
 go_enter Tryz.func83, Tryz.ntmps83
 go_wp2_with (first | (go_at_call 65; (try rw [hW2]); (with_reducible refine HF.out.mono ?_); rintro e w4 ⟨rfl, hb4⟩; replace HB := am_ (bt_ HB.out hb4); clear hb4))
 go_ret2
 exact ⟨rfl, by repeat (with_reducible first | exact HB.out | apply p3_ | apply p1_ | apply p2_ | refine Below.setCell ?_ (by first | exact HB.out.size | (have := HB.out.size; simp; omega)) _)⟩

/-! ### conf_Usable: function 84 -/
-- BY HAND
def conf_Usable.f (a0_0 : Int) (a0_1 : Int) (l0_2 : List Int) (l0_3 : List S81) (a0_4 : Int) (a0_5 : ByteArray) (l0_6 : List S83) (a1 : Int) : Option Bool := if confFit l0_2 l0_3 a0_5 l0_6 then some (usableB a0_0 a0_1 l0_2 l0_3 a0_4 a0_5 l0_6 a1) else none
set_option maxHeartbeats 8000000 in
set_option maxRecDepth 100000 in
theorem conf_Usable.calls (a0_0 : Int) (a0_1 : Int) (A0_2 : Option Addr) (c0_2 : Nat) (l0_2 : List Int) (A0_3 : Option Addr) (c0_3 : Nat) (l0_3 : List S81) (a0_4 : Int) (a0_5 : ByteArray) (A0_6 : Option Addr) (c0_6 : Nat) (l0_6 : List S83) (a1 : Int) (r : Bool) (w : World) (hr0_2 : Kd.C (Kd.int .i64) w A0_2 l0_2.length l0_2) (hc0_2 : l0_2.length ≤ c0_2) (hr0_3 : Kd.C k81 w A0_3 l0_3.length l0_3) (hc0_3 : l0_3.length ≤ c0_3) (hr0_6 : Kd.C k83 w A0_6 l0_6.length l0_6) (hc0_6 : l0_6.length ≤ c0_6) (h : conf_Usable.f a0_0 a0_1 l0_2 l0_3 a0_4 a0_5 l0_6 a1 = some r) :
  Calls Tryz.prog 84 #[.agg #[.int .i64 a0_0, .int .i64 a0_1, .slice A0_2 l0_2.length c0_2, .slice A0_3 l0_3.length c0_3, .int .i64 a0_4, .string a0_5, .slice A0_6 l0_6.length c0_6], .int .i64 a1] w fun e w' => e = .returned (.bool r) ∧ Below w.heap.size w w' := by
 unfold conf_Usable.f at h
 by_cases hs : confFit l0_2 l0_3 a0_5 l0_6
 rotate_left
 ·rw [if_neg hs] at h
  cases h
 rw [if_pos hs] at h
 have hm : conf_May.f a0_0 a0_1 l0_2 l0_3 a0_4 a0_5 l0_6 = some (confB a0_0 a0_1 l0_2 l0_3 a0_4 a0_5 l0_6) := by
  unfold conf_May.f
  rw [if_pos hs]
 have HR : (decide (a1 ∉ l0_2) && (confB a0_0 a0_1 l0_2 l0_3 a0_4 a0_5 l0_6 && decide (a0_0 ≤ a1 ∧ a1 ≤ a0_1))) = r := e5_ h
 obtain ⟨b, hb⟩ : ∃ b, confB a0_0 a0_1 l0_2 l0_3 a0_4 a0_5 l0_6 = b := ⟨_, rfl⟩
 rw [hb] at HR hm
 replace HR := am_ HR
 have CM := am_ (fun W (hb : Below w.heap.size w W) => conf_May.calls a0_0 a0_1 A0_2 c0_2 l0_2 A0_3 c0_3 l0_3 a0_4 a0_5 A0_6 c0_6 l0_6 b W (c4_ hr0_2 hb) hc0_2 (c4_ hr0_3 hb) hc0_3 (c4_ hr0_6 hb) hc0_6 hm)
 have HR0 := am_ hr0_2
 have hl2 := hs.1
 clear h hs hm hb hr0_2 hr0_3 hr0_6 hc0_2 hc0_3 hc0_6
 go_enter Tryz.func84, Tryz.ntmps84
 go_wp2
 go_loopg [10] l0_2.length (fun d v9 wr => ∃ (i : Int), 0 ≤ i ∧ i.toNat + d = l0_2.length ∧ v9 = .int .i64 i ∧ Aside0 (wr.heap[w.heap.size]? = some (.cells #[.int .i64 a0_0, .int .i64 a0_1, .slice A0_2 l0_2.length c0_2, .slice A0_3 l0_3.length c0_3, .int .i64 a0_4, .string a0_5, .slice A0_6 l0_6.length c0_6] 26)) ∧ Aside0 (Below w.heap.size w wr) ∧ Aside0 (a1 ∈ l0_2 ↔ a1 ∈ l0_2.drop i.toNat))
 case atStart => exact ⟨0, by omega, by simp, rfl, ⟨blk_new _ _⟩, ⟨p3_ (Below.refl _ _) _⟩, ⟨Iff.rfl⟩⟩
 case round =>
  obtain ⟨i, hi0, hd, rfl, BK, HB, HS⟩ := hrel
  by_cases hlt : i < (l0_2.length : Int)
  ·obtain ⟨ad, e1, hx0⟩ := Kd.at_int HR0.out i hi0 hlt
   cases e1
   replace hx0 := (HB.out.cell (wb_ w _ hx0)).trans hx0
   have HD := HS.out
   rw [dropInt l0_2 i hi0 hlt, List.mem_cons] at HD
   clear HS
   generalize rd l0_2 i = x at hx0 HD
   by_cases q : x = a1
   ·have hfin : false = r := by rw [← HR.out, decide_eq_false (fun e => e (HD.2 (.inl q.symm)))]; rfl
    replace hfin := am_ hfin
    have q1 : (x == a1) = true := by simpa using q
    clear q HD
    go_wp2
    go_ret
    exact ⟨ret_bool hfin.out, HB.out⟩
   ·have q1 : (x == a1) = false := by simpa using q
    have HN : a1 ∈ l0_2 ↔ a1 ∈ l0_2.drop (i.toNat + 1) := HD.trans ⟨fun e => e.resolve_left (fun e => q e.symm), .inr⟩
    replace HN := am_ HN
    clear q HD
    go_wp2
    go_roundg (l0_2.length - (i.toNat + 1))
    case measure => first | omega | (simp; omega)
    case rel =>
     have e2 : (i + 1).toNat = i.toNat + 1 := by omega
     exact ⟨i + 1, by omega, by omega, by go_num, ⟨BK.out⟩, ⟨HB.out⟩, ⟨by rw [e2]; exact HN.out⟩⟩
  ·have e3 : l0_2.drop i.toNat = [] := List.drop_eq_nil_of_le (by omega)
   have HE : (b && decide (a0_0 ≤ a1 ∧ a1 ≤ a0_1)) = r := by
    rw [← HR.out, decide_eq_true (show a1 ∉ l0_2 from fun e => by have := HS.out.1 e; rw [e3] at this; cases this)]
    rfl
   replace HE := am_ HE
   clear HS HR
   have v0 := bc_ BK.out 0
   have v1 := bc_ BK.out 1
   have v2 := bc_ BK.out 2
   have v3 := bc_ BK.out 3
   have v4 := bc_ BK.out 4
   have v5 := bc_ BK.out 5
   have v6 := bc_ BK.out 6
   go_wp2_with (first | (go_at_call 61; (with_reducible refine (CM.out _ HB.out).mono ?_); rintro e w2 ⟨rfl, hb'⟩; replace BK := am_ (kb_ BK.out hb'); replace v0 := bc_ BK.out 0; replace v1 := bc_ BK.out 1; replace HB := am_ (bt_ HB.out hb'); clear hb'))
   all_goals go_ret
   all_goals refine ⟨ret_bool ?_, HB.out⟩
   all_goals (rw [← HE.out]; clear HE CM HB BK; simp [*] <;> (intros; omega))

/-! ### conf_Lent: function 67 -/
-- BY HAND
-- 83 84
set_option maxHeartbeats 8000000 in
set_option maxRecDepth 100000 in
theorem conf_Lent.calls (g : Nat) (a0_0 : Int) (a0_1 : Int) (A0_2 : Option Addr) (c0_2 : Nat) (l0_2 : List Int) (A0_3 : Option Addr) (c0_3 : Nat) (l0_3 : List S81) (a0_4 : Int) (a0_5 : ByteArray) (A0_6 : Option Addr) (c0_6 : Nat) (l0_6 : List S83) (host : Int) (client : ByteArray) (r : Bool) (w : World) (bk : w.heap[g]? = some (.cells #[.int .i64 a0_0, .int .i64 a0_1, .slice A0_2 l0_2.length c0_2, .slice A0_3 l0_3.length c0_3, .int .i64 a0_4, .string a0_5, .slice A0_6 l0_6.length c0_6] 26)) (hr0_2 : Kd.C (Kd.int .i64) w A0_2 l0_2.length l0_2) (hc0_2 : l0_2.length ≤ c0_2) (hr0_3 : Kd.C k81 w A0_3 l0_3.length l0_3) (hc0_3 : l0_3.length ≤ c0_3) (hr0_6 : Kd.C k83 w A0_6 l0_6.length l0_6) (hc0_6 : l0_6.length ≤ c0_6) (hs : confFit l0_2 l0_3 a0_5 l0_6) (h : lentB a0_0 a0_1 l0_2 l0_3 a0_4 a0_5 l0_6 host client = r) :
  Calls Tryz.prog 67 #[.pointer (some ⟨g, 0, none⟩), .int .i64 host, .string client] w fun e w' => e = .returned (.bool r) ∧ Below w.heap.size w w' := by
 unfold lentB at h
 obtain ⟨N, hN⟩ : ∃ v, foundN (ownerR a0_0 a0_1 l0_2 l0_3 a0_4 a0_5 l0_6 host) = v := ⟨_, rfl⟩
 obtain ⟨I, hI⟩ : ∃ v, foundIs (ownerR a0_0 a0_1 l0_2 l0_3 a0_4 a0_5 l0_6 host) = v := ⟨_, rfl⟩
 obtain ⟨U, hU⟩ : ∃ v, usableB a0_0 a0_1 l0_2 l0_3 a0_4 a0_5 l0_6 host = v := ⟨_, rfl⟩
 rw [hN, hI, hU] at h
 have C1 := am_ (fun W (hb : Below w.heap.size w W) => conf_Owner.calls a0_0 a0_1 A0_2 c0_2 l0_2 A0_3 c0_3 l0_3 a0_4 a0_5 A0_6 c0_6 l0_6 host N I W (c4_ hr0_2 hb) hc0_2 (c4_ hr0_3 hb) hc0_3 (c4_ hr0_6 hb) hc0_6 (by unfold conf_Owner.f; rw [if_pos hs, hN, hI]))
 have C2 := am_ (fun W (hb : Below w.heap.size w W) => conf_Usable.calls a0_0 a0_1 A0_2 c0_2 l0_2 A0_3 c0_3 l0_3 a0_4 a0_5 A0_6 c0_6 l0_6 host U W (c4_ hr0_2 hb) hc0_2 (c4_ hr0_3 hb) hc0_3 (c4_ hr0_6 hb) hc0_6 (by unfold conf_Usable.f; rw [if_pos hs, hU]))
 have HR := am_ h
 have HB := am_ (Below.refl w.heap.size w)
 have BG := am_ bk
 have u0 := bc_ BG.out 0
 have u1 := bc_ BG.out 1
 have u2 := bc_ BG.out 2
 have u3 := bc_ BG.out 3
 have u4 := bc_ BG.out 4
 have u5 := bc_ BG.out 5
 have u6 := bc_ BG.out 6
 clear h hN hI hU bk hr0_2 hr0_3 hr0_6 hc0_2 hc0_3 hc0_6 hs
 go_enter Tryz.func67, Tryz.ntmps67
 go_wp2_with (first
  | (go_at_call 83; (with_reducible refine (C1.out _ (by repeat (with_reducible first | exact HB.out | apply p3_ | apply p1_ | apply p2_))).mono ?_); rintro e w1 ⟨rfl, hb2⟩; replace BG := am_ (kb_ (show _ from (by (with_reducible repeat (first | exact BG.out | refine k2_ ?_ _ | refine k3_ ?_ | refine k1_ ?_ _)))) hb2); replace HB := am_ (bt_ (show Below w.heap.size w _ from (by repeat (with_reducible first | exact HB.out | apply p3_ | apply p1_ | apply p2_))) hb2); clear hb2; have u0 := bc_ BG.out 0; have u1 := bc_ BG.out 1; have u2 := bc_ BG.out 2; have u3 := bc_ BG.out 3; have u4 := bc_ BG.out 4; have u5 := bc_ BG.out 5; have u6 := bc_ BG.out 6)
  | (go_at_call 84; (with_reducible refine (C2.out _ (by repeat (with_reducible first | exact HB.out | apply p3_ | apply p1_ | apply p2_))).mono ?_); rintro e w2 ⟨rfl, hb2⟩; replace HB := am_ (bt_ (show Below w.heap.size w _ from (by repeat (with_reducible first | exact HB.out | apply p3_ | apply p1_ | apply p2_))) hb2); clear hb2; clear u0 u1 u2 u3 u4 u5 u6))
 all_goals (try go_ret)
 all_goals refine ⟨ret_bool ?_, ?_⟩
 all_goals first
  | ((repeat (with_reducible first | exact HB.out | apply p3_ | apply p1_ | apply p2_)); done)
  | (rw [← HR.out]; clear HR HB C1 C2 BG; rw [Bool.eq_iff_iff]; (simp_all; done))
  | (rw [← HR.out]; clear HR HB C1 C2 BG; simp_all)

end Go.Proofs.YtdhckibkljafgaaGreatDoor.PI
