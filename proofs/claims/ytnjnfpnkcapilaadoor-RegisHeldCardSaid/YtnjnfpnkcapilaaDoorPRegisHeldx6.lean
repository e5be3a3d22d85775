-- Made by wip/pr.py out of the translation (a turned copy of the kit's print; contracts by hand where said).
import Derived.Test.YtnjnfpnkcapilaaDoorPRegisHeldx0
import Derived.Test.YtnjnfpnkcapilaaDoorPRegisHeldx1
import Derived.Test.YtnjnfpnkcapilaaDoorPRegisHeldx2
import Derived.Test.YtnjnfpnkcapilaaDoorPRegisHeldx3
import Derived.Test.YtnjnfpnkcapilaaDoorPRegisHeldx4
import Derived.Test.YtnjnfpnkcapilaaDoorPRegisHeldx5
namespace Go.Proofs.YtnjnfpnkcapilaaDoor.PRegisHeld
open Go.RowKit Go.Proofs.YtnjnfpnkcapilaaDoorW.PrintWords Go.Proofs.YtnjnfpnkcapilaaDoorW.PrintLast Go.Proofs.YtnjnfpnkcapilaaDoorW.PrintMore
attribute [local go_sem] max2_int min2_int max_two min_two max_three min_three max_four min_four   -- for this text's walks alone
set_option linter.unusedVariables false
set_option linter.unusedSimpArgs false

/-! ### table_May_c: function 54 -/
/-- does the host come behind the one ahead. -/
def above (p : Option Int) (h : Int) : Bool := match p with
  | none => true
  | some q => decide (q < h)
def leaseOk (x : S62) : Bool := leaseB x.f0 x.f1 x.f2 x.f3 x.f4 x.f5
def goTab : Option Int → List S62 → Bool
  | _, [] => true
  | p, x :: r => leaseOk x && (above p x.f0 && goTab (some x.f0) r)
/-- may leases be. -/
def tableB (l : List S62) : Bool := goTab none l && decide (l.length ≤ 8)
def tabFit (l : List S62) : Prop := l.length ≤ 140737488351232 ∧ ∀ x ∈ l, x.f4.size ≤ 140737488351232
instance (l : List S62) : Decidable (tabFit l) := by unfold tabFit; infer_instance
theorem dropLease (l0 : List S62) (i : Int) (h0 : 0 ≤ i) (h1 : i < l0.length) : l0.drop i.toNat = rd_T62 l0 i :: l0.drop (i.toNat + 1) ∧ rd_T62 l0 i ∈ l0 := by
  have h : i.toNat < l0.length := by omega
  have e : rd_T62 l0 i = l0[i.toNat] := by
    unfold rd_T62
    rw [List.getD_eq_getElem?_getD, List.getElem?_eq_getElem h]
    rfl
  rw [e, List.drop_eq_getElem_cons h]
  exact ⟨rfl, List.getElem_mem h⟩
theorem table_May.eq (l0 : List S62) (hf : tabFit l0) : ∀ (d : Nat) (i : Int) (k : Nat), 0 ≤ i → i.toNat + d = l0.length → d < k → table_May.l0 k l0 l0 (l0.length : Int) i = some (goTab (if i > 0 then some (rd_T62 l0 (i - 1)).f0 else none) (l0.drop i.toNat) && decide (l0.length ≤ 8))
  | 0, i, k + 1, h0, hd, _ => by
    unfold table_May.l0
    rw [if_neg (by omega), List.drop_eq_nil_of_le (by omega)]
    congr 1
    rw [show (∀ p, goTab p [] = true) from fun _ => rfl, Bool.true_and, Bool.eq_iff_iff, decide_eq_true_eq, decide_eq_true_eq]
    omega
  | d + 1, i, k + 1, h0, hd, hk => by
    have hlt : i < (l0.length : Int) := by omega
    obtain ⟨hd1, hm⟩ := dropLease l0 i h0 hlt
    have h7 := hf.1
    have ih := table_May.eq l0 hf d (i + 1) k (by omega) (by omega) (by omega)
    rw [if_pos (by omega : i + 1 > 0), show (i + 1 - 1 : Int) = i by omega, show (i + 1).toNat = i.toNat + 1 by omega] at ih
    unfold table_May.l0
    rw [if_pos hlt, if_pos h0, if_pos hlt, hd1]
    unfold lease_May.f
    rw [if_pos (hf.2 _ hm)]
    rw [Option.bind_some, w64 (a := i + 1) (by omega), ih]
    conv => rhs; unfold goTab
    have e1 : leaseB (rd_T62 l0 i).f0 (rd_T62 l0 i).f1 (rd_T62 l0 i).f2 (rd_T62 l0 i).f3 (rd_T62 l0 i).f4 (rd_T62 l0 i).f5 = leaseOk (rd_T62 l0 i) := rfl
    rw [e1]
    cases leaseOk (rd_T62 l0 i) with
    | false =>
      rw [if_neg (by simp)]
      simp
    | true =>
      rw [if_pos rfl, Bool.true_and]
      by_cases hp : i > 0
      · rw [if_pos hp, if_pos hp, w64 (a := i - 1) (by omega), if_pos (by omega), if_pos (by omega)]
        by_cases hq : (rd_T62 l0 (i - 1)).f0 ≥ (rd_T62 l0 i).f0
        · rw [if_pos hq]
          have : above (some (rd_T62 l0 (i - 1)).f0) (rd_T62 l0 i).f0 = false := by
            unfold above
            exact decide_eq_false (by omega)
          rw [this]
          simp
        · rw [if_neg hq]
          have : above (some (rd_T62 l0 (i - 1)).f0) (rd_T62 l0 i).f0 = true := by
            unfold above
            exact decide_eq_true (by omega)
          rw [this, Bool.true_and]
      · rw [if_neg hp, if_neg hp]
        rw [show above none (rd_T62 l0 i).f0 = true from rfl, Bool.true_and]
def table_May_c.f (l0 : List S62) : Option Bool := if tabFit l0 then some (tableB l0) else none
theorem table_May_c.calls (A0 : Option Addr) (c0 : Nat) (l0 : List S62) (r : Bool) (w : World) (hr0 : Kd.C k62 w A0 l0.length l0) (hc0 : l0.length ≤ c0) (h : table_May_c.f l0 = some r) :
    Calls Tryd.prog 54 #[.slice A0 l0.length c0] w fun e w' => e = .returned (.bool r) ∧ Below w.heap.size w w' := by
  unfold table_May_c.f at h
  by_cases hs : tabFit l0
  · rw [if_pos hs] at h
    obtain rfl := Option.some.inj h
    refine table_May.calls (l0.length + 1) A0 c0 l0 _ w hr0 hc0 ?_
    have := table_May.eq l0 hs l0.length 0 (l0.length + 1) (by omega) (by simp) (by omega)
    unfold table_May.f
    rw [this, if_neg (by omega)]
    rfl
  · rw [if_neg hs] at h
    cases h

/-! ### lease_Live: function 80 -/
-- BY HAND
def lease_Live.f (a0_0 : Int) (a0_1 : Int) (a0_2 : ByteArray) (a0_3 : Int) (a0_4 : ByteArray) (a0_5 : Bool) (a1 : Int) : Option Bool := if a0_4.size ≤ 140737488351232 then some (liveB a0_0 a0_1 a0_2 a0_3 a0_4 a0_5 a1) else none
set_option maxHeartbeats 8000000 in
set_option maxRecDepth 100000 in
theorem lease_Live.calls (a0_0 : Int) (a0_1 : Int) (a0_2 : ByteArray) (a0_3 : Int) (a0_4 : ByteArray) (a0_5 : Bool) (a1 : Int) (r : Bool) (w : World) (h : lease_Live.f a0_0 a0_1 a0_2 a0_3 a0_4 a0_5 a1 = some r) :
    Calls Tryd.prog 80 #[.agg #[.int .i64 a0_0, .int .i64 a0_1, .string a0_2, .int .i64 a0_3, .string a0_4, .bool a0_5], .int .i64 a1] w fun e w' => e = .returned (.bool r) ∧ Below w.heap.size w w' := by
  unfold lease_Live.f at h
  by_cases hs : a0_4.size ≤ 140737488351232
  rotate_left
  · rw [if_neg hs] at h
    cases h
  rw [if_pos hs] at h
  have HR := Option.some.inj h
  unfold liveB at HR
  obtain ⟨b1, h1⟩ : ∃ b, leaseB a0_0 a0_1 a0_2 a0_3 a0_4 a0_5 = b := ⟨_, rfl⟩
  rw [h1] at HR
  have C1 := Aside0.mk (fun W => lease_May.calls a0_0 a0_1 a0_2 a0_3 a0_4 a0_5 b1 W (by unfold lease_May.f; rw [if_pos hs, h1]))
  have BK := Aside0.mk (blk_new w (.cells #[.int .i64 a0_0, .int .i64 a0_1, .string a0_2, .int .i64 a0_3, .string a0_4, .bool a0_5] 62))
  have HB := Aside0.mk (Below.refl w.heap.size w)
  replace HR := Aside0.mk HR
  clear h hs h1
  go_enter Tryd.func80, Tryd.ntmps80
  go_wp2_with (first
    | (go_at_call 69; (with_reducible refine (C1.out _).mono ?_); rintro e w1 ⟨rfl, hb2⟩; replace BK := Aside0.mk (blk_below (show _ from (by (with_reducible repeat (first | exact BK.out | refine blk_drewN ?_ _ | refine blk_drew ?_ | refine blk_alloc ?_ _)))) hb2); replace HB := Aside0.mk (below_step (show Below w.heap.size w _ by repeat (with_reducible first | exact HB.out | apply below_alloc | apply pw_below_drewN | apply below_drew1)) hb2); clear hb2; have u0 := blk_cell BK.out 0; have u1 := blk_cell BK.out 1; have u2 := blk_cell BK.out 2; have u3 := blk_cell BK.out 3; have u4 := blk_cell BK.out 4; have u5 := blk_cell BK.out 5))
  all_goals (try go_ret)
  all_goals refine ⟨ret_bool ?_, ?_⟩
  all_goals first
    | ((repeat (with_reducible first | exact HB.out | apply below_alloc | apply pw_below_drewN | apply below_drew1)); done)
    | (rw [← HR.out]; clear HR HB C1 BK; (try clear v0 v1 v2 v3 v4 v5); (try clear u0 u1 u2 u3 u4 u5); rw [Bool.eq_iff_iff]; (simp_all; done))
    | (rw [← HR.out]; clear HR HB C1 BK; simp_all <;> omega)

/-! ### lease_Holds: function 70 -/
-- BY HAND
set_option maxHeartbeats 8000000 in
set_option maxRecDepth 100000 in
theorem lease_Holds.calls (g : Nat) (s0 s1 : Int) (s2 : ByteArray) (s3 : Int) (s4 : ByteArray) (s5 : Bool) (c : ByteArray) (now : Int) (r : Bool) (w : World) (hb : w.heap[g]? = some (.cells #[.int .i64 s0, .int .i64 s1, .string s2, .int .i64 s3, .string s4, .bool s5] 62)) (hs : s4.size ≤ 140737488351232) (h : holdsB s0 s1 s2 s3 s4 s5 c now = r) :
    Calls Tryd.prog 70 #[.pointer (some ⟨g, 0, none⟩), .string c, .int .i64 now] w fun e w' => e = .returned (.bool r) ∧ Below w.heap.size w w' := by
  unfold holdsB at h
  obtain ⟨b1, h1⟩ : ∃ b, liveB s0 s1 s2 s3 s4 s5 now = b := ⟨_, rfl⟩
  rw [h1] at h
  have C1 := Aside0.mk (fun W => lease_Live.calls s0 s1 s2 s3 s4 s5 now b1 W (by unfold lease_Live.f; rw [if_pos hs, h1]))
  have HR := Aside0.mk h
  have HB := Aside0.mk (Below.refl w.heap.size w)
  have BK := Aside0.mk hb
  have v0 := blk_cell hb 0
  have v1 := blk_cell hb 1
  have v2 := blk_cell hb 2
  have v3 := blk_cell hb 3
  have v4 := blk_cell hb 4
  have v5 := blk_cell hb 5
  clear h hb hs h1
  go_enter Tryd.func70, Tryd.ntmps70
  go_wp2_with (first
    | (go_at_call 80; (with_reducible refine (C1.out _).mono ?_); rintro e w1 ⟨rfl, hb2⟩; replace BK := Aside0.mk (blk_below (show _ from (by (with_reducible repeat (first | exact BK.out | refine blk_drewN ?_ _ | refine blk_drew ?_ | refine blk_alloc ?_ _)))) hb2); replace HB := Aside0.mk (below_step (show Below w.heap.size w _ by repeat (with_reducible first | exact HB.out | apply below_alloc | apply pw_below_drewN | apply below_drew1)) hb2); clear hb2; have u0 := blk_cell BK.out 0; have u1 := blk_cell BK.out 1; have u2 := blk_cell BK.out 2; have u3 := blk_cell BK.out 3; have u4 := blk_cell BK.out 4; have u5 := blk_cell BK.out 5))
  all_goals (try go_ret)
  all_goals refine ⟨ret_bool ?_, ?_⟩
  all_goals first
    | ((repeat (with_reducible first | exact HB.out | apply below_alloc | apply pw_below_drewN | apply below_drew1)); done)
    | (rw [← HR.out]; clear HR HB C1 BK; (try clear v0 v1 v2 v3 v4 v5); (try clear u0 u1 u2 u3 u4 u5); rw [Bool.eq_iff_iff]; (simp_all; done))
    | (rw [← HR.out]; clear HR HB C1 BK; simp_all <;> omega)

/-! ### lease_Bound: function 55 -/
-- BY HAND
set_option maxHeartbeats 8000000 in
set_option maxRecDepth 100000 in
theorem lease_Bound.calls (g : Nat) (s0 s1 : Int) (s2 : ByteArray) (s3 : Int) (s4 : ByteArray) (s5 : Bool) (c : ByteArray) (now : Int) (r : Bool) (w : World) (hb : w.heap[g]? = some (.cells #[.int .i64 s0, .int .i64 s1, .string s2, .int .i64 s3, .string s4, .bool s5] 62)) (hs : s4.size ≤ 140737488351232) (h : boundB s0 s1 s2 s3 s4 s5 c now = r) :
    Calls Tryd.prog 55 #[.pointer (some ⟨g, 0, none⟩), .string c, .int .i64 now] w fun e w' => e = .returned (.bool r) ∧ Below w.heap.size w w' := by
  unfold boundB at h
  obtain ⟨b1, h1⟩ : ∃ b, holdsB s0 s1 s2 s3 s4 s5 c now = b := ⟨_, rfl⟩
  rw [h1] at h
  have C1 := Aside0.mk (fun W (bk : W.heap[g]? = some (.cells #[.int .i64 s0, .int .i64 s1, .string s2, .int .i64 s3, .string s4, .bool s5] 62)) => lease_Holds.calls g s0 s1 s2 s3 s4 s5 c now b1 W bk hs h1)
  have HR := Aside0.mk h
  have HB := Aside0.mk (Below.refl w.heap.size w)
  have BK := Aside0.mk hb
  have v0 := blk_cell hb 0
  have v1 := blk_cell hb 1
  have v2 := blk_cell hb 2
  have v3 := blk_cell hb 3
  have v4 := blk_cell hb 4
  have v5 := blk_cell hb 5
  clear h hb hs h1
  go_enter Tryd.func55, Tryd.ntmps55
  go_wp2_with (first
    | (go_at_call 70; (with_reducible refine (C1.out _ (by (with_reducible repeat (first | exact BK.out | refine blk_drewN ?_ _ | refine blk_drew ?_ | refine blk_alloc ?_ _)))).mono ?_); rintro e w1 ⟨rfl, hb2⟩; replace BK := Aside0.mk (blk_below (show _ from (by (with_reducible repeat (first | exact BK.out | refine blk_drewN ?_ _ | refine blk_drew ?_ | refine blk_alloc ?_ _)))) hb2); replace HB := Aside0.mk (below_step (show Below w.heap.size w _ by repeat (with_reducible first | exact HB.out | apply below_alloc | apply pw_below_drewN | apply below_drew1)) hb2); clear hb2; have u0 := blk_cell BK.out 0; have u1 := blk_cell BK.out 1; have u2 := blk_cell BK.out 2; have u3 := blk_cell BK.out 3; have u4 := blk_cell BK.out 4; have u5 := blk_cell BK.out 5))
  all_goals (try go_ret)
  all_goals refine ⟨ret_bool ?_, ?_⟩
  all_goals first
    | ((repeat (with_reducible first | exact HB.out | apply below_alloc | apply pw_below_drewN | apply below_drew1)); done)
    | (rw [← HR.out]; clear HR HB C1 BK; (try clear v0 v1 v2 v3 v4 v5); (try clear u0 u1 u2 u3 u4 u5); rw [Bool.eq_iff_iff]; (simp_all; done))
    | (rw [← HR.out]; clear HR HB C1 BK; simp_all <;> omega)

/-! ### regis_Free: function 31 -/
-- BY HAND
-- 20 54 41 55 33
/-- does another client hold this name, bound. -/
def heldBy (client : ByteArray) (now : Int) (x : S62) : Bool := x.f5 && (decide (x.f2.toList ≠ client.toList) && boundB x.f0 x.f1 x.f2 x.f3 x.f4 x.f5 x.f2 now)
def takenS (l6 : List S49) : List (List UInt8) := l6.map fun x => x.f0.data.toList
def takenL (F : ByteArray → ByteArray) (client : ByteArray) (now : Int) (ls : List S62) : List (List UInt8) := (ls.filter (heldBy client now)).map fun x => (F x.f4).data.toList
def mayFree (a0 a1 : Int) (l2 : List Int) (l3 : List S47) (a4 : Int) (z : ByteArray) (l6 : List S49) (ls : List S62) (called : ByteArray) : Bool := confB a0 a1 l2 l3 a4 z l6 && (tableB ls && nameB (bytesOf called))
/-- may a client have a name. -/
def freeB (a0 a1 : Int) (l2 : List Int) (l3 : List S47) (a4 : Int) (z : ByteArray) (l6 : List S49) (ls : List S62) (now : Int) (client called : ByteArray) : Bool :=
  mayFree a0 a1 l2 l3 a4 z l6 ls called && decide ((fullB a0 a1 l2 l3 a4 z l6 called).data.toList ∉ [] :: takenS l6 ++ takenL (fullB a0 a1 l2 l3 a4 z l6) client now ls)
def freeFit (l2 : List Int) (l3 : List S47) (z : ByteArray) (l6 : List S49) (ls : List S62) (called : ByteArray) : Prop := fullFit l2 l3 z l6 called ∧ tabFit ls
instance (l2 : List Int) (l3 : List S47) (z : ByteArray) (l6 : List S49) (ls : List S62) (called : ByteArray) : Decidable (freeFit l2 l3 z l6 ls called) := by unfold freeFit; infer_instance
theorem fullB_size {a0 a1 : Int} {l2 : List Int} {l3 : List S47} {a4 : Int} {z : ByteArray} {l6 : List S49} {h : ByteArray} (hf : h.size ≤ 140737488351232) (hz : z.size ≤ 140737488351232) : (fullB a0 a1 l2 l3 a4 z l6 h).size ≤ maxLen := by
  have s1 : (h ++ (⟨#[46]⟩ : ByteArray) ++ z).size = h.size + 1 + z.size := by rw [ByteArray.size_append, ByteArray.size_append]; rfl
  have s0 : (⟨#[]⟩ : ByteArray).size = 0 := rfl
  unfold fullB maxLen
  repeat' split
  all_goals omega
theorem table_len {l : List S62} (h : tableB l = true) : l.length ≤ 8 := by
  unfold tableB at h
  rw [Bool.and_eq_true, decide_eq_true_eq] at h
  exact h.2
theorem conf_len6 {a0 a1 : Int} {l2 : List Int} {l3 : List S47} {a4 : Int} {z : ByteArray} {l6 : List S49} (h : confB a0 a1 l2 l3 a4 z l6 = true) : l6.length ≤ 8 := by
  unfold confB staticsB at h
  simp only [Bool.and_eq_true, decide_eq_true_eq] at h
  omega
theorem owns_below {H : Type} {P : Program} {k : TypeId} {R : Value → Option (DataW H × List MemPlace)} {b n : Nat} {D : DataW H} {w w' : World} (h : w.ownsMap P k R b n D) (hb : Below w.heap.size w w') : w'.ownsMap P k R b n D := by
  have hlt := h.lt
  obtain ⟨es, clock, hb0, F, hs, hD⟩ := h
  exact ⟨es, clock, (hb.block b hlt).trans hb0, F, hs, hD⟩
/-- a pair of a map's literal, at the operation. -/
theorem wpList_pair_own {H : Type} {P : Program} (w : World) {ops : Array Oper} {rest : List Oper} {o : Oper} {a : Act} {Q : Exit → Act → World → Prop}
    (hg : o.guard = none) (m x v : Operand) (t : TypeId) (hop : o.op = Op.insert t m x v)
    (k e : TypeId) (K : Maps.Keyed P k) (ht : P.underlying t = some (.map k e)) (R : Value → Option (DataW H × List MemPlace)) (b n : Nat) (D : DataW H)
    (hm : a.eval m = .map (some b)) (hown : w.ownsMap P k R b n D) (hn : n < maxLen) (key val : Value) (kl : Lit) (hx : a.eval x = key) (hv : a.eval v = val) (hkey : keyOf P k key = some kl)
    (d : DataW H) (ps : List MemPlace) (hval : R val = some (d, ps))
    (hK : ∀ w', w'.ownsMap P k R b (n + 1) (D.put kl d) → w.grownBy w' (some b) → wpList P ops Q rest (a.put o.dst undef) w') :
    wpList P ops Q (o :: rest) a w := by
  refine wpList_plain hg fun K' hK' => ?_
  obtain ⟨w', hrun, r1, r2⟩ := hown.update K ht hn hkey hval
  unfold Oper.wp
  simp [execOp, hop, hm, hx, hv, hrun, Result.andThen]
  exact hK' _ _ (hK w' r1 r2)
/-- behind a write into a map of the call's own. -/
theorem free_grown {w W w4 : World} {b : Nat} (hg : W.grownBy w4 (some b)) (h : Below w.heap.size w W) (hb : w.heap.size ≤ b) : Below w.heap.size w w4 := h.grown hg h.size (fun k hk => by cases hk; exact hb)
theorem dropFreeS (l0 : List S49) (i : Int) (h0 : 0 ≤ i) (h1 : i < l0.length) : l0.take (i.toNat + 1) = l0.take i.toNat ++ [rd_T49 l0 i] ∧ rd_T49 l0 i ∈ l0 := by
  have h : i.toNat < l0.length := by omega
  have e : rd_T49 l0 i = l0[i.toNat] := by
    unfold rd_T49
    rw [List.getD_eq_getElem?_getD, List.getElem?_eq_getElem h]
    rfl
  rw [e, List.take_succ_eq_append_getElem h]
  exact ⟨rfl, List.getElem_mem h⟩
theorem dropFreeL (l0 : List S62) (i : Int) (h0 : 0 ≤ i) (h1 : i < l0.length) : l0.take (i.toNat + 1) = l0.take i.toNat ++ [rd_T62 l0 i] ∧ rd_T62 l0 i ∈ l0 := by
  have h : i.toNat < l0.length := by omega
  have e : rd_T62 l0 i = l0[i.toNat] := by
    unfold rd_T62
    rw [List.getD_eq_getElem?_getD, List.getElem?_eq_getElem h]
    rfl
  rw [e, List.take_succ_eq_append_getElem h]
  exact ⟨rfl, List.getElem_mem h⟩
theorem takenS_snoc (l : List S49) (x : S49) : takenS (l ++ [x]) = takenS l ++ [x.f0.data.toList] := by unfold takenS; rw [List.map_append]; rfl
theorem takenL_zero (F : ByteArray → ByteArray) (c : ByteArray) (now : Int) (l : List S62) (p : List (List UInt8)) : p ++ takenL F c now (l.take 0) = p := by unfold takenL; simp
theorem takenL_in (F : ByteArray → ByteArray) (c : ByteArray) (now : Int) (l : List S62) (x : S62) (h : heldBy c now x = true) : takenL F c now (l ++ [x]) = takenL F c now l ++ [(F x.f4).data.toList] := by unfold takenL; rw [List.filter_append, List.map_append]; simp [h]
theorem takenL_out (F : ByteArray → ByteArray) (c : ByteArray) (now : Int) (l : List S62) (x : S62) (h : heldBy c now x = false) : takenL F c now (l ++ [x]) = takenL F c now l := by unfold takenL; rw [List.filter_append, List.map_append]; simp [h]
def regis_Free.f (a0_0 : Int) (a0_1 : Int) (l0_2 : List Int) (l0_3 : List S47) (a0_4 : Int) (a0_5 : ByteArray) (l0_6 : List S49) (l1 : List S62) (a2 : Int) (a3 a4 : ByteArray) : Option (Bool × Int) := if freeFit l0_2 l0_3 a0_5 l0_6 l1 a4 then some (freeB a0_0 a0_1 l0_2 l0_3 a0_4 a0_5 l0_6 l1 a2 a3 a4, if mayFree a0_0 a0_1 l0_2 l0_3 a0_4 a0_5 l0_6 l1 a4 then 0 else 1600) else none
set_option maxHeartbeats 8000000 in
set_option maxRecDepth 100000 in
theorem regis_Free.calls (a0_0 : Int) (a0_1 : Int) (A0_2 : Option Addr) (c0_2 : Nat) (l0_2 : List Int) (A0_3 : Option Addr) (c0_3 : Nat) (l0_3 : List S47) (a0_4 : Int) (a0_5 : ByteArray) (A0_6 : Option Addr) (c0_6 : Nat) (l0_6 : List S49) (A1 : Option Addr) (c1 : Nat) (l1 : List S62) (a2 : Int) (a3 : ByteArray) (a4 : ByteArray) (r1 : Bool) (r2 : Int) (w : World) (hr0_2 : Kd.C (Kd.int .i64) w A0_2 l0_2.length l0_2) (hc0_2 : l0_2.length ≤ c0_2) (hr0_3 : Kd.C k47 w A0_3 l0_3.length l0_3) (hc0_3 : l0_3.length ≤ c0_3) (hr0_6 : Kd.C k49 w A0_6 l0_6.length l0_6) (hc0_6 : l0_6.length ≤ c0_6) (hr1 : Kd.C k62 w A1 l1.length l1) (hc1 : l1.length ≤ c1) (h : regis_Free.f a0_0 a0_1 l0_2 l0_3 a0_4 a0_5 l0_6 l1 a2 a3 a4 = some (r1, r2)) :
    Calls Tryd.prog 31 #[.agg #[.int .i64 a0_0, .int .i64 a0_1, .slice A0_2 l0_2.length c0_2, .slice A0_3 l0_3.length c0_3, .int .i64 a0_4, .string a0_5, .slice A0_6 l0_6.length c0_6], .slice A1 l1.length c1, .int .i64 a2, .string a3, .string a4] w fun e w' => e = .returned (.tuple #[.bool r1, .int .i64 r2]) ∧ Below w.heap.size w w' := by
  unfold regis_Free.f at h
  by_cases hs : freeFit l0_2 l0_3 a0_5 l0_6 l1 a4
  rotate_left
  · rw [if_neg hs] at h
    cases h
  rw [if_pos hs] at h
  have h' := Option.some.inj h
  have HR1 := (Prod.mk.inj h').1
  have HR2 := (Prod.mk.inj h').2
  clear h h'
  obtain ⟨b1, h1⟩ : ∃ b, confB a0_0 a0_1 l0_2 l0_3 a0_4 a0_5 l0_6 = b := ⟨_, rfl⟩
  obtain ⟨b2, h2⟩ : ∃ b, tableB l1 = b := ⟨_, rfl⟩
  obtain ⟨b3, h3⟩ : ∃ b, nameB (bytesOf a4) = b := ⟨_, rfl⟩
  have hn6 : b1 = true → l0_6.length ≤ 8 := fun e => conf_len6 (h1.trans e)
  have hn1 : b2 = true → l1.length ≤ 8 := fun e => table_len (h2.trans e)
  unfold freeB at HR1
  have hmay : mayFree a0_0 a0_1 l0_2 l0_3 a0_4 a0_5 l0_6 l1 a4 = (b1 && (b2 && b3)) := by unfold mayFree; rw [h1, h2, h3]
  rw [hmay] at HR1 HR2
  clear hmay
  have C1 := Aside0.mk (fun W (hb : Below w.heap.size w W) => conf_May.calls a0_0 a0_1 A0_2 c0_2 l0_2 A0_3 c0_3 l0_3 a0_4 a0_5 A0_6 c0_6 l0_6 b1 W (Kd.C_below hr0_2 hb) hc0_2 (Kd.C_below hr0_3 hb) hc0_3 (Kd.C_below hr0_6 hb) hc0_6 (by unfold conf_May.f; rw [if_pos hs.1.1, h1]))
  have C2 := Aside0.mk (fun W (hb : Below w.heap.size w W) => table_May_c.calls A1 c1 l1 b2 W (Kd.C_below hr1 hb) hc1 (by unfold table_May_c.f; rw [if_pos hs.2, h2]))
  have C3 := Aside0.mk (fun W => name_May_c.calls a4 b3 W (by unfold name_May_c.f; rw [if_pos (by have := hs.1.2; omega), h3]))
  have CF := Aside0.mk (fun (x : ByteArray) W (hx : x.size ≤ 140737488351232) (hb : Below w.heap.size w W) => regis_Full_c.calls a0_0 a0_1 A0_2 c0_2 l0_2 A0_3 c0_3 l0_3 a0_4 a0_5 A0_6 c0_6 l0_6 x (fullB a0_0 a0_1 l0_2 l0_3 a0_4 a0_5 l0_6 x) W (Kd.C_below hr0_2 hb) hc0_2 (Kd.C_below hr0_3 hb) hc0_3 (Kd.C_below hr0_6 hb) hc0_6 (by unfold regis_Full_c.f; rw [if_pos ⟨hs.1.1, hx⟩]))
  have HS := Aside0.mk hs
  have HK6 := Aside0.mk hr0_6
  have HK1 := Aside0.mk hr1
  have HB := Aside0.mk (Below.refl w.heap.size w)
  have BK := Aside0.mk (blk_new w (.cells #[.int .i64 a0_0, .int .i64 a0_1, .slice A0_2 l0_2.length c0_2, .slice A0_3 l0_3.length c0_3, .int .i64 a0_4, .string a0_5, .slice A0_6 l0_6.length c0_6] 26))
  clear hs hr0_2 hr0_3 hr0_6 hc0_2 hc0_3 hc0_6 hr1 hc1 h1 h2 h3
  have hmm := @run_makeMap Tryd.prog
  replace HR1 := Aside0.mk HR1
  replace HR2 := Aside0.mk HR2
  cases b1 with
  | false =>
    have e1 : r1 = false := by rw [← HR1.out]; simp
    have e2 : r2 = 1600 := by rw [← HR2.out]; simp
    clear HR1 HR2 CF HK6 HK1 hmm hn6 hn1
    subst e1 e2
    go_enter Tryd.func31, Tryd.ntmps31
    go_wp2_with (first
      | (go_at_call 20; (with_reducible refine (C1.out _ (by repeat (with_reducible first | exact HB.out | apply below_alloc | apply pw_below_drewN | apply below_drew1))).mono ?_); rintro e w1 ⟨rfl, hb2⟩; replace BK := Aside0.mk (blk_below (show _ from (by (with_reducible repeat (first | exact BK.out | refine blk_drewN ?_ _ | refine blk_drew ?_ | refine blk_alloc ?_ _)))) hb2); replace HB := Aside0.mk (below_step (show Below w.heap.size w _ from (by repeat (with_reducible first | exact HB.out | apply below_alloc | apply pw_below_drewN | apply below_drew1))) hb2); clear hb2))
    go_ret2
    exact ⟨rfl, (by repeat (with_reducible first | exact HB.out | apply below_alloc | apply pw_below_drewN | apply below_drew1))⟩
      | true =>
    cases b2 with
    | false =>
      have e1 : r1 = false := by rw [← HR1.out]; simp
      have e2 : r2 = 1600 := by rw [← HR2.out]; simp
      clear HR1 HR2 CF HK6 HK1 hmm hn6 hn1
      subst e1 e2
      go_enter Tryd.func31, Tryd.ntmps31
      go_wp2_with (first
        | (go_at_call 20; (with_reducible refine (C1.out _ (by repeat (with_reducible first | exact HB.out | apply below_alloc | apply pw_below_drewN | apply below_drew1))).mono ?_); rintro e w1 ⟨rfl, hb2⟩; replace BK := Aside0.mk (blk_below (show _ from (by (with_reducible repeat (first | exact BK.out | refine blk_drewN ?_ _ | refine blk_drew ?_ | refine blk_alloc ?_ _)))) hb2); replace HB := Aside0.mk (below_step (show Below w.heap.size w _ from (by repeat (with_reducible first | exact HB.out | apply below_alloc | apply pw_below_drewN | apply below_drew1))) hb2); clear hb2)
        | (go_at_call 54; (with_reducible refine (C2.out _ (by repeat (with_reducible first | exact HB.out | apply below_alloc | apply pw_below_drewN | apply below_drew1))).mono ?_); rintro e w2 ⟨rfl, hb2⟩; replace BK := Aside0.mk (blk_below (show _ from (by (with_reducible repeat (first | exact BK.out | refine blk_drewN ?_ _ | refine blk_drew ?_ | refine blk_alloc ?_ _)))) hb2); replace HB := Aside0.mk (below_step (show Below w.heap.size w _ from (by repeat (with_reducible first | exact HB.out | apply below_alloc | apply pw_below_drewN | apply below_drew1))) hb2); clear hb2))
      go_ret2
      exact ⟨rfl, (by repeat (with_reducible first | exact HB.out | apply below_alloc | apply pw_below_drewN | apply below_drew1))⟩
          | true =>
      cases b3 with
      | false =>
        have e1 : r1 = false := by rw [← HR1.out]; simp
        have e2 : r2 = 1600 := by rw [← HR2.out]; simp
        clear HR1 HR2 CF HK6 HK1 hmm hn6 hn1
        subst e1 e2
        go_enter Tryd.func31, Tryd.ntmps31
        go_wp2_with (first
          | (go_at_call 20; (with_reducible refine (C1.out _ (by repeat (with_reducible first | exact HB.out | apply below_alloc | apply pw_below_drewN | apply below_drew1))).mono ?_); rintro e w1 ⟨rfl, hb2⟩; replace BK := Aside0.mk (blk_below (show _ from (by (with_reducible repeat (first | exact BK.out | refine blk_drewN ?_ _ | refine blk_drew ?_ | refine blk_alloc ?_ _)))) hb2); replace HB := Aside0.mk (below_step (show Below w.heap.size w _ from (by repeat (with_reducible first | exact HB.out | apply below_alloc | apply pw_below_drewN | apply below_drew1))) hb2); clear hb2)
          | (go_at_call 54; (with_reducible refine (C2.out _ (by repeat (with_reducible first | exact HB.out | apply below_alloc | apply pw_below_drewN | apply below_drew1))).mono ?_); rintro e w2 ⟨rfl, hb2⟩; replace BK := Aside0.mk (blk_below (show _ from (by (with_reducible repeat (first | exact BK.out | refine blk_drewN ?_ _ | refine blk_drew ?_ | refine blk_alloc ?_ _)))) hb2); replace HB := Aside0.mk (below_step (show Below w.heap.size w _ from (by repeat (with_reducible first | exact HB.out | apply below_alloc | apply pw_below_drewN | apply below_drew1))) hb2); clear hb2)
          | (go_at_call 41; (with_reducible refine (C3.out _).mono ?_); rintro e w3 ⟨rfl, ⟨nd, rfl⟩⟩))
        go_ret2
        exact ⟨rfl, (by repeat (with_reducible first | exact HB.out | apply below_alloc | apply pw_below_drewN | apply below_drew1))⟩
              | true =>
        have e2 : r2 = 0 := by rw [← HR2.out]; simp
        have HR := Aside0.mk (show decide ((fullB a0_0 a0_1 l0_2 l0_3 a0_4 a0_5 l0_6 a4).data.toList ∉ [] :: takenS l0_6 ++ takenL (fullB a0_0 a0_1 l0_2 l0_3 a0_4 a0_5 l0_6) a3 a2 l1) = r1 by rw [← HR1.out]; simp)
        clear HR1 HR2
        subst e2
        replace hn6 := hn6 rfl
        replace hn1 := hn1 rfl
        have hk0 := WideMaps.keyOf_string_mk Tryd.underlying9 (s := ⟨#[]⟩) (by unfold maxLen; exact Nat.zero_le _)
        go_enter Tryd.func31, Tryd.ntmps31
        go_wp2_with (first
          | (go_at_call 20; (with_reducible refine (C1.out _ (by repeat (with_reducible first | exact HB.out | apply below_alloc | apply pw_below_drewN | apply below_drew1))).mono ?_); rintro e w1 ⟨rfl, hb2⟩; replace BK := Aside0.mk (blk_below (show _ from (by (with_reducible repeat (first | exact BK.out | refine blk_drewN ?_ _ | refine blk_drew ?_ | refine blk_alloc ?_ _)))) hb2); replace HB := Aside0.mk (below_step (show Below w.heap.size w _ from (by repeat (with_reducible first | exact HB.out | apply below_alloc | apply pw_below_drewN | apply below_drew1))) hb2); clear hb2)
          | (go_at_call 54; (with_reducible refine (C2.out _ (by repeat (with_reducible first | exact HB.out | apply below_alloc | apply pw_below_drewN | apply below_drew1))).mono ?_); rintro e w2 ⟨rfl, hb2⟩; replace BK := Aside0.mk (blk_below (show _ from (by (with_reducible repeat (first | exact BK.out | refine blk_drewN ?_ _ | refine blk_drew ?_ | refine blk_alloc ?_ _)))) hb2); replace HB := Aside0.mk (below_step (show Below w.heap.size w _ from (by repeat (with_reducible first | exact HB.out | apply below_alloc | apply pw_below_drewN | apply below_drew1))) hb2); clear hb2)
          | (go_at_call 41; (with_reducible refine (C3.out _).mono ?_); rintro e w3 ⟨rfl, ⟨nd, rfl⟩⟩)
          | (refine wpList_pair_own _ rfl _ _ _ 81 rfl 9 4 (Maps.string_keyed Tryd.underlying9) Tryd.underlying81 (plainElem (H := Unit) Tryd.prog 4) _ 0 _ rfl (World.ownsMap_made _ _ _ _) (by unfold maxLen; omega) _ _ _ rfl rfl hk0 _ [] (plainElem_bool Tryd.underlying4 true) ?_; intro w4 hown1 hgrow1; have HM := Aside0.mk (show w4.ownsMap Tryd.prog 9 (plainElem (H := Unit) Tryd.prog 4) w2.heap.size (0 + 1) (mapD .string ([] :: takenS (l0_6.take 0))) from hown1); have hlt2 : w.heap.size < w2.heap.size := blk_lt BK.out; replace HB := Aside0.mk (free_grown hgrow1 (by repeat (with_reducible first | exact HB.out | apply below_alloc | apply pw_below_drewN | apply below_drew1)) (Nat.le_of_lt hlt2)); replace BK := Aside0.mk (show w4.heap[w.heap.size]? = some (.cells #[.int .i64 a0_0, .int .i64 a0_1, .slice A0_2 l0_2.length c0_2, .slice A0_3 l0_3.length c0_3, .int .i64 a0_4, .string a0_5, .slice A0_6 l0_6.length c0_6] 26) from blk_grown (by (with_reducible repeat (first | exact BK.out | refine blk_drewN ?_ _ | refine blk_drew ?_ | refine blk_alloc ?_ _))) hgrow1 (fun e => absurd (Option.some.inj e) (Nat.ne_of_lt hlt2))); clear hown1 hgrow1; have u0 := blk_cell BK.out 0; have u1 := blk_cell BK.out 1; have u2 := blk_cell BK.out 2; have u3 := blk_cell BK.out 3; have u4 := blk_cell BK.out 4; have u5 := blk_cell BK.out 5; have u6 := blk_cell BK.out 6)
          | go_in)
        clear hmm hk0 C1 C2 C3 u0 u1 u2 u3 u4 u5 u6
        go_loopg [35] l0_6.length (fun d v35 w' => ∃ i : Int, 0 ≤ i ∧ i.toNat + d = l0_6.length ∧ v35 = .int .i64 i ∧ Aside0 (w'.ownsMap Tryd.prog 9 (plainElem (H := Unit) Tryd.prog 4) w2.heap.size (i.toNat + 1) (mapD .string ([] :: takenS (l0_6.take i.toNat)))) ∧ Aside0 (Below w.heap.size w w') ∧ Aside0 (w'.heap[w.heap.size]? = some (.cells #[.int .i64 a0_0, .int .i64 a0_1, .slice A0_2 l0_2.length c0_2, .slice A0_3 l0_3.length c0_3, .int .i64 a0_4, .string a0_5, .slice A0_6 l0_6.length c0_6] 26)))
        case atStart => exact ⟨0, by omega, by simp, rfl, HM, HB, BK⟩
        case round =>
          clear HM HB BK
          obtain ⟨i, hi0, hd, rfl, HM, HB, BK⟩ := hrel
          by_cases hlt : i < (l0_6.length : Int)
          · obtain ⟨ad, e1, hx0, hx1, hx2, hx3, hx4, hx5, hx6⟩ := at_T49 HK6.out i hi0 hlt
            cases e1
            replace hx0 := (HB.out.cell (World.block_lt_of_cell? w _ hx0)).trans hx0; replace hx1 := (HB.out.cell (World.block_lt_of_cell? w _ hx1)).trans hx1; replace hx2 := (HB.out.cell (World.block_lt_of_cell? w _ hx2)).trans hx2; replace hx3 := (HB.out.cell (World.block_lt_of_cell? w _ hx3)).trans hx3; replace hx4 := (HB.out.cell (World.block_lt_of_cell? w _ hx4)).trans hx4; replace hx5 := (HB.out.cell (World.block_lt_of_cell? w _ hx5)).trans hx5; replace hx6 := (HB.out.cell (World.block_lt_of_cell? w _ hx6)).trans hx6
            obtain ⟨hd1, hmem⟩ := dropFreeS l0_6 i hi0 hlt
            have hsz := HS.out.1.1.2.2.2.2 _ hmem
            generalize rd_T49 l0_6 i = x at hx0 hx1 hx2 hx3 hx4 hx5 hx6 hd1 hmem hsz
            obtain ⟨f0, f1, f2, f3, f4, f5, f6⟩ := x
            simp only at hx0 hx1 hx2 hx3 hx4 hx5 hx6 hsz
            have hkey := WideMaps.keyOf_string_mk Tryd.underlying9 (s := f0) (by unfold maxLen; omega)
            have HD := Aside0.mk hd1
            clear hd1 hmem hsz
            go_wp2_with (first
              | (at_mapUpdate; refine wpList_mapUpdate_own _ rfl _ _ _ 81 rfl 9 4 (Maps.string_keyed Tryd.underlying9) Tryd.underlying81 _ w2.heap.size (i.toNat + 1) _ rfl (HM.out.alloc (.cells #[.string f0, .int .i64 f1, .int .i64 f2, .int .i64 f3, .string f4, .string f5, .int .i64 f6] 49)) (by unfold maxLen; omega) _ _ _ rfl rfl hkey _ [] (plainElem_bool Tryd.underlying4 true) ?_; intro w5 hown1 hgrow1; have HM1 := Aside0.mk hown1; have HB1 := Aside0.mk (free_grown hgrow1 (by repeat (with_reducible first | exact HB.out | apply below_alloc | apply pw_below_drewN | apply below_drew1)) (Nat.le_of_lt hlt2)); have BK1 := Aside0.mk (show w5.heap[w.heap.size]? = some (.cells #[.int .i64 a0_0, .int .i64 a0_1, .slice A0_2 l0_2.length c0_2, .slice A0_3 l0_3.length c0_3, .int .i64 a0_4, .string a0_5, .slice (some ad) l0_6.length c0_6] 26) from blk_grown (by (with_reducible repeat (first | exact BK.out | refine blk_drewN ?_ _ | refine blk_drew ?_ | refine blk_alloc ?_ _))) hgrow1 (fun e => absurd (Option.some.inj e) (Nat.ne_of_lt hlt2))); clear hown1 hgrow1)
              | go_in)
            go_roundg (l0_6.length - (i.toNat + 1))
            case measure => first | omega | (simp; omega)
            case rel =>
              have e2 : (i + 1).toNat = i.toNat + 1 := by omega
              refine ⟨i + 1, by omega, by omega, by go_num, ⟨?_⟩, HB1, BK1⟩
              rw [e2, HD.out, takenS_snoc, ← List.cons_append, mapD_snoc]
              exact HM1.out
          · have e3 : l0_6.take i.toNat = l0_6 := List.take_of_length_le (by omega)
            have hin : i.toNat = l0_6.length := by omega
            have HM' := HM.out
            rw [e3, hin] at HM'
            replace HM := Aside0.mk (show wr.ownsMap Tryd.prog 9 (plainElem (H := Unit) Tryd.prog 4) w2.heap.size (l0_6.length + 1) (mapD .string (([] :: takenS l0_6) ++ takenL (fullB a0_0 a0_1 l0_2 l0_3 a0_4 a0_5 l0_6) a3 a2 (l1.take 0))) by rw [takenL_zero]; exact HM')
            clear HM' e3 hin
            have u0 := blk_cell BK.out 0; have u1 := blk_cell BK.out 1; have u2 := blk_cell BK.out 2; have u3 := blk_cell BK.out 3; have u4 := blk_cell BK.out 4; have u5 := blk_cell BK.out 5; have u6 := blk_cell BK.out 6
            go_wp2
            clear u0 u1 u2 u3 u4 u5 u6
            go_loopg [45] l1.length (fun d v45 w' => ∃ i : Int, ∃ n : Nat, 0 ≤ i ∧ i.toNat + d = l1.length ∧ v45 = .int .i64 i ∧ n ≤ l0_6.length + 1 + i.toNat ∧ Aside0 (w'.ownsMap Tryd.prog 9 (plainElem (H := Unit) Tryd.prog 4) w2.heap.size (n) (mapD .string (([] :: takenS l0_6) ++ takenL (fullB a0_0 a0_1 l0_2 l0_3 a0_4 a0_5 l0_6) a3 a2 (l1.take i.toNat)))) ∧ Aside0 (Below w.heap.size w w') ∧ Aside0 (w'.heap[w.heap.size]? = some (.cells #[.int .i64 a0_0, .int .i64 a0_1, .slice A0_2 l0_2.length c0_2, .slice A0_3 l0_3.length c0_3, .int .i64 a0_4, .string a0_5, .slice A0_6 l0_6.length c0_6] 26)))
            case atStart => exact ⟨0, _, by omega, by simp, rfl, by simp, HM, HB, BK⟩
            case round =>
              clear HM HB BK
              obtain ⟨i, n, hi0, hd, rfl, hn, HM, HB, BK⟩ := hrel
              by_cases hlt : i < (l1.length : Int)
              · obtain ⟨ad, e1, hx0, hx1, hx2, hx3, hx4, hx5⟩ := at_T62 HK1.out i hi0 hlt
                cases e1
                replace hx0 := (HB.out.cell (World.block_lt_of_cell? w _ hx0)).trans hx0; replace hx1 := (HB.out.cell (World.block_lt_of_cell? w _ hx1)).trans hx1; replace hx2 := (HB.out.cell (World.block_lt_of_cell? w _ hx2)).trans hx2; replace hx3 := (HB.out.cell (World.block_lt_of_cell? w _ hx3)).trans hx3; replace hx4 := (HB.out.cell (World.block_lt_of_cell? w _ hx4)).trans hx4; replace hx5 := (HB.out.cell (World.block_lt_of_cell? w _ hx5)).trans hx5
                obtain ⟨hd1, hmem⟩ := dropFreeL l1 i hi0 hlt
                have hsz := HS.out.2.2 _ hmem
                generalize rd_T62 l1 i = x at hx0 hx1 hx2 hx3 hx4 hx5 hd1 hmem hsz
                obtain ⟨f0, f1, f2, f3, f4, f5⟩ := x
                simp only at hx0 hx1 hx2 hx3 hx4 hx5 hsz
                obtain ⟨b1, h1⟩ : ∃ b, boundB f0 f1 f2 f3 f4 f5 f2 a2 = b := ⟨_, rfl⟩
                have CB := Aside0.mk (fun (g : Nat) W (bk : W.heap[g]? = some (.cells #[.int .i64 f0, .int .i64 f1, .string f2, .int .i64 f3, .string f4, .bool f5] 62)) => lease_Bound.calls g f0 f1 f2 f3 f4 f5 f2 a2 b1 W bk (by omega) h1)
                have hheld : heldBy a3 a2 ⟨f0, f1, f2, f3, f4, f5⟩ = (f5 && (decide (f2.toList ≠ a3.toList) && b1)) := by unfold heldBy; rw [h1]
                clear h1
                have hkey := WideMaps.keyOf_string_mk Tryd.underlying9 (fullB_size (a0 := a0_0) (a1 := a0_1) (l2 := l0_2) (l3 := l0_3) (a4 := a0_4) (z := a0_5) (l6 := l0_6) hsz HS.out.1.1.2.2.1)
                have CFo := Aside0.mk (fun W => CF.out f4 W hsz)
                have HIN := Aside0.mk (fun e => takenL_in (fullB a0_0 a0_1 l0_2 l0_3 a0_4 a0_5 l0_6) a3 a2 (l1.take i.toNat) ⟨f0, f1, f2, f3, f4, f5⟩ e)
                have HOUT := Aside0.mk (fun e => takenL_out (fullB a0_0 a0_1 l0_2 l0_3 a0_4 a0_5 l0_6) a3 a2 (l1.take i.toNat) ⟨f0, f1, f2, f3, f4, f5⟩ e)
                have HD := Aside0.mk hd1
                clear hd1 hmem
                rw [hheld] at HIN HOUT
                clear hheld
                simp only at HIN
                generalize fullB a0_0 a0_1 l0_2 l0_3 a0_4 a0_5 l0_6 f4 = FK at hkey CFo HIN
                have u0 := blk_cell BK.out 0; have u1 := blk_cell BK.out 1; have u2 := blk_cell BK.out 2; have u3 := blk_cell BK.out 3; have u4 := blk_cell BK.out 4; have u5 := blk_cell BK.out 5; have u6 := blk_cell BK.out 6
                cases f5 with
                | false =>
                  clear CB CF CFo HIN
                  go_wp2
                  go_roundg (l1.length - (i.toNat + 1))
                  case measure => first | omega | (simp; omega)
                  case rel =>
                    have e2 : (i + 1).toNat = i.toNat + 1 := by omega
                    refine ⟨i + 1, n, by omega, by omega, by go_num, by omega, ⟨?_⟩, ⟨(by repeat (with_reducible first | exact HB.out | apply below_alloc | apply pw_below_drewN | apply below_drew1))⟩, ⟨(by (with_reducible repeat (first | exact BK.out | refine blk_drewN ?_ _ | refine blk_drew ?_ | refine blk_alloc ?_ _)))⟩⟩
                    rw [e2, HD.out, HOUT.out (by simp)]
                    exact HM.out.alloc (.cells #[.int .i64 f0, .int .i64 f1, .string f2, .int .i64 f3, .string f4, .bool false] 62)
                | true =>
                  by_cases hc : f2.toList = a3.toList
                  · clear CB CF CFo HIN
                    go_wp2
                    go_roundg (l1.length - (i.toNat + 1))
                    case measure => first | omega | (simp; omega)
                    case rel =>
                      have e2 : (i + 1).toNat = i.toNat + 1 := by omega
                      refine ⟨i + 1, n, by omega, by omega, by go_num, by omega, ⟨?_⟩, ⟨(by repeat (with_reducible first | exact HB.out | apply below_alloc | apply pw_below_drewN | apply below_drew1))⟩, ⟨(by (with_reducible repeat (first | exact BK.out | refine blk_drewN ?_ _ | refine blk_drew ?_ | refine blk_alloc ?_ _)))⟩⟩
                      rw [e2, HD.out, HOUT.out (by simp [hc])]
                      exact HM.out.alloc (.cells #[.int .i64 f0, .int .i64 f1, .string f2, .int .i64 f3, .string f4, .bool true] 62)
                  cases b1 with
                  | false =>
                    clear CF CFo HIN u0 u1 u2 u3 u4 u5 u6
                    go_wp2_with (first
                      | (go_at_call 55; (with_reducible refine (CB.out _ _ (blk_new wr (.cells #[.int .i64 f0, .int .i64 f1, .string f2, .int .i64 f3, .string f4, .bool true] 62))).mono ?_); rintro e w5 ⟨rfl, hb2⟩; replace HM := Aside0.mk (owns_below (HM.out.alloc (.cells #[.int .i64 f0, .int .i64 f1, .string f2, .int .i64 f3, .string f4, .bool true] 62)) hb2); replace BK := Aside0.mk (blk_below (blk_alloc BK.out (.cells #[.int .i64 f0, .int .i64 f1, .string f2, .int .i64 f3, .string f4, .bool true] 62)) hb2); replace HB := Aside0.mk (below_step (below_alloc HB.out (.cells #[.int .i64 f0, .int .i64 f1, .string f2, .int .i64 f3, .string f4, .bool true] 62)) hb2); clear hb2; have u0 := blk_cell BK.out 0; have u1 := blk_cell BK.out 1; have u2 := blk_cell BK.out 2; have u3 := blk_cell BK.out 3; have u4 := blk_cell BK.out 4; have u5 := blk_cell BK.out 5; have u6 := blk_cell BK.out 6)
                      | go_in)
                    go_roundg (l1.length - (i.toNat + 1))
                    case measure => first | omega | (simp; omega)
                    case rel =>
                      have e2 : (i + 1).toNat = i.toNat + 1 := by omega
                      refine ⟨i + 1, n, by omega, by omega, by go_num, by omega, ⟨?_⟩, HB, BK⟩
                      rw [e2, HD.out, HOUT.out (by simp)]
                      exact HM.out
                  | true =>
                    clear u0 u1 u2 u3 u4 u5 u6
                    have hne : (!f2.toList == a3.toList) = true := by simp [hc]
                    go_wp2_with (first
                      | (go_at_call 55; (with_reducible refine (CB.out _ _ (blk_new wr (.cells #[.int .i64 f0, .int .i64 f1, .string f2, .int .i64 f3, .string f4, .bool true] 62))).mono ?_); rintro e w5 ⟨rfl, hb2⟩; have hbx := hb2; replace HM := Aside0.mk (owns_below (HM.out.alloc (.cells #[.int .i64 f0, .int .i64 f1, .string f2, .int .i64 f3, .string f4, .bool true] 62)) hb2); replace BK := Aside0.mk (blk_below (blk_alloc BK.out (.cells #[.int .i64 f0, .int .i64 f1, .string f2, .int .i64 f3, .string f4, .bool true] 62)) hb2); replace HB := Aside0.mk (below_step (below_alloc HB.out (.cells #[.int .i64 f0, .int .i64 f1, .string f2, .int .i64 f3, .string f4, .bool true] 62)) hb2); clear hb2; have u0 := blk_cell BK.out 0; have u1 := blk_cell BK.out 1; have u2 := blk_cell BK.out 2; have u3 := blk_cell BK.out 3; have u4 := blk_cell BK.out 4; have u5 := blk_cell BK.out 5; have u6 := blk_cell BK.out 6; have x4 := blk_cell (blk_below (blk_new wr (.cells #[.int .i64 f0, .int .i64 f1, .string f2, .int .i64 f3, .string f4, .bool true] 62)) hbx) 4)
                      | (go_at_call 33; (with_reducible refine (CFo.out _ (by repeat (with_reducible first | exact HB.out | apply below_alloc | apply pw_below_drewN | apply below_drew1))).mono ?_); rintro e w6 ⟨rfl, hb2⟩; replace HM := Aside0.mk (owns_below HM.out hb2); replace BK := Aside0.mk (blk_below (show _ from (by (with_reducible repeat (first | exact BK.out | refine blk_drewN ?_ _ | refine blk_drew ?_ | refine blk_alloc ?_ _)))) hb2); replace HB := Aside0.mk (below_step (show Below w.heap.size w _ from (by repeat (with_reducible first | exact HB.out | apply below_alloc | apply pw_below_drewN | apply below_drew1))) hb2); clear hb2)
                      | (at_mapUpdate; refine wpList_mapUpdate_own _ rfl _ _ _ 81 rfl 9 4 (Maps.string_keyed Tryd.underlying9) Tryd.underlying81 _ w2.heap.size n _ rfl HM.out (by unfold maxLen; omega) _ _ _ rfl rfl hkey _ [] (plainElem_bool Tryd.underlying4 true) ?_; intro w7 hown1 hgrow1; have HM1 := Aside0.mk hown1; have HB1 := Aside0.mk (free_grown hgrow1 (by repeat (with_reducible first | exact HB.out | apply below_alloc | apply pw_below_drewN | apply below_drew1)) (Nat.le_of_lt hlt2)); have BK1 := Aside0.mk (show w7.heap[w.heap.size]? = some (.cells #[.int .i64 a0_0, .int .i64 a0_1, .slice A0_2 l0_2.length c0_2, .slice A0_3 l0_3.length c0_3, .int .i64 a0_4, .string a0_5, .slice A0_6 l0_6.length c0_6] 26) from blk_grown (by (with_reducible repeat (first | exact BK.out | refine blk_drewN ?_ _ | refine blk_drew ?_ | refine blk_alloc ?_ _))) hgrow1 (fun e => absurd (Option.some.inj e) (Nat.ne_of_lt hlt2))); clear hown1 hgrow1)
                      | go_in)
                    go_roundg (l1.length - (i.toNat + 1))
                    case measure => first | omega | (simp; omega)
                    case rel =>
                      have e2 : (i + 1).toNat = i.toNat + 1 := by omega
                      refine ⟨i + 1, n + 1, by omega, by omega, by go_num, by omega, ⟨?_⟩, HB1, BK1⟩
                      rw [e2, HD.out, HIN.out (by simp [hc])]
                      rw [← List.append_assoc, mapD_snoc]; exact HM1.out
              · have e3 : l1.take i.toNat = l1 := List.take_of_length_le (by omega)
                have HM' := HM.out
                rw [e3] at HM'
                replace HM := Aside0.mk HM'
                clear HM' e3
                have u0 := blk_cell BK.out 0; have u1 := blk_cell BK.out 1; have u2 := blk_cell BK.out 2; have u3 := blk_cell BK.out 3; have u4 := blk_cell BK.out 4; have u5 := blk_cell BK.out 5; have u6 := blk_cell BK.out 6
                have hkey := WideMaps.keyOf_string_mk Tryd.underlying9 (fullB_size (a0 := a0_0) (a1 := a0_1) (l2 := l0_2) (l3 := l0_3) (a4 := a0_4) (z := a0_5) (l6 := l0_6) HS.out.1.2 HS.out.1.1.2.2.1)
                have HRo := HR.out
                have CFo := Aside0.mk (fun W => CF.out a4 W HS.out.1.2)
                generalize fullB a0_0 a0_1 l0_2 l0_3 a0_4 a0_5 l0_6 a4 = FK at hkey HRo CFo
                obtain ⟨b3, hb3⟩ : ∃ b3 : Bool, (b3 = true ↔ FK.data.toList ∈ [] :: takenS l0_6 ++ takenL (fullB a0_0 a0_1 l0_2 l0_3 a0_4 a0_5 l0_6) a3 a2 l1) := ⟨decide _, decide_eq_true_iff⟩
                have hbr : (!b3) = r1 := by rw [← HRo, Bool.eq_iff_iff, decide_eq_true_iff, ← hb3]; cases b3 <;> simp
                clear HRo HR CF HK6 HK1
                subst hbr
                have HL : ∀ W, (W.ownsMap Tryd.prog 9 (plainElem (H := Unit) Tryd.prog 4) w2.heap.size n (mapD .string ([] :: takenS l0_6 ++ takenL (fullB a0_0 a0_1 l0_2 l0_3 a0_4 a0_5 l0_6) a3 a2 l1))) → (Instr.lookup 81 (.map (some w2.heap.size)) (.string FK) false).run Tryd.prog W = .ok (.bool b3) W := fun W h => setLook Lit.string (fun _ => trivial) (fun _ _ e => by injection e) (Maps.string_keyed Tryd.underlying9) Tryd.underlying81 Tryd.underlying4 (by kernel_rfl) h hkey hb3
                replace HL := Aside0.mk HL
                clear hb3 hkey
                go_wp2_with (first
                  | (go_at_call 33; (with_reducible refine (CFo.out _ (by repeat (with_reducible first | exact HB.out | apply below_alloc | apply pw_below_drewN | apply below_drew1))).mono ?_); rintro e w6 ⟨rfl, hb2⟩; have hlook := HL.out _ (owns_below HM.out hb2); replace BK := Aside0.mk (blk_below (show _ from (by (with_reducible repeat (first | exact BK.out | refine blk_drewN ?_ _ | refine blk_drew ?_ | refine blk_alloc ?_ _)))) hb2); replace HB := Aside0.mk (below_step (show Below w.heap.size w _ from (by repeat (with_reducible first | exact HB.out | apply below_alloc | apply pw_below_drewN | apply below_drew1))) hb2); clear hb2)
                  | go_in)
                go_ret2
                exact ⟨rfl, (by repeat (with_reducible first | exact HB.out | apply below_alloc | apply pw_below_drewN | apply below_drew1))⟩

/-! ### pinfoldlaw16_given: function 37 -/
def pinfoldlaw16_given.f  : Option (Int × Int × List Int × (List (S47)) × Int × ByteArray × (List (S49))) := some (10, 13, (([12] : List Int)), (([(⟨(⟨#[118, 105, 112]⟩ : ByteArray), 13⟩ : S47)] : List (S47))), 100, (⟨#[108, 97, 110]⟩ : ByteArray), (([(⟨(⟨#[119, 119, 119, 46, 108, 97, 110]⟩ : ByteArray), 1, 5, 7, (⟨#[]⟩ : ByteArray), (⟨#[]⟩ : ByteArray), 0⟩ : S49)] : List (S49))))
set_option maxHeartbeats 8000000 in
set_option maxRecDepth 100000 in
theorem pinfoldlaw16_given.calls  (r1 : Int) (r2 : Int) (r3 : List Int) (r4 : List (S47)) (r5 : Int) (r6 : ByteArray) (r7 : List (S49)) (w : World) (h : pinfoldlaw16_given.f  = some (r1, r2, r3, r4, r5, r6, r7)) :
    Calls Tryd.prog 37 #[] w fun e w' => ∃ v2_ v3_ v6_ : Value, e = .returned (.agg #[.int .i64 r1, .int .i64 r2, v2_, v3_, .int .i64 r5, .string r6, v6_]) ∧ Kd.R (Kd.int .i64) 3 w' w.heap.size (fun _ => True) v2_ r3 ∧ Kd.R k47 47 w' w.heap.size (fun _ => True) v3_ r4 ∧ Kd.R k49 49 w' w.heap.size (fun _ => True) v6_ r7 ∧ Below w.heap.size w w' := by
  have hu26 := Tryd.underlying26
  have hu47 := Tryd.underlying47
  have hu49 := Tryd.underlying49
  have HB := Aside0.mk (Below.refl w.heap.size w)
  have H : (some (10, 13, (([12] : List Int)), (([(⟨(⟨#[118, 105, 112]⟩ : ByteArray), 13⟩ : S47)] : List (S47))), 100, (⟨#[108, 97, 110]⟩ : ByteArray), (([(⟨(⟨#[119, 119, 119, 46, 108, 97, 110]⟩ : ByteArray), 1, 5, 7, (⟨#[]⟩ : ByteArray), (⟨#[]⟩ : ByteArray), 0⟩ : S49)] : List (S49))))) = some (r1, r2, r3, r4, r5, r6, r7) := h
  clear h
  obtain ⟨y127, hy127⟩ : ∃ y_ : List Int, y_ = (([12] : List Int)) := ⟨_, rfl⟩
  replace H : (some (10, 13, y127, (([(⟨(⟨#[118, 105, 112]⟩ : ByteArray), 13⟩ : S47)] : List (S47))), 100, (⟨#[108, 97, 110]⟩ : ByteArray), (([(⟨(⟨#[119, 119, 119, 46, 108, 97, 110]⟩ : ByteArray), 1, 5, 7, (⟨#[]⟩ : ByteArray), (⟨#[]⟩ : ByteArray), 0⟩ : S49)] : List (S49))))) = some (r1, r2, r3, r4, r5, r6, r7) := by first | (rw [hy127]; with_reducible exact H) | (have H2_ := (Option.bind_some _ _).symm.trans H; rw [hy127]; with_reducible exact H2_) | (have H2_ := (Option.bind_some _ _).symm.trans H; with_reducible exact H2_) | with_reducible exact H | (rw [hy127]; exact H) | exact H
  have Ny127 := Aside0.mk hy127
  clear hy127
  obtain ⟨y130, hy130⟩ : ∃ y_ : List (S47), y_ = (([(⟨(⟨#[118, 105, 112]⟩ : ByteArray), 13⟩ : S47)] : List (S47))) := ⟨_, rfl⟩
  replace H : (some (10, 13, y127, y130, 100, (⟨#[108, 97, 110]⟩ : ByteArray), (([(⟨(⟨#[119, 119, 119, 46, 108, 97, 110]⟩ : ByteArray), 1, 5, 7, (⟨#[]⟩ : ByteArray), (⟨#[]⟩ : ByteArray), 0⟩ : S49)] : List (S49))))) = some (r1, r2, r3, r4, r5, r6, r7) := by first | (rw [hy130]; with_reducible exact H) | (have H2_ := (Option.bind_some _ _).symm.trans H; rw [hy130]; with_reducible exact H2_) | (have H2_ := (Option.bind_some _ _).symm.trans H; with_reducible exact H2_) | with_reducible exact H | (rw [hy130]; exact H) | exact H
  have Ny130 := Aside0.mk hy130
  clear hy130
  obtain ⟨y133, hy133⟩ : ∃ y_ : List (S49), y_ = (([(⟨(⟨#[119, 119, 119, 46, 108, 97, 110]⟩ : ByteArray), 1, 5, 7, (⟨#[]⟩ : ByteArray), (⟨#[]⟩ : ByteArray), 0⟩ : S49)] : List (S49))) := ⟨_, rfl⟩
  replace H : (some (10, 13, y127, y130, 100, (⟨#[108, 97, 110]⟩ : ByteArray), y133)) = some (r1, r2, r3, r4, r5, r6, r7) := by first | (rw [hy133]; with_reducible exact H) | (have H2_ := (Option.bind_some _ _).symm.trans H; rw [hy133]; with_reducible exact H2_) | (have H2_ := (Option.bind_some _ _).symm.trans H; with_reducible exact H2_) | with_reducible exact H | (rw [hy133]; exact H) | exact H
  have Ny133 := Aside0.mk hy133
  clear hy133
  simp only [Option.some.injEq, Prod.mk.injEq] at H
  obtain ⟨rfl, rfl, rfl, rfl, rfl, rfl, rfl⟩ := H
  go_enter Tryd.func37, Tryd.ntmps37
  go_wp2_with (first | ((with_reducible refine gate_dst (N := 0) rfl ?_); refine box_event ?hg (N := 0) ?hd (cs := #[.int .i64 0, .int .i64 0, .slice none 0 0, .slice none 0 0, .int .i64 0, .string (⟨#[]⟩ : ByteArray), .slice none 0 0]) (t := 26) ?hr ?_; (case hd => rfl); (case hg => rfl); (case hr => first | (go_simp; done) | (go_simp; rfl)); intro gb126 hg w1 hbox hb; have n0_ := Aside0.mk (below_step (by repeat (with_reducible first | exact HB.out | apply below_alloc | apply pw_below_drewN | apply below_drew1)) hb); have n1_ := Aside0.mk (hbox); have n2_ := Aside0.mk ((by rw [hg]; exact (below_size (by repeat (with_reducible first | exact HB.out | apply below_alloc | apply pw_below_drewN | apply below_drew1))) : w.heap.size ≤ gb126)); have n3_ := Aside0.mk ((by rw [hg]; exact (below_size (by repeat (with_reducible first | exact HB.out | apply below_alloc | apply pw_below_drewN | apply below_drew1))) : w.heap.size ≤ gb126)); clear HB; have HB := n0_; have BK126 := n1_; have GW126 := n2_; have GE126 := n3_; clear n0_ n1_ n2_ n3_; clear hb hbox hg) | ((with_reducible refine gate_dst (N := 1) rfl ?_); refine Kd.R_lit (Kd.int .i64) _ 3 ?hg (N := 1) ?hd (xs := ([12] : List Int)) (inner := [.int .i64 12]) (ok := fun _ => True) (okp := fun _ => True) ?hr ?hp (fun _ hk => hk) trivial (Below.refl _ _) (Nat.le_refl _) (by simp) ?_; (case hd => rfl); (case hg => rfl); (case hr => first | (go_simp; done) | (go_simp; rfl)); (case hp => exact (Reps.one (show Kd.M (Kd.int .i64) _ _ _ 12 [.int .i64 12] from rfl) (Reps.none _ _))); intro v128 w2 ho3 hb hg_ hnew_; clear hg_ hnew_; (first | rw [← Ny127.out] at ho3 | (simp only [Int.reduceToNat] at ho3; rw [← Ny127.out] at ho3)); have n0_ := Aside0.mk (Kd.R_lower ho3 (below_size (by repeat (with_reducible first | exact HB.out | apply below_alloc | apply pw_below_drewN | apply below_drew1 | refine below_set ?_ GE126.out)))); have n1_ := Aside0.mk (blk_below (g := gb126) (o := .cells #[.int .i64 0, .int .i64 0, .slice none 0 0, .slice none 0 0, .int .i64 0, .string (⟨#[]⟩ : ByteArray), .slice none 0 0] 26 (0, 0)) (by (with_reducible repeat (first | refine blk_drewN ?_ _ | refine blk_drew ?_ | refine blk_alloc ?_ _)); exact BK126.out) hb); have n2_ := Aside0.mk (below_step (by repeat (with_reducible first | exact HB.out | apply below_alloc | apply pw_below_drewN | apply below_drew1 | refine below_set ?_ GE126.out)) hb); clear BK126; clear HB; have HO129 := n0_; have BK126 := n1_; have HB := n2_; clear n0_ n1_ n2_; clear hb ho3) | ((with_reducible refine gate_dst (N := 3) rfl ?_); refine Kd.R_lit k47 _ 47 ?hg (N := 3) ?hd (xs := ([(⟨(⟨#[118, 105, 112]⟩ : ByteArray), 13⟩ : S47)] : List (S47))) (inner := [.string (⟨#[118, 105, 112]⟩ : ByteArray), .int .i64 13]) (ok := fun _ => True) (okp := fun _ => True) ?hr ?hp (fun _ hk => hk) trivial (Below.refl _ _) (Nat.le_refl _) (by simp) ?_; (case hd => rfl); (case hg => rfl); (case hr => first | (go_simp; done) | (go_simp; rfl)); (case hp => exact (Reps.c2 (show Kd.M k47 _ _ _ (⟨(⟨#[118, 105, 112]⟩ : ByteArray), 13⟩ : S47) [.string (⟨#[118, 105, 112]⟩ : ByteArray), .int .i64 13] from (k47_mkM _ _ _ (⟨(⟨#[118, 105, 112]⟩ : ByteArray), 13⟩ : S47) )) (Reps.none _ _))); intro v131 w4 ho5 hb hg_ hnew_; clear hg_ hnew_; (first | rw [← Ny130.out] at ho5 | (simp only [Int.reduceToNat] at ho5; rw [← Ny130.out] at ho5)); have n0_ := Aside0.mk (Kd.R_below (by (with_reducible repeat (first | apply Kd.R_alloc | apply Kd.R_drewN | apply Kd.R_drew)); exact HO129.out) hb); have n1_ := Aside0.mk (Kd.R_lower ho5 (below_size (by repeat (with_reducible first | exact HB.out | apply below_alloc | apply pw_below_drewN | apply below_drew1 | refine below_set ?_ GE126.out)))); have n2_ := Aside0.mk (blk_below (g := gb126) (o := .cells #[.int .i64 0, .int .i64 0, .slice none 0 0, .slice none 0 0, .int .i64 0, .string (⟨#[]⟩ : ByteArray), .slice none 0 0] 26 (0, 0)) (by (with_reducible repeat (first | refine blk_drewN ?_ _ | refine blk_drew ?_ | refine blk_alloc ?_ _)); exact BK126.out) hb); have n3_ := Aside0.mk (below_step (by repeat (with_reducible first | exact HB.out | apply below_alloc | apply pw_below_drewN | apply below_drew1 | refine below_set ?_ GE126.out)) hb); clear HO129; clear BK126; clear HB; have HO129 := n0_; have HO132 := n1_; have BK126 := n2_; have HB := n3_; clear n0_ n1_ n2_ n3_; clear hb ho5) | ((with_reducible refine gate_dst (N := 5) rfl ?_); refine Kd.R_lit k49 _ 49 ?hg (N := 5) ?hd (xs := ([(⟨(⟨#[119, 119, 119, 46, 108, 97, 110]⟩ : ByteArray), 1, 5, 7, (⟨#[]⟩ : ByteArray), (⟨#[]⟩ : ByteArray), 0⟩ : S49)] : List (S49))) (inner := [.string (⟨#[119, 119, 119, 46, 108, 97, 110]⟩ : ByteArray), .int .i64 1, .int .i64 5, .int .i64 7, .string (⟨#[]⟩ : ByteArray), .string (⟨#[]⟩ : ByteArray), .int .i64 0]) (ok := fun _ => True) (okp := fun _ => True) ?hr ?hp (fun _ hk => hk) trivial (Below.refl _ _) (Nat.le_refl _) (by simp) ?_; (case hd => rfl); (case hg => rfl); (case hr => first | (go_simp; done) | (go_simp; rfl)); (case hp => exact (Reps.c7 (show Kd.M k49 _ _ _ (⟨(⟨#[119, 119, 119, 46, 108, 97, 110]⟩ : ByteArray), 1, 5, 7, (⟨#[]⟩ : ByteArray), (⟨#[]⟩ : ByteArray), 0⟩ : S49) [.string (⟨#[119, 119, 119, 46, 108, 97, 110]⟩ : ByteArray), .int .i64 1, .int .i64 5, .int .i64 7, .string (⟨#[]⟩ : ByteArray), .string (⟨#[]⟩ : ByteArray), .int .i64 0] from (k49_mkM _ _ _ (⟨(⟨#[119, 119, 119, 46, 108, 97, 110]⟩ : ByteArray), 1, 5, 7, (⟨#[]⟩ : ByteArray), (⟨#[]⟩ : ByteArray), 0⟩ : S49) )) (Reps.none _ _))); intro v134 w6 ho7 hb hg_ hnew_; clear hg_ hnew_; (first | rw [← Ny133.out] at ho7 | (simp only [Int.reduceToNat] at ho7; rw [← Ny133.out] at ho7)); have n0_ := Aside0.mk (Kd.R_below (by (with_reducible repeat (first | apply Kd.R_alloc | apply Kd.R_drewN | apply Kd.R_drew)); exact HO129.out) hb); have n1_ := Aside0.mk (Kd.R_below (by (with_reducible repeat (first | apply Kd.R_alloc | apply Kd.R_drewN | apply Kd.R_drew)); exact HO132.out) hb); have n2_ := Aside0.mk (Kd.R_lower ho7 (below_size (by repeat (with_reducible first | exact HB.out | apply below_alloc | apply pw_below_drewN | apply below_drew1 | refine below_set ?_ GE126.out)))); have n3_ := Aside0.mk (blk_below (g := gb126) (o := .cells #[.int .i64 0, .int .i64 0, .slice none 0 0, .slice none 0 0, .int .i64 0, .string (⟨#[]⟩ : ByteArray), .slice none 0 0] 26 (0, 0)) (by (with_reducible repeat (first | refine blk_drewN ?_ _ | refine blk_drew ?_ | refine blk_alloc ?_ _)); exact BK126.out) hb); have n4_ := Aside0.mk (below_step (by repeat (with_reducible first | exact HB.out | apply below_alloc | apply pw_below_drewN | apply below_drew1 | refine below_set ?_ GE126.out)) hb); clear HO129; clear HO132; clear BK126; clear HB; have HO129 := n0_; have HO132 := n1_; have HO135 := n2_; have BK126 := n3_; have HB := n4_; clear n0_ n1_ n2_ n3_ n4_; clear hb ho7; obtain ⟨Ao8, co8, eo8⟩ := Kd.R_slice HO135.out; subst eo8; obtain ⟨Ao9, co9, eo9⟩ := Kd.R_slice HO132.out; subst eo9; obtain ⟨Ao10, co10, eo10⟩ := Kd.R_slice HO129.out; subst eo10; have hcz11_0 : w6.cell? ⟨gb126, 0, none⟩ = some (.int .i64 0) := (blk_cell BK126.out 0).trans rfl; have hcz11_1 : w6.cell? ⟨gb126, 1, none⟩ = some (.int .i64 0) := (blk_cell BK126.out 1).trans rfl; have hcz11_2 : w6.cell? ⟨gb126, 2, none⟩ = some (.slice none 0 0) := (blk_cell BK126.out 2).trans rfl; have hcz11_3 : w6.cell? ⟨gb126, 3, none⟩ = some (.slice none 0 0) := (blk_cell BK126.out 3).trans rfl; have hcz11_4 : w6.cell? ⟨gb126, 4, none⟩ = some (.int .i64 0) := (blk_cell BK126.out 4).trans rfl; have hcz11_5 : w6.cell? ⟨gb126, 5, none⟩ = some (.string (⟨#[]⟩ : ByteArray)) := (blk_cell BK126.out 5).trans rfl; have hcz11_6 : w6.cell? ⟨gb126, 6, none⟩ = some (.slice none 0 0) := (blk_cell BK126.out 6).trans rfl; have hfz11_0 := blk_frozen BK126.out 0; have hfz11_1 := blk_frozen BK126.out 1; have hfz11_2 := blk_frozen BK126.out 2; have hfz11_3 := blk_frozen BK126.out 3; have hfz11_4 := blk_frozen BK126.out 4; have hfz11_5 := blk_frozen BK126.out 5; have hfz11_6 := blk_frozen BK126.out 6))
  refine bodyPost_ret (results_cell_row rfl _ _ gb126 26 #[.int .i64 10, .int .i64 13, .slice Ao10 y127.length co10, .slice Ao9 y130.length co9, .int .i64 100, .string (⟨#[108, 97, 110]⟩ : ByteArray), .slice Ao8 y133.length co8] (0, 0) _ rfl (by (with_reducible repeat (first | refine blk_drewN ?_ _ | refine blk_drew ?_ | refine blk_alloc ?_ _)); refine blk_put (cs := #[.int .i64 10, .int .i64 13, .slice Ao10 y127.length co10, .slice Ao9 y130.length co9, .int .i64 100, .string (⟨#[108, 97, 110]⟩ : ByteArray), .slice none 0 0]) ?_ 6 _ rfl; (with_reducible repeat (first | refine blk_drewN ?_ _ | refine blk_drew ?_ | refine blk_alloc ?_ _)); refine blk_put (cs := #[.int .i64 10, .int .i64 13, .slice Ao10 y127.length co10, .slice Ao9 y130.length co9, .int .i64 100, .string (⟨#[]⟩ : ByteArray), .slice none 0 0]) ?_ 5 _ rfl; (with_reducible repeat (first | refine blk_drewN ?_ _ | refine blk_drew ?_ | refine blk_alloc ?_ _)); refine blk_put (cs := #[.int .i64 10, .int .i64 13, .slice Ao10 y127.length co10, .slice Ao9 y130.length co9, .int .i64 0, .string (⟨#[]⟩ : ByteArray), .slice none 0 0]) ?_ 4 _ rfl; (with_reducible repeat (first | refine blk_drewN ?_ _ | refine blk_drew ?_ | refine blk_alloc ?_ _)); refine blk_put (cs := #[.int .i64 10, .int .i64 13, .slice Ao10 y127.length co10, .slice none 0 0, .int .i64 0, .string (⟨#[]⟩ : ByteArray), .slice none 0 0]) ?_ 3 _ rfl; (with_reducible repeat (first | refine blk_drewN ?_ _ | refine blk_drew ?_ | refine blk_alloc ?_ _)); refine blk_put (cs := #[.int .i64 10, .int .i64 13, .slice none 0 0, .slice none 0 0, .int .i64 0, .string (⟨#[]⟩ : ByteArray), .slice none 0 0]) ?_ 2 _ rfl; (with_reducible repeat (first | refine blk_drewN ?_ _ | refine blk_drew ?_ | refine blk_alloc ?_ _)); refine blk_put (cs := #[.int .i64 10, .int .i64 0, .slice none 0 0, .slice none 0 0, .int .i64 0, .string (⟨#[]⟩ : ByteArray), .slice none 0 0]) ?_ 1 _ rfl; (with_reducible repeat (first | refine blk_drewN ?_ _ | refine blk_drew ?_ | refine blk_alloc ?_ _)); refine blk_put (cs := #[.int .i64 0, .int .i64 0, .slice none 0 0, .slice none 0 0, .int .i64 0, .string (⟨#[]⟩ : ByteArray), .slice none 0 0]) ?_ 0 _ rfl; (with_reducible repeat (first | refine blk_drewN ?_ _ | refine blk_drew ?_ | refine blk_alloc ?_ _)); exact BK126.out) Tryd.underlying26 rfl (by kernel_rfl)) rfl ?_
  exact ⟨_, _, _, by first | rfl | (simp [errW_none, errW_some] <;> rfl) | (simp [*, errW_none, errW_some] <;> rfl), by (with_reducible repeat (first | apply Kd.R_alloc | apply Kd.R_drewN | apply Kd.R_drew)); exact Kd.R_mono (Kd.R_far (p := ⟨gb126, 6, none⟩) (Kd.R_far (p := ⟨gb126, 5, none⟩) (Kd.R_far (p := ⟨gb126, 4, none⟩) (Kd.R_far (p := ⟨gb126, 3, none⟩) (Kd.R_far (p := ⟨gb126, 2, none⟩) (Kd.R_far (p := ⟨gb126, 1, none⟩) (Kd.R_far (p := ⟨gb126, 0, none⟩) (Kd.R_types HO129.out BK126.out (by decide)) (fun _ hk => hk.2) (.int .i64 10)) (fun _ hk => hk.2) (.int .i64 13)) (fun _ hk => hk.2) (.slice Ao10 y127.length co10)) (fun _ hk => hk.2) (.slice Ao9 y130.length co9)) (fun _ hk => hk.2) (.int .i64 100)) (fun _ hk => hk.2) (.string (⟨#[108, 97, 110]⟩ : ByteArray))) (fun _ hk => hk.2) (.slice Ao8 y133.length co8)) (fun _ hk => trivial), by (with_reducible repeat (first | apply Kd.R_alloc | apply Kd.R_drewN | apply Kd.R_drew)); exact Kd.R_mono (Kd.R_far (p := ⟨gb126, 6, none⟩) (Kd.R_far (p := ⟨gb126, 5, none⟩) (Kd.R_far (p := ⟨gb126, 4, none⟩) (Kd.R_far (p := ⟨gb126, 3, none⟩) (Kd.R_far (p := ⟨gb126, 2, none⟩) (Kd.R_far (p := ⟨gb126, 1, none⟩) (Kd.R_far (p := ⟨gb126, 0, none⟩) (Kd.R_types HO132.out BK126.out (by decide)) (fun _ hk => hk.2) (.int .i64 10)) (fun _ hk => hk.2) (.int .i64 13)) (fun _ hk => hk.2) (.slice Ao10 y127.length co10)) (fun _ hk => hk.2) (.slice Ao9 y130.length co9)) (fun _ hk => hk.2) (.int .i64 100)) (fun _ hk => hk.2) (.string (⟨#[108, 97, 110]⟩ : ByteArray))) (fun _ hk => hk.2) (.slice Ao8 y133.length co8)) (fun _ hk => trivial), by (with_reducible repeat (first | apply Kd.R_alloc | apply Kd.R_drewN | apply Kd.R_drew)); exact Kd.R_mono (Kd.R_far (p := ⟨gb126, 6, none⟩) (Kd.R_far (p := ⟨gb126, 5, none⟩) (Kd.R_far (p := ⟨gb126, 4, none⟩) (Kd.R_far (p := ⟨gb126, 3, none⟩) (Kd.R_far (p := ⟨gb126, 2, none⟩) (Kd.R_far (p := ⟨gb126, 1, none⟩) (Kd.R_far (p := ⟨gb126, 0, none⟩) (Kd.R_types HO135.out BK126.out (by decide)) (fun _ hk => hk.2) (.int .i64 10)) (fun _ hk => hk.2) (.int .i64 13)) (fun _ hk => hk.2) (.slice Ao10 y127.length co10)) (fun _ hk => hk.2) (.slice Ao9 y130.length co9)) (fun _ hk => hk.2) (.int .i64 100)) (fun _ hk => hk.2) (.string (⟨#[108, 97, 110]⟩ : ByteArray))) (fun _ hk => hk.2) (.slice Ao8 y133.length co8)) (fun _ hk => trivial), by repeat (with_reducible first | exact HB.out | apply below_alloc | apply pw_below_drewN | apply below_drew1 | refine below_set ?_ GE126.out)⟩

/-! ### pinfoldlaw16_awake: function 36 -/
def pinfoldlaw16_awake.f  : Option (Bool) := (pinfoldlaw16_given.f).bind fun bt136 => ((some (([(⟨10, 2, (⟨#[97]⟩ : ByteArray), 9, (⟨#[112, 99]⟩ : ByteArray), true⟩ : S62)] : List (S62)) : List (S62))).bind fun y150 => ((regis_Free.f bt136.1 bt136.2.1 bt136.2.2.1 bt136.2.2.2.1 bt136.2.2.2.2.1 bt136.2.2.2.2.2.1 bt136.2.2.2.2.2.2 y150 0 (⟨#[98]⟩ : ByteArray) (⟨#[112, 99, 46, 108, 97, 110]⟩ : ByteArray)).bind fun bt153 => ((regis_Free.f bt136.1 bt136.2.1 bt136.2.2.1 bt136.2.2.2.1 bt136.2.2.2.2.1 bt136.2.2.2.2.2.1 bt136.2.2.2.2.2.2 y150 0 (⟨#[97]⟩ : ByteArray) (⟨#[112, 99]⟩ : ByteArray)).bind fun bt155 => ((regis_Free.f bt136.1 bt136.2.1 bt136.2.2.1 bt136.2.2.2.1 bt136.2.2.2.2.1 bt136.2.2.2.2.2.1 bt136.2.2.2.2.2.2 y150 9 (⟨#[98]⟩ : ByteArray) (⟨#[112, 99]⟩ : ByteArray)).bind fun bt157 => ((regis_Free.f bt136.1 bt136.2.1 bt136.2.2.1 bt136.2.2.2.1 bt136.2.2.2.2.1 bt136.2.2.2.2.2.1 bt136.2.2.2.2.2.2 ([] : List (S62)) 0 (⟨#[98]⟩ : ByteArray) (⟨#[119, 119, 119]⟩ : ByteArray)).bind fun bt159 => ((regis_Free.f bt136.1 bt136.2.1 bt136.2.2.1 bt136.2.2.2.1 bt136.2.2.2.2.1 bt136.2.2.2.2.2.1 bt136.2.2.2.2.2.2 y150 0 (⟨#[98]⟩ : ByteArray) (⟨#[65]⟩ : ByteArray)).bind fun bt161 => ((regis_Full_c.f bt136.1 bt136.2.1 bt136.2.2.1 bt136.2.2.2.1 bt136.2.2.2.2.1 bt136.2.2.2.2.2.1 bt136.2.2.2.2.2.2 (⟨#[112, 99]⟩ : ByteArray)).bind fun t163 => (if t163.toList = ([112, 99, 46, 108, 97, 110] : List UInt8) then ((regis_Full_c.f bt136.1 bt136.2.1 bt136.2.2.1 bt136.2.2.2.1 bt136.2.2.2.2.1 bt136.2.2.2.2.2.1 bt136.2.2.2.2.2.2 (⟨#[120, 46, 112, 99, 46, 108, 97, 110]⟩ : ByteArray)).bind fun t164 => (if t164.toList = ([120, 46, 112, 99, 46, 108, 97, 110] : List UInt8) then ((regis_Full_c.f bt136.1 bt136.2.1 bt136.2.2.1 bt136.2.2.2.1 bt136.2.2.2.2.1 bt136.2.2.2.2.2.1 bt136.2.2.2.2.2.2 (⟨#[97, 46, 98]⟩ : ByteArray)).bind fun t165 => (if t165.toList = ([] : List UInt8) then ((regis_Full_c.f bt136.1 bt136.2.1 bt136.2.2.1 bt136.2.2.2.1 bt136.2.2.2.2.1 bt136.2.2.2.2.2.1 bt136.2.2.2.2.2.2 (⟨#[]⟩ : ByteArray)).bind fun t166 => (if t166.toList = ([] : List UInt8) then (if bt153.1 = true then (none) else ((pinfoldlaw0_Num.f bt153.2).bind fun t167 => (if t167 = 0 then (if bt155.1 = true then ((pinfoldlaw0_Num.f bt155.2).bind fun t168 => (if t168 = 0 then (if bt157.1 = true then ((pinfoldlaw0_Num.f bt157.2).bind fun t169 => (if t169 = 0 then (if bt159.1 = true then (none) else ((pinfoldlaw0_Num.f bt159.2).bind fun t170 => (if t170 = 0 then ((pinfoldlaw0_Num.f bt161.2).bind fun t171 => (some (t171 == 1600))) else (none)))) else (none))) else (none)) else (none))) else (none)) else (none)))) else (none))) else (none))) else (none))) else (none)))))))))
set_option maxHeartbeats 8000000 in
set_option maxRecDepth 100000 in
theorem pinfoldlaw16_awake.calls  (r : Bool) (w : World) (h : pinfoldlaw16_awake.f  = some r) :
    Calls Tryd.prog 36 #[] w fun e w' => e = .returned (.bool r) ∧ Below w.heap.size w w' := by
  have hu26 := Tryd.underlying26
  have hu62 := Tryd.underlying62
  have HB := Aside0.mk (Below.refl w.heap.size w)
  have H : ((pinfoldlaw16_given.f).bind fun bt136 => ((some (([(⟨10, 2, (⟨#[97]⟩ : ByteArray), 9, (⟨#[112, 99]⟩ : ByteArray), true⟩ : S62)] : List (S62)) : List (S62))).bind fun y150 => ((regis_Free.f bt136.1 bt136.2.1 bt136.2.2.1 bt136.2.2.2.1 bt136.2.2.2.2.1 bt136.2.2.2.2.2.1 bt136.2.2.2.2.2.2 y150 0 (⟨#[98]⟩ : ByteArray) (⟨#[112, 99, 46, 108, 97, 110]⟩ : ByteArray)).bind fun bt153 => ((regis_Free.f bt136.1 bt136.2.1 bt136.2.2.1 bt136.2.2.2.1 bt136.2.2.2.2.1 bt136.2.2.2.2.2.1 bt136.2.2.2.2.2.2 y150 0 (⟨#[97]⟩ : ByteArray) (⟨#[112, 99]⟩ : ByteArray)).bind fun bt155 => ((regis_Free.f bt136.1 bt136.2.1 bt136.2.2.1 bt136.2.2.2.1 bt136.2.2.2.2.1 bt136.2.2.2.2.2.1 bt136.2.2.2.2.2.2 y150 9 (⟨#[98]⟩ : ByteArray) (⟨#[112, 99]⟩ : ByteArray)).bind fun bt157 => ((regis_Free.f bt136.1 bt136.2.1 bt136.2.2.1 bt136.2.2.2.1 bt136.2.2.2.2.1 bt136.2.2.2.2.2.1 bt136.2.2.2.2.2.2 ([] : List (S62)) 0 (⟨#[98]⟩ : ByteArray) (⟨#[119, 119, 119]⟩ : ByteArray)).bind fun bt159 => ((regis_Free.f bt136.1 bt136.2.1 bt136.2.2.1 bt136.2.2.2.1 bt136.2.2.2.2.1 bt136.2.2.2.2.2.1 bt136.2.2.2.2.2.2 y150 0 (⟨#[98]⟩ : ByteArray) (⟨#[65]⟩ : ByteArray)).bind fun bt161 => ((regis_Full_c.f bt136.1 bt136.2.1 bt136.2.2.1 bt136.2.2.2.1 bt136.2.2.2.2.1 bt136.2.2.2.2.2.1 bt136.2.2.2.2.2.2 (⟨#[112, 99]⟩ : ByteArray)).bind fun t163 => (if t163.toList = ([112, 99, 46, 108, 97, 110] : List UInt8) then ((regis_Full_c.f bt136.1 bt136.2.1 bt136.2.2.1 bt136.2.2.2.1 bt136.2.2.2.2.1 bt136.2.2.2.2.2.1 bt136.2.2.2.2.2.2 (⟨#[120, 46, 112, 99, 46, 108, 97, 110]⟩ : ByteArray)).bind fun t164 => (if t164.toList = ([120, 46, 112, 99, 46, 108, 97, 110] : List UInt8) then ((regis_Full_c.f bt136.1 bt136.2.1 bt136.2.2.1 bt136.2.2.2.1 bt136.2.2.2.2.1 bt136.2.2.2.2.2.1 bt136.2.2.2.2.2.2 (⟨#[97, 46, 98]⟩ : ByteArray)).bind fun t165 => (if t165.toList = ([] : List UInt8) then ((regis_Full_c.f bt136.1 bt136.2.1 bt136.2.2.1 bt136.2.2.2.1 bt136.2.2.2.2.1 bt136.2.2.2.2.2.1 bt136.2.2.2.2.2.2 (⟨#[]⟩ : ByteArray)).bind fun t166 => (if t166.toList = ([] : List UInt8) then (if bt153.1 = true then (none) else ((pinfoldlaw0_Num.f bt153.2).bind fun t167 => (if t167 = 0 then (if bt155.1 = true then ((pinfoldlaw0_Num.f bt155.2).bind fun t168 => (if t168 = 0 then (if bt157.1 = true then ((pinfoldlaw0_Num.f bt157.2).bind fun t169 => (if t169 = 0 then (if bt159.1 = true then (none) else ((pinfoldlaw0_Num.f bt159.2).bind fun t170 => (if t170 = 0 then ((pinfoldlaw0_Num.f bt161.2).bind fun t171 => (some (t171 == 1600))) else (none)))) else (none))) else (none)) else (none))) else (none)) else (none)))) else (none))) else (none))) else (none))) else (none)))))))))) = some r := h
  clear h
  replace H := Option.bind_eq_some_iff.mp H
  obtain ⟨⟨t136, t137, t138, t141, t144, t145, t146⟩, A10, H⟩ := H
  replace H : ((some (([(⟨10, 2, (⟨#[97]⟩ : ByteArray), 9, (⟨#[112, 99]⟩ : ByteArray), true⟩ : S62)] : List (S62)) : List (S62))).bind fun y150 => ((regis_Free.f t136 t137 t138 t141 t144 t145 t146 y150 0 (⟨#[98]⟩ : ByteArray) (⟨#[112, 99, 46, 108, 97, 110]⟩ : ByteArray)).bind fun bt153 => ((regis_Free.f t136 t137 t138 t141 t144 t145 t146 y150 0 (⟨#[97]⟩ : ByteArray) (⟨#[112, 99]⟩ : ByteArray)).bind fun bt155 => ((regis_Free.f t136 t137 t138 t141 t144 t145 t146 y150 9 (⟨#[98]⟩ : ByteArray) (⟨#[112, 99]⟩ : ByteArray)).bind fun bt157 => ((regis_Free.f t136 t137 t138 t141 t144 t145 t146 ([] : List (S62)) 0 (⟨#[98]⟩ : ByteArray) (⟨#[119, 119, 119]⟩ : ByteArray)).bind fun bt159 => ((regis_Free.f t136 t137 t138 t141 t144 t145 t146 y150 0 (⟨#[98]⟩ : ByteArray) (⟨#[65]⟩ : ByteArray)).bind fun bt161 => ((regis_Full_c.f t136 t137 t138 t141 t144 t145 t146 (⟨#[112, 99]⟩ : ByteArray)).bind fun t163 => (if t163.toList = ([112, 99, 46, 108, 97, 110] : List UInt8) then ((regis_Full_c.f t136 t137 t138 t141 t144 t145 t146 (⟨#[120, 46, 112, 99, 46, 108, 97, 110]⟩ : ByteArray)).bind fun t164 => (if t164.toList = ([120, 46, 112, 99, 46, 108, 97, 110] : List UInt8) then ((regis_Full_c.f t136 t137 t138 t141 t144 t145 t146 (⟨#[97, 46, 98]⟩ : ByteArray)).bind fun t165 => (if t165.toList = ([] : List UInt8) then ((regis_Full_c.f t136 t137 t138 t141 t144 t145 t146 (⟨#[]⟩ : ByteArray)).bind fun t166 => (if t166.toList = ([] : List UInt8) then (if bt153.1 = true then (none) else ((pinfoldlaw0_Num.f bt153.2).bind fun t167 => (if t167 = 0 then (if bt155.1 = true then ((pinfoldlaw0_Num.f bt155.2).bind fun t168 => (if t168 = 0 then (if bt157.1 = true then ((pinfoldlaw0_Num.f bt157.2).bind fun t169 => (if t169 = 0 then (if bt159.1 = true then (none) else ((pinfoldlaw0_Num.f bt159.2).bind fun t170 => (if t170 = 0 then ((pinfoldlaw0_Num.f bt161.2).bind fun t171 => (some (t171 == 1600))) else (none)))) else (none))) else (none)) else (none))) else (none)) else (none)))) else (none))) else (none))) else (none))) else (none))))))))) = some r := H
  have A1 := Aside0.mk A10
  clear A10
  obtain ⟨y150, hy150⟩ : ∃ y_ : List (S62), y_ = (([(⟨10, 2, (⟨#[97]⟩ : ByteArray), 9, (⟨#[112, 99]⟩ : ByteArray), true⟩ : S62)] : List (S62))) := ⟨_, rfl⟩
  replace H : ((regis_Free.f t136 t137 t138 t141 t144 t145 t146 y150 0 (⟨#[98]⟩ : ByteArray) (⟨#[112, 99, 46, 108, 97, 110]⟩ : ByteArray)).bind fun bt153 => ((regis_Free.f t136 t137 t138 t141 t144 t145 t146 y150 0 (⟨#[97]⟩ : ByteArray) (⟨#[112, 99]⟩ : ByteArray)).bind fun bt155 => ((regis_Free.f t136 t137 t138 t141 t144 t145 t146 y150 9 (⟨#[98]⟩ : ByteArray) (⟨#[112, 99]⟩ : ByteArray)).bind fun bt157 => ((regis_Free.f t136 t137 t138 t141 t144 t145 t146 ([] : List (S62)) 0 (⟨#[98]⟩ : ByteArray) (⟨#[119, 119, 119]⟩ : ByteArray)).bind fun bt159 => ((regis_Free.f t136 t137 t138 t141 t144 t145 t146 y150 0 (⟨#[98]⟩ : ByteArray) (⟨#[65]⟩ : ByteArray)).bind fun bt161 => ((regis_Full_c.f t136 t137 t138 t141 t144 t145 t146 (⟨#[112, 99]⟩ : ByteArray)).bind fun t163 => (if t163.toList = ([112, 99, 46, 108, 97, 110] : List UInt8) then ((regis_Full_c.f t136 t137 t138 t141 t144 t145 t146 (⟨#[120, 46, 112, 99, 46, 108, 97, 110]⟩ : ByteArray)).bind fun t164 => (if t164.toList = ([120, 46, 112, 99, 46, 108, 97, 110] : List UInt8) then ((regis_Full_c.f t136 t137 t138 t141 t144 t145 t146 (⟨#[97, 46, 98]⟩ : ByteArray)).bind fun t165 => (if t165.toList = ([] : List UInt8) then ((regis_Full_c.f t136 t137 t138 t141 t144 t145 t146 (⟨#[]⟩ : ByteArray)).bind fun t166 => (if t166.toList = ([] : List UInt8) then (if bt153.1 = true then (none) else ((pinfoldlaw0_Num.f bt153.2).bind fun t167 => (if t167 = 0 then (if bt155.1 = true then ((pinfoldlaw0_Num.f bt155.2).bind fun t168 => (if t168 = 0 then (if bt157.1 = true then ((pinfoldlaw0_Num.f bt157.2).bind fun t169 => (if t169 = 0 then (if bt159.1 = true then (none) else ((pinfoldlaw0_Num.f bt159.2).bind fun t170 => (if t170 = 0 then ((pinfoldlaw0_Num.f bt161.2).bind fun t171 => (some (t171 == 1600))) else (none)))) else (none))) else (none)) else (none))) else (none)) else (none)))) else (none))) else (none))) else (none))) else (none)))))))) = some r := by first | (rw [hy150]; with_reducible exact H) | (have H2_ := (Option.bind_some _ _).symm.trans H; rw [hy150]; with_reducible exact H2_) | (have H2_ := (Option.bind_some _ _).symm.trans H; with_reducible exact H2_) | with_reducible exact H | (rw [hy150]; exact H) | exact H
  have Ny150 := Aside0.mk hy150
  clear hy150
  replace H := Option.bind_eq_some_iff.mp H
  obtain ⟨⟨t153, t154⟩, A20, H⟩ := H
  replace H : ((regis_Free.f t136 t137 t138 t141 t144 t145 t146 y150 0 (⟨#[97]⟩ : ByteArray) (⟨#[112, 99]⟩ : ByteArray)).bind fun bt155 => ((regis_Free.f t136 t137 t138 t141 t144 t145 t146 y150 9 (⟨#[98]⟩ : ByteArray) (⟨#[112, 99]⟩ : ByteArray)).bind fun bt157 => ((regis_Free.f t136 t137 t138 t141 t144 t145 t146 ([] : List (S62)) 0 (⟨#[98]⟩ : ByteArray) (⟨#[119, 119, 119]⟩ : ByteArray)).bind fun bt159 => ((regis_Free.f t136 t137 t138 t141 t144 t145 t146 y150 0 (⟨#[98]⟩ : ByteArray) (⟨#[65]⟩ : ByteArray)).bind fun bt161 => ((regis_Full_c.f t136 t137 t138 t141 t144 t145 t146 (⟨#[112, 99]⟩ : ByteArray)).bind fun t163 => (if t163.toList = ([112, 99, 46, 108, 97, 110] : List UInt8) then ((regis_Full_c.f t136 t137 t138 t141 t144 t145 t146 (⟨#[120, 46, 112, 99, 46, 108, 97, 110]⟩ : ByteArray)).bind fun t164 => (if t164.toList = ([120, 46, 112, 99, 46, 108, 97, 110] : List UInt8) then ((regis_Full_c.f t136 t137 t138 t141 t144 t145 t146 (⟨#[97, 46, 98]⟩ : ByteArray)).bind fun t165 => (if t165.toList = ([] : List UInt8) then ((regis_Full_c.f t136 t137 t138 t141 t144 t145 t146 (⟨#[]⟩ : ByteArray)).bind fun t166 => (if t166.toList = ([] : List UInt8) then (if t153 = true then (none) else ((pinfoldlaw0_Num.f t154).bind fun t167 => (if t167 = 0 then (if bt155.1 = true then ((pinfoldlaw0_Num.f bt155.2).bind fun t168 => (if t168 = 0 then (if bt157.1 = true then ((pinfoldlaw0_Num.f bt157.2).bind fun t169 => (if t169 = 0 then (if bt159.1 = true then (none) else ((pinfoldlaw0_Num.f bt159.2).bind fun t170 => (if t170 = 0 then ((pinfoldlaw0_Num.f bt161.2).bind fun t171 => (some (t171 == 1600))) else (none)))) else (none))) else (none)) else (none))) else (none)) else (none)))) else (none))) else (none))) else (none))) else (none))))))) = some r := H
  have A2 := Aside0.mk A20
  clear A20
  replace H := Option.bind_eq_some_iff.mp H
  obtain ⟨⟨t155, t156⟩, A30, H⟩ := H
  replace H : ((regis_Free.f t136 t137 t138 t141 t144 t145 t146 y150 9 (⟨#[98]⟩ : ByteArray) (⟨#[112, 99]⟩ : ByteArray)).bind fun bt157 => ((regis_Free.f t136 t137 t138 t141 t144 t145 t146 ([] : List (S62)) 0 (⟨#[98]⟩ : ByteArray) (⟨#[119, 119, 119]⟩ : ByteArray)).bind fun bt159 => ((regis_Free.f t136 t137 t138 t141 t144 t145 t146 y150 0 (⟨#[98]⟩ : ByteArray) (⟨#[65]⟩ : ByteArray)).bind fun bt161 => ((regis_Full_c.f t136 t137 t138 t141 t144 t145 t146 (⟨#[112, 99]⟩ : ByteArray)).bind fun t163 => (if t163.toList = ([112, 99, 46, 108, 97, 110] : List UInt8) then ((regis_Full_c.f t136 t137 t138 t141 t144 t145 t146 (⟨#[120, 46, 112, 99, 46, 108, 97, 110]⟩ : ByteArray)).bind fun t164 => (if t164.toList = ([120, 46, 112, 99, 46, 108, 97, 110] : List UInt8) then ((regis_Full_c.f t136 t137 t138 t141 t144 t145 t146 (⟨#[97, 46, 98]⟩ : ByteArray)).bind fun t165 => (if t165.toList = ([] : List UInt8) then ((regis_Full_c.f t136 t137 t138 t141 t144 t145 t146 (⟨#[]⟩ : ByteArray)).bind fun t166 => (if t166.toList = ([] : List UInt8) then (if t153 = true then (none) else ((pinfoldlaw0_Num.f t154).bind fun t167 => (if t167 = 0 then (if t155 = true then ((pinfoldlaw0_Num.f t156).bind fun t168 => (if t168 = 0 then (if bt157.1 = true then ((pinfoldlaw0_Num.f bt157.2).bind fun t169 => (if t169 = 0 then (if bt159.1 = true then (none) else ((pinfoldlaw0_Num.f bt159.2).bind fun t170 => (if t170 = 0 then ((pinfoldlaw0_Num.f bt161.2).bind fun t171 => (some (t171 == 1600))) else (none)))) else (none))) else (none)) else (none))) else (none)) else (none)))) else (none))) else (none))) else (none))) else (none)))))) = some r := H
  have A3 := Aside0.mk A30
  clear A30
  replace H := Option.bind_eq_some_iff.mp H
  obtain ⟨⟨t157, t158⟩, A40, H⟩ := H
  replace H : ((regis_Free.f t136 t137 t138 t141 t144 t145 t146 ([] : List (S62)) 0 (⟨#[98]⟩ : ByteArray) (⟨#[119, 119, 119]⟩ : ByteArray)).bind fun bt159 => ((regis_Free.f t136 t137 t138 t141 t144 t145 t146 y150 0 (⟨#[98]⟩ : ByteArray) (⟨#[65]⟩ : ByteArray)).bind fun bt161 => ((regis_Full_c.f t136 t137 t138 t141 t144 t145 t146 (⟨#[112, 99]⟩ : ByteArray)).bind fun t163 => (if t163.toList = ([112, 99, 46, 108, 97, 110] : List UInt8) then ((regis_Full_c.f t136 t137 t138 t141 t144 t145 t146 (⟨#[120, 46, 112, 99, 46, 108, 97, 110]⟩ : ByteArray)).bind fun t164 => (if t164.toList = ([120, 46, 112, 99, 46, 108, 97, 110] : List UInt8) then ((regis_Full_c.f t136 t137 t138 t141 t144 t145 t146 (⟨#[97, 46, 98]⟩ : ByteArray)).bind fun t165 => (if t165.toList = ([] : List UInt8) then ((regis_Full_c.f t136 t137 t138 t141 t144 t145 t146 (⟨#[]⟩ : ByteArray)).bind fun t166 => (if t166.toList = ([] : List UInt8) then (if t153 = true then (none) else ((pinfoldlaw0_Num.f t154).bind fun t167 => (if t167 = 0 then (if t155 = true then ((pinfoldlaw0_Num.f t156).bind fun t168 => (if t168 = 0 then (if t157 = true then ((pinfoldlaw0_Num.f t158).bind fun t169 => (if t169 = 0 then (if bt159.1 = true then (none) else ((pinfoldlaw0_Num.f bt159.2).bind fun t170 => (if t170 = 0 then ((pinfoldlaw0_Num.f bt161.2).bind fun t171 => (some (t171 == 1600))) else (none)))) else (none))) else (none)) else (none))) else (none)) else (none)))) else (none))) else (none))) else (none))) else (none))))) = some r := H
  have A4 := Aside0.mk A40
  clear A40
  replace H := Option.bind_eq_some_iff.mp H
  obtain ⟨⟨t159, t160⟩, A50, H⟩ := H
  replace H : ((regis_Free.f t136 t137 t138 t141 t144 t145 t146 y150 0 (⟨#[98]⟩ : ByteArray) (⟨#[65]⟩ : ByteArray)).bind fun bt161 => ((regis_Full_c.f t136 t137 t138 t141 t144 t145 t146 (⟨#[112, 99]⟩ : ByteArray)).bind fun t163 => (if t163.toList = ([112, 99, 46, 108, 97, 110] : List UInt8) then ((regis_Full_c.f t136 t137 t138 t141 t144 t145 t146 (⟨#[120, 46, 112, 99, 46, 108, 97, 110]⟩ : ByteArray)).bind fun t164 => (if t164.toList = ([120, 46, 112, 99, 46, 108, 97, 110] : List UInt8) then ((regis_Full_c.f t136 t137 t138 t141 t144 t145 t146 (⟨#[97, 46, 98]⟩ : ByteArray)).bind fun t165 => (if t165.toList = ([] : List UInt8) then ((regis_Full_c.f t136 t137 t138 t141 t144 t145 t146 (⟨#[]⟩ : ByteArray)).bind fun t166 => (if t166.toList = ([] : List UInt8) then (if t153 = true then (none) else ((pinfoldlaw0_Num.f t154).bind fun t167 => (if t167 = 0 then (if t155 = true then ((pinfoldlaw0_Num.f t156).bind fun t168 => (if t168 = 0 then (if t157 = true then ((pinfoldlaw0_Num.f t158).bind fun t169 => (if t169 = 0 then (if t159 = true then (none) else ((pinfoldlaw0_Num.f t160).bind fun t170 => (if t170 = 0 then ((pinfoldlaw0_Num.f bt161.2).bind fun t171 => (some (t171 == 1600))) else (none)))) else (none))) else (none)) else (none))) else (none)) else (none)))) else (none))) else (none))) else (none))) else (none)))) = some r := H
  have A5 := Aside0.mk A50
  clear A50
  replace H := Option.bind_eq_some_iff.mp H
  obtain ⟨⟨t161, t162⟩, A60, H⟩ := H
  replace H : ((regis_Full_c.f t136 t137 t138 t141 t144 t145 t146 (⟨#[112, 99]⟩ : ByteArray)).bind fun t163 => (if t163.toList = ([112, 99, 46, 108, 97, 110] : List UInt8) then ((regis_Full_c.f t136 t137 t138 t141 t144 t145 t146 (⟨#[120, 46, 112, 99, 46, 108, 97, 110]⟩ : ByteArray)).bind fun t164 => (if t164.toList = ([120, 46, 112, 99, 46, 108, 97, 110] : List UInt8) then ((regis_Full_c.f t136 t137 t138 t141 t144 t145 t146 (⟨#[97, 46, 98]⟩ : ByteArray)).bind fun t165 => (if t165.toList = ([] : List UInt8) then ((regis_Full_c.f t136 t137 t138 t141 t144 t145 t146 (⟨#[]⟩ : ByteArray)).bind fun t166 => (if t166.toList = ([] : List UInt8) then (if t153 = true then (none) else ((pinfoldlaw0_Num.f t154).bind fun t167 => (if t167 = 0 then (if t155 = true then ((pinfoldlaw0_Num.f t156).bind fun t168 => (if t168 = 0 then (if t157 = true then ((pinfoldlaw0_Num.f t158).bind fun t169 => (if t169 = 0 then (if t159 = true then (none) else ((pinfoldlaw0_Num.f t160).bind fun t170 => (if t170 = 0 then ((pinfoldlaw0_Num.f t162).bind fun t171 => (some (t171 == 1600))) else (none)))) else (none))) else (none)) else (none))) else (none)) else (none)))) else (none))) else (none))) else (none))) else (none))) = some r := H
  have A6 := Aside0.mk A60
  clear A60
  replace H := Option.bind_eq_some_iff.mp H
  obtain ⟨t163, A70, H⟩ := H
  replace H : (if t163.toList = ([112, 99, 46, 108, 97, 110] : List UInt8) then ((regis_Full_c.f t136 t137 t138 t141 t144 t145 t146 (⟨#[120, 46, 112, 99, 46, 108, 97, 110]⟩ : ByteArray)).bind fun t164 => (if t164.toList = ([120, 46, 112, 99, 46, 108, 97, 110] : List UInt8) then ((regis_Full_c.f t136 t137 t138 t141 t144 t145 t146 (⟨#[97, 46, 98]⟩ : ByteArray)).bind fun t165 => (if t165.toList = ([] : List UInt8) then ((regis_Full_c.f t136 t137 t138 t141 t144 t145 t146 (⟨#[]⟩ : ByteArray)).bind fun t166 => (if t166.toList = ([] : List UInt8) then (if t153 = true then (none) else ((pinfoldlaw0_Num.f t154).bind fun t167 => (if t167 = 0 then (if t155 = true then ((pinfoldlaw0_Num.f t156).bind fun t168 => (if t168 = 0 then (if t157 = true then ((pinfoldlaw0_Num.f t158).bind fun t169 => (if t169 = 0 then (if t159 = true then (none) else ((pinfoldlaw0_Num.f t160).bind fun t170 => (if t170 = 0 then ((pinfoldlaw0_Num.f t162).bind fun t171 => (some (t171 == 1600))) else (none)))) else (none))) else (none)) else (none))) else (none)) else (none)))) else (none))) else (none))) else (none))) else (none)) = some r := H
  have A7 := Aside0.mk A70
  clear A70
  by_cases c8 : t163.toList = ([112, 99, 46, 108, 97, 110] : List UInt8)
  rotate_left
  · rw [if_neg c8] at H
    exact absurd H (by simp)
  rw [if_pos c8] at H
  have c8b0 : (t163.toList == ([112, 99, 46, 108, 97, 110] : List UInt8)) = true := beq_iff_eq.mpr c8
  have c8b1 : (t163.toList != ([112, 99, 46, 108, 97, 110] : List UInt8)) = false := bne_eq_false_iff_eq.mpr c8
  clear c8
  replace H := Option.bind_eq_some_iff.mp H
  obtain ⟨t164, A90, H⟩ := H
  replace H : (if t164.toList = ([120, 46, 112, 99, 46, 108, 97, 110] : List UInt8) then ((regis_Full_c.f t136 t137 t138 t141 t144 t145 t146 (⟨#[97, 46, 98]⟩ : ByteArray)).bind fun t165 => (if t165.toList = ([] : List UInt8) then ((regis_Full_c.f t136 t137 t138 t141 t144 t145 t146 (⟨#[]⟩ : ByteArray)).bind fun t166 => (if t166.toList = ([] : List UInt8) then (if t153 = true then (none) else ((pinfoldlaw0_Num.f t154).bind fun t167 => (if t167 = 0 then (if t155 = true then ((pinfoldlaw0_Num.f t156).bind fun t168 => (if t168 = 0 then (if t157 = true then ((pinfoldlaw0_Num.f t158).bind fun t169 => (if t169 = 0 then (if t159 = true then (none) else ((pinfoldlaw0_Num.f t160).bind fun t170 => (if t170 = 0 then ((pinfoldlaw0_Num.f t162).bind fun t171 => (some (t171 == 1600))) else (none)))) else (none))) else (none)) else (none))) else (none)) else (none)))) else (none))) else (none))) else (none)) = some r := H
  have A9 := Aside0.mk A90
  clear A90
  by_cases c10 : t164.toList = ([120, 46, 112, 99, 46, 108, 97, 110] : List UInt8)
  rotate_left
  · rw [if_neg c10] at H
    exact absurd H (by simp)
  rw [if_pos c10] at H
  have c10b0 : (t164.toList == ([120, 46, 112, 99, 46, 108, 97, 110] : List UInt8)) = true := beq_iff_eq.mpr c10
  have c10b1 : (t164.toList != ([120, 46, 112, 99, 46, 108, 97, 110] : List UInt8)) = false := bne_eq_false_iff_eq.mpr c10
  clear c10
  replace H := Option.bind_eq_some_iff.mp H
  obtain ⟨t165, A110, H⟩ := H
  replace H : (if t165.toList = ([] : List UInt8) then ((regis_Full_c.f t136 t137 t138 t141 t144 t145 t146 (⟨#[]⟩ : ByteArray)).bind fun t166 => (if t166.toList = ([] : List UInt8) then (if t153 = true then (none) else ((pinfoldlaw0_Num.f t154).bind fun t167 => (if t167 = 0 then (if t155 = true then ((pinfoldlaw0_Num.f t156).bind fun t168 => (if t168 = 0 then (if t157 = true then ((pinfoldlaw0_Num.f t158).bind fun t169 => (if t169 = 0 then (if t159 = true then (none) else ((pinfoldlaw0_Num.f t160).bind fun t170 => (if t170 = 0 then ((pinfoldlaw0_Num.f t162).bind fun t171 => (some (t171 == 1600))) else (none)))) else (none))) else (none)) else (none))) else (none)) else (none)))) else (none))) else (none)) = some r := H
  have A11 := Aside0.mk A110
  clear A110
  by_cases c12 : t165.toList = ([] : List UInt8)
  rotate_left
  · rw [if_neg c12] at H
    exact absurd H (by simp)
  rw [if_pos c12] at H
  have c12b0 : (t165.toList == ([] : List UInt8)) = true := beq_iff_eq.mpr c12
  have c12b1 : (t165.toList != ([] : List UInt8)) = false := bne_eq_false_iff_eq.mpr c12
  clear c12
  replace H := Option.bind_eq_some_iff.mp H
  obtain ⟨t166, A130, H⟩ := H
  replace H : (if t166.toList = ([] : List UInt8) then (if t153 = true then (none) else ((pinfoldlaw0_Num.f t154).bind fun t167 => (if t167 = 0 then (if t155 = true then ((pinfoldlaw0_Num.f t156).bind fun t168 => (if t168 = 0 then (if t157 = true then ((pinfoldlaw0_Num.f t158).bind fun t169 => (if t169 = 0 then (if t159 = true then (none) else ((pinfoldlaw0_Num.f t160).bind fun t170 => (if t170 = 0 then ((pinfoldlaw0_Num.f t162).bind fun t171 => (some (t171 == 1600))) else (none)))) else (none))) else (none)) else (none))) else (none)) else (none)))) else (none)) = some r := H
  have A13 := Aside0.mk A130
  clear A130
  by_cases c14 : t166.toList = ([] : List UInt8)
  rotate_left
  · rw [if_neg c14] at H
    exact absurd H (by simp)
  rw [if_pos c14] at H
  have c14b0 : (t166.toList == ([] : List UInt8)) = true := beq_iff_eq.mpr c14
  have c14b1 : (t166.toList != ([] : List UInt8)) = false := bne_eq_false_iff_eq.mpr c14
  clear c14
  by_cases c15 : t153 = true
  · subst c15
    have H1 : (none) = some r := by rw [if_pos rfl] at H; exact H
    clear H
    have H := H1
    clear H1
    exact absurd H (by simp)
  replace c15 := Bool.eq_false_iff.mpr c15
  subst c15
  have H1 : ((pinfoldlaw0_Num.f t154).bind fun t167 => (if t167 = 0 then (if t155 = true then ((pinfoldlaw0_Num.f t156).bind fun t168 => (if t168 = 0 then (if t157 = true then ((pinfoldlaw0_Num.f t158).bind fun t169 => (if t169 = 0 then (if t159 = true then (none) else ((pinfoldlaw0_Num.f t160).bind fun t170 => (if t170 = 0 then ((pinfoldlaw0_Num.f t162).bind fun t171 => (some (t171 == 1600))) else (none)))) else (none))) else (none)) else (none))) else (none)) else (none))) = some r := by rw [if_neg (show ¬ (false = true) by decide)] at H; exact H
  clear H
  have H := H1
  clear H1
  replace H := Option.bind_eq_some_iff.mp H
  obtain ⟨t167, A160, H⟩ := H
  replace H : (if t167 = 0 then (if t155 = true then ((pinfoldlaw0_Num.f t156).bind fun t168 => (if t168 = 0 then (if t157 = true then ((pinfoldlaw0_Num.f t158).bind fun t169 => (if t169 = 0 then (if t159 = true then (none) else ((pinfoldlaw0_Num.f t160).bind fun t170 => (if t170 = 0 then ((pinfoldlaw0_Num.f t162).bind fun t171 => (some (t171 == 1600))) else (none)))) else (none))) else (none)) else (none))) else (none)) else (none)) = some r := H
  have A16 := Aside0.mk A160
  clear A160
  by_cases c17 : t167 = 0
  rotate_left
  · rw [if_neg c17] at H
    exact absurd H (by simp)
  rw [if_pos c17] at H
  have c17b0 : (t167 == 0) = true := beq_iff_eq.mpr c17
  have c17b1 : (t167 != 0) = false := bne_eq_false_iff_eq.mpr c17
  clear c17
  by_cases c18 : t155 = true
  · subst c18
    have H1 : ((pinfoldlaw0_Num.f t156).bind fun t168 => (if t168 = 0 then (if t157 = true then ((pinfoldlaw0_Num.f t158).bind fun t169 => (if t169 = 0 then (if t159 = true then (none) else ((pinfoldlaw0_Num.f t160).bind fun t170 => (if t170 = 0 then ((pinfoldlaw0_Num.f t162).bind fun t171 => (some (t171 == 1600))) else (none)))) else (none))) else (none)) else (none))) = some r := by rw [if_pos rfl] at H; exact H
    clear H
    have H := H1
    clear H1
    replace H := Option.bind_eq_some_iff.mp H
    obtain ⟨t168, A190, H⟩ := H
    replace H : (if t168 = 0 then (if t157 = true then ((pinfoldlaw0_Num.f t158).bind fun t169 => (if t169 = 0 then (if t159 = true then (none) else ((pinfoldlaw0_Num.f t160).bind fun t170 => (if t170 = 0 then ((pinfoldlaw0_Num.f t162).bind fun t171 => (some (t171 == 1600))) else (none)))) else (none))) else (none)) else (none)) = some r := H
    have A19 := Aside0.mk A190
    clear A190
    by_cases c20 : t168 = 0
    rotate_left
    · rw [if_neg c20] at H
      exact absurd H (by simp)
    rw [if_pos c20] at H
    have c20b0 : (t168 == 0) = true := beq_iff_eq.mpr c20
    have c20b1 : (t168 != 0) = false := bne_eq_false_iff_eq.mpr c20
    clear c20
    by_cases c21 : t157 = true
    · subst c21
      have H1 : ((pinfoldlaw0_Num.f t158).bind fun t169 => (if t169 = 0 then (if t159 = true then (none) else ((pinfoldlaw0_Num.f t160).bind fun t170 => (if t170 = 0 then ((pinfoldlaw0_Num.f t162).bind fun t171 => (some (t171 == 1600))) else (none)))) else (none))) = some r := by rw [if_pos rfl] at H; exact H
      clear H
      have H := H1
      clear H1
      replace H := Option.bind_eq_some_iff.mp H
      obtain ⟨t169, A220, H⟩ := H
      replace H : (if t169 = 0 then (if t159 = true then (none) else ((pinfoldlaw0_Num.f t160).bind fun t170 => (if t170 = 0 then ((pinfoldlaw0_Num.f t162).bind fun t171 => (some (t171 == 1600))) else (none)))) else (none)) = some r := H
      have A22 := Aside0.mk A220
      clear A220
      by_cases c23 : t169 = 0
      rotate_left
      · rw [if_neg c23] at H
        exact absurd H (by simp)
      rw [if_pos c23] at H
      have c23b0 : (t169 == 0) = true := beq_iff_eq.mpr c23
      have c23b1 : (t169 != 0) = false := bne_eq_false_iff_eq.mpr c23
      clear c23
      by_cases c24 : t159 = true
      · subst c24
        have H1 : (none) = some r := by rw [if_pos rfl] at H; exact H
        clear H
        have H := H1
        clear H1
        exact absurd H (by simp)
      replace c24 := Bool.eq_false_iff.mpr c24
      subst c24
      have H1 : ((pinfoldlaw0_Num.f t160).bind fun t170 => (if t170 = 0 then ((pinfoldlaw0_Num.f t162).bind fun t171 => (some (t171 == 1600))) else (none))) = some r := by rw [if_neg (show ¬ (false = true) by decide)] at H; exact H
      clear H
      have H := H1
      clear H1
      replace H := Option.bind_eq_some_iff.mp H
      obtain ⟨t170, A250, H⟩ := H
      replace H : (if t170 = 0 then ((pinfoldlaw0_Num.f t162).bind fun t171 => (some (t171 == 1600))) else (none)) = some r := H
      have A25 := Aside0.mk A250
      clear A250
      by_cases c26 : t170 = 0
      rotate_left
      · rw [if_neg c26] at H
        exact absurd H (by simp)
      rw [if_pos c26] at H
      have c26b0 : (t170 == 0) = true := beq_iff_eq.mpr c26
      have c26b1 : (t170 != 0) = false := bne_eq_false_iff_eq.mpr c26
      clear c26
      replace H := Option.bind_eq_some_iff.mp H
      obtain ⟨t171, A270, H⟩ := H
      replace H : (some (t171 == 1600)) = some r := H
      have A27 := Aside0.mk A270
      clear A270
      obtain rfl := Option.some.inj H
      go_enter Tryd.func36, Tryd.ntmps36
      go_wp2_with (first | ((with_reducible refine gate_callee (f := 37) rfl ?_); refine goesL_ (some 13) rfl rfl Tryd.func37 (by kernel_rfl) rfl #[] rfl (by (try simp only [List.map_toArray, List.map_cons, List.map_nil]); first | done | rfl | (simp only [List.length_drop, List.length_take]; rfl)) ?_; (with_reducible refine (pinfoldlaw16_given.calls  t136 t137 t138 t141 t144 t145 t146 _ A1.out).mono ?_); rintro e w28 ⟨v139, v142, v147, rfl, ho0, ho1, ho2, hb⟩; refine ⟨_, rfl, ?_⟩; have n0_ := Aside0.mk (Kd.R_lower ho0 (below_size (by repeat (with_reducible first | exact HB.out | apply below_alloc | apply pw_below_drewN | apply below_drew1)))); have n1_ := Aside0.mk (Kd.R_lower ho1 (below_size (by repeat (with_reducible first | exact HB.out | apply below_alloc | apply pw_below_drewN | apply below_drew1)))); have n2_ := Aside0.mk (Kd.R_lower ho2 (below_size (by repeat (with_reducible first | exact HB.out | apply below_alloc | apply pw_below_drewN | apply below_drew1)))); have n3_ := Aside0.mk (below_step (by repeat (with_reducible first | exact HB.out | apply below_alloc | apply pw_below_drewN | apply below_drew1)) hb); clear HB; have HO140 := n0_; have HO143 := n1_; have HO148 := n2_; have HB := n3_; clear n0_ n1_ n2_ n3_; (try clear hb); (try clear ho0); (try clear ho1); (try clear ho2)) | ((with_reducible refine gate_dst (N := 1) rfl ?_); refine box_event ?hg (N := 1) ?hd (cs := #[.int .i64 0, .int .i64 0, .slice none 0 0, .slice none 0 0, .int .i64 0, .string (⟨#[]⟩ : ByteArray), .slice none 0 0]) (t := 26) ?hr ?_; (case hd => rfl); (case hg => rfl); (case hr => first | (go_simp; done) | (go_simp; rfl)); intro gb149 hg w29 hbox hb; have n0_ := Aside0.mk (Kd.R_below (by (with_reducible repeat (first | apply Kd.R_alloc | apply Kd.R_drewN | apply Kd.R_drew)); exact HO140.out) hb); have n1_ := Aside0.mk (Kd.R_below (by (with_reducible repeat (first | apply Kd.R_alloc | apply Kd.R_drewN | apply Kd.R_drew)); exact HO143.out) hb); have n2_ := Aside0.mk (Kd.R_below (by (with_reducible repeat (first | apply Kd.R_alloc | apply Kd.R_drewN | apply Kd.R_drew)); exact HO148.out) hb); have n3_ := Aside0.mk (below_step (by repeat (with_reducible first | exact HB.out | apply below_alloc | apply pw_below_drewN | apply below_drew1)) hb); have n4_ := Aside0.mk (hbox); have n5_ := Aside0.mk ((by rw [hg]; exact (below_size (by repeat (with_reducible first | exact HB.out | apply below_alloc | apply pw_below_drewN | apply below_drew1))) : w.heap.size ≤ gb149)); have n6_ := Aside0.mk ((by rw [hg]; exact (below_size (by repeat (with_reducible first | exact HB.out | apply below_alloc | apply pw_below_drewN | apply below_drew1))) : w.heap.size ≤ gb149)); clear HO140; clear HO143; clear HO148; clear HB; have HO140 := n0_; have HO143 := n1_; have HO148 := n2_; have HB := n3_; have BK149 := n4_; have GW149 := n5_; have GE149 := n6_; clear n0_ n1_ n2_ n3_ n4_ n5_ n6_; clear hb hbox hg; have hcz30_0 : w29.cell? ⟨gb149, 0, none⟩ = some (.int .i64 0) := (blk_cell BK149.out 0).trans rfl; have hcz30_1 : w29.cell? ⟨gb149, 1, none⟩ = some (.int .i64 0) := (blk_cell BK149.out 1).trans rfl; have hcz30_2 : w29.cell? ⟨gb149, 2, none⟩ = some (.slice none 0 0) := (blk_cell BK149.out 2).trans rfl; have hcz30_3 : w29.cell? ⟨gb149, 3, none⟩ = some (.slice none 0 0) := (blk_cell BK149.out 3).trans rfl; have hcz30_4 : w29.cell? ⟨gb149, 4, none⟩ = some (.int .i64 0) := (blk_cell BK149.out 4).trans rfl; have hcz30_5 : w29.cell? ⟨gb149, 5, none⟩ = some (.string (⟨#[]⟩ : ByteArray)) := (blk_cell BK149.out 5).trans rfl; have hcz30_6 : w29.cell? ⟨gb149, 6, none⟩ = some (.slice none 0 0) := (blk_cell BK149.out 6).trans rfl; have hfz30_0 := blk_frozen BK149.out 0; have hfz30_1 := blk_frozen BK149.out 1; have hfz30_2 := blk_frozen BK149.out 2; have hfz30_3 := blk_frozen BK149.out 3; have hfz30_4 := blk_frozen BK149.out 4; have hfz30_5 := blk_frozen BK149.out 5; have hfz30_6 := blk_frozen BK149.out 6; obtain ⟨Ao31, co31, eo31⟩ := Kd.R_slice HO140.out; subst eo31; obtain ⟨Ao32, co32, eo32⟩ := Kd.R_slice HO143.out; subst eo32; obtain ⟨Ao33, co33, eo33⟩ := Kd.R_slice HO148.out; subst eo33) | ((with_reducible refine gate_dst (N := 15) rfl ?_); refine Kd.R_lit k62 _ 62 ?hg (N := 15) ?hd (xs := ([(⟨10, 2, (⟨#[97]⟩ : ByteArray), 9, (⟨#[112, 99]⟩ : ByteArray), true⟩ : S62)] : List (S62))) (inner := [.int .i64 10, .int .i64 2, .string (⟨#[97]⟩ : ByteArray), .int .i64 9, .string (⟨#[112, 99]⟩ : ByteArray), .bool true]) (ok := fun _ => True) (okp := fun _ => True) ?hr ?hp (fun _ hk => hk) trivial (Below.refl _ _) (Nat.le_refl _) (by simp) ?_; (case hd => rfl); (case hg => rfl); (case hr => first | (go_simp; done) | (go_simp; rfl)); (case hp => exact (Reps.c6 (show Kd.M k62 _ _ _ (⟨10, 2, (⟨#[97]⟩ : ByteArray), 9, (⟨#[112, 99]⟩ : ByteArray), true⟩ : S62) [.int .i64 10, .int .i64 2, .string (⟨#[97]⟩ : ByteArray), .int .i64 9, .string (⟨#[112, 99]⟩ : ByteArray), .bool true] from (k62_mkM _ _ _ (⟨10, 2, (⟨#[97]⟩ : ByteArray), 9, (⟨#[112, 99]⟩ : ByteArray), true⟩ : S62) )) (Reps.none _ _))); intro v151 w34 ho35 hb hg_ hnew_; clear hg_ hnew_; (first | rw [← Ny150.out] at ho35 | (simp only [Int.reduceToNat] at ho35; rw [← Ny150.out] at ho35)); have n0_ := Aside0.mk (Kd.R_below (by (with_reducible repeat (first | apply Kd.R_alloc | apply Kd.R_drewN | apply Kd.R_drew)); exact (Kd.R_mono (Kd.R_far (p := ⟨gb149, 6, none⟩) (Kd.R_far (p := ⟨gb149, 5, none⟩) (Kd.R_far (p := ⟨gb149, 4, none⟩) (Kd.R_far (p := ⟨gb149, 3, none⟩) (Kd.R_far (p := ⟨gb149, 2, none⟩) (Kd.R_far (p := ⟨gb149, 1, none⟩) (Kd.R_far (p := ⟨gb149, 0, none⟩) (Kd.R_types HO140.out BK149.out (by decide)) (fun _ hk => hk.2) (.int .i64 t136)) (fun _ hk => hk.2) (.int .i64 t137)) (fun _ hk => hk.2) (.slice Ao31 t138.length co31)) (fun _ hk => hk.2) (.slice Ao32 t141.length co32)) (fun _ hk => hk.2) (.int .i64 t144)) (fun _ hk => hk.2) (.string t145)) (fun _ hk => hk.2) (.slice Ao33 t146.length co33)) (fun _ h_ => h_.1))) hb); have n1_ := Aside0.mk (Kd.R_below (by (with_reducible repeat (first | apply Kd.R_alloc | apply Kd.R_drewN | apply Kd.R_drew)); exact (Kd.R_mono (Kd.R_far (p := ⟨gb149, 6, none⟩) (Kd.R_far (p := ⟨gb149, 5, none⟩) (Kd.R_far (p := ⟨gb149, 4, none⟩) (Kd.R_far (p := ⟨gb149, 3, none⟩) (Kd.R_far (p := ⟨gb149, 2, none⟩) (Kd.R_far (p := ⟨gb149, 1, none⟩) (Kd.R_far (p := ⟨gb149, 0, none⟩) (Kd.R_types HO143.out BK149.out (by decide)) (fun _ hk => hk.2) (.int .i64 t136)) (fun _ hk => hk.2) (.int .i64 t137)) (fun _ hk => hk.2) (.slice Ao31 t138.length co31)) (fun _ hk => hk.2) (.slice Ao32 t141.length co32)) (fun _ hk => hk.2) (.int .i64 t144)) (fun _ hk => hk.2) (.string t145)) (fun _ hk => hk.2) (.slice Ao33 t146.length co33)) (fun _ h_ => h_.1))) hb); have n2_ := Aside0.mk (Kd.R_below (by (with_reducible repeat (first | apply Kd.R_alloc | apply Kd.R_drewN | apply Kd.R_drew)); exact (Kd.R_mono (Kd.R_far (p := ⟨gb149, 6, none⟩) (Kd.R_far (p := ⟨gb149, 5, none⟩) (Kd.R_far (p := ⟨gb149, 4, none⟩) (Kd.R_far (p := ⟨gb149, 3, none⟩) (Kd.R_far (p := ⟨gb149, 2, none⟩) (Kd.R_far (p := ⟨gb149, 1, none⟩) (Kd.R_far (p := ⟨gb149, 0, none⟩) (Kd.R_types HO148.out BK149.out (by decide)) (fun _ hk => hk.2) (.int .i64 t136)) (fun _ hk => hk.2) (.int .i64 t137)) (fun _ hk => hk.2) (.slice Ao31 t138.length co31)) (fun _ hk => hk.2) (.slice Ao32 t141.length co32)) (fun _ hk => hk.2) (.int .i64 t144)) (fun _ hk => hk.2) (.string t145)) (fun _ hk => hk.2) (.slice Ao33 t146.length co33)) (fun _ h_ => h_.1))) hb); have n3_ := Aside0.mk (Kd.R_lower ho35 (below_size (by repeat (with_reducible first | exact HB.out | apply below_alloc | apply pw_below_drewN | apply below_drew1 | refine below_set ?_ GE149.out)))); have n4_ := Aside0.mk (blk_below (g := gb149) (o := .cells #[.int .i64 t136, .int .i64 t137, .slice Ao31 t138.length co31, .slice Ao32 t141.length co32, .int .i64 t144, .string t145, .slice Ao33 t146.length co33] 26 (0, 0)) (by (with_reducible repeat (first | refine blk_drewN ?_ _ | refine blk_drew ?_ | refine blk_alloc ?_ _)); refine blk_put (cs := #[.int .i64 t136, .int .i64 t137, .slice Ao31 t138.length co31, .slice Ao32 t141.length co32, .int .i64 t144, .string t145, .slice none 0 0]) ?_ 6 _ rfl; (with_reducible repeat (first | refine blk_drewN ?_ _ | refine blk_drew ?_ | refine blk_alloc ?_ _)); refine blk_put (cs := #[.int .i64 t136, .int .i64 t137, .slice Ao31 t138.length co31, .slice Ao32 t141.length co32, .int .i64 t144, .string (⟨#[]⟩ : ByteArray), .slice none 0 0]) ?_ 5 _ rfl; (with_reducible repeat (first | refine blk_drewN ?_ _ | refine blk_drew ?_ | refine blk_alloc ?_ _)); refine blk_put (cs := #[.int .i64 t136, .int .i64 t137, .slice Ao31 t138.length co31, .slice Ao32 t141.length co32, .int .i64 0, .string (⟨#[]⟩ : ByteArray), .slice none 0 0]) ?_ 4 _ rfl; (with_reducible repeat (first | refine blk_drewN ?_ _ | refine blk_drew ?_ | refine blk_alloc ?_ _)); refine blk_put (cs := #[.int .i64 t136, .int .i64 t137, .slice Ao31 t138.length co31, .slice none 0 0, .int .i64 0, .string (⟨#[]⟩ : ByteArray), .slice none 0 0]) ?_ 3 _ rfl; (with_reducible repeat (first | refine blk_drewN ?_ _ | refine blk_drew ?_ | refine blk_alloc ?_ _)); refine blk_put (cs := #[.int .i64 t136, .int .i64 t137, .slice none 0 0, .slice none 0 0, .int .i64 0, .string (⟨#[]⟩ : ByteArray), .slice none 0 0]) ?_ 2 _ rfl; (with_reducible repeat (first | refine blk_drewN ?_ _ | refine blk_drew ?_ | refine blk_alloc ?_ _)); refine blk_put (cs := #[.int .i64 t136, .int .i64 0, .slice none 0 0, .slice none 0 0, .int .i64 0, .string (⟨#[]⟩ : ByteArray), .slice none 0 0]) ?_ 1 _ rfl; (with_reducible repeat (first | refine blk_drewN ?_ _ | refine blk_drew ?_ | refine blk_alloc ?_ _)); refine blk_put (cs := #[.int .i64 0, .int .i64 0, .slice none 0 0, .slice none 0 0, .int .i64 0, .string (⟨#[]⟩ : ByteArray), .slice none 0 0]) ?_ 0 _ rfl; (with_reducible repeat (first | refine blk_drewN ?_ _ | refine blk_drew ?_ | refine blk_alloc ?_ _)); exact BK149.out) hb); have n5_ := Aside0.mk (below_step (by repeat (with_reducible first | exact HB.out | apply below_alloc | apply pw_below_drewN | apply below_drew1 | refine below_set ?_ GE149.out)) hb); clear HO140; clear HO143; clear HO148; clear BK149; clear HB; have HO140 := n0_; have HO143 := n1_; have HO148 := n2_; have HO152 := n3_; have BK149 := n4_; have HB := n5_; clear n0_ n1_ n2_ n3_ n4_ n5_; clear hb ho35; have hcz36_0 : w34.cell? ⟨gb149, 0, none⟩ = some (.int .i64 t136) := (blk_cell BK149.out 0).trans rfl; have hcz36_1 : w34.cell? ⟨gb149, 1, none⟩ = some (.int .i64 t137) := (blk_cell BK149.out 1).trans rfl; have hcz36_2 : w34.cell? ⟨gb149, 2, none⟩ = some (.slice Ao31 t138.length co31) := (blk_cell BK149.out 2).trans rfl; have hcz36_3 : w34.cell? ⟨gb149, 3, none⟩ = some (.slice Ao32 t141.length co32) := (blk_cell BK149.out 3).trans rfl; have hcz36_4 : w34.cell? ⟨gb149, 4, none⟩ = some (.int .i64 t144) := (blk_cell BK149.out 4).trans rfl; have hcz36_5 : w34.cell? ⟨gb149, 5, none⟩ = some (.string t145) := (blk_cell BK149.out 5).trans rfl; have hcz36_6 : w34.cell? ⟨gb149, 6, none⟩ = some (.slice Ao33 t146.length co33) := (blk_cell BK149.out 6).trans rfl; have hfz36_0 := blk_frozen BK149.out 0; have hfz36_1 := blk_frozen BK149.out 1; have hfz36_2 := blk_frozen BK149.out 2; have hfz36_3 := blk_frozen BK149.out 3; have hfz36_4 := blk_frozen BK149.out 4; have hfz36_5 := blk_frozen BK149.out 5; have hfz36_6 := blk_frozen BK149.out 6; obtain ⟨Ao37, co37, eo37⟩ := Kd.R_slice HO152.out; subst eo37) | ((with_reducible refine gate_callee (f := 31) rfl ?_); refine goesL_ (some 19) rfl rfl Tryd.func31 (by kernel_rfl) rfl #[.agg #[.int .i64 t136, .int .i64 t137, .slice Ao31 t138.length co31, .slice Ao32 t141.length co32, .int .i64 t144, .string t145, .slice Ao33 t146.length co33], .slice Ao37 y150.length co37, .int .i64 0, .string (⟨#[98]⟩ : ByteArray), .string (⟨#[112, 99, 46, 108, 97, 110]⟩ : ByteArray)] rfl (by (try simp only [List.map_toArray, List.map_cons, List.map_nil]); first | done | rfl | (simp only [List.length_drop, List.length_take]; rfl)) ?_; (with_reducible refine (regis_Free.calls t136 t137 _ _ t138 _ _ t141 t144 t145 _ _ t146 _ _ y150 0 (⟨#[98]⟩ : ByteArray) (⟨#[112, 99, 46, 108, 97, 110]⟩ : ByteArray) false t154 _ ?side1 ?side2 ?side3 ?side4 ?side5 ?side6 ?side7 ?side8 A2.out).mono ?_); (case side1 => repeat (first | exact (Kd.R_reads' HO140.out).2.2 | (with_reducible refine Kd.C_alloc ?_ _) | (with_reducible refine Kd.C_drewN ?_ _) | (with_reducible refine Kd.C_drew ?_))); (case side2 => exact (Kd.R_reads' HO140.out).2.1); (case side3 => repeat (first | exact (Kd.R_reads' HO143.out).2.2 | (with_reducible refine Kd.C_alloc ?_ _) | (with_reducible refine Kd.C_drewN ?_ _) | (with_reducible refine Kd.C_drew ?_))); (case side4 => exact (Kd.R_reads' HO143.out).2.1); (case side5 => repeat (first | exact (Kd.R_reads' HO148.out).2.2 | (with_reducible refine Kd.C_alloc ?_ _) | (with_reducible refine Kd.C_drewN ?_ _) | (with_reducible refine Kd.C_drew ?_))); (case side6 => exact (Kd.R_reads' HO148.out).2.1); (case side7 => repeat (first | exact (Kd.R_reads' HO152.out).2.2 | (with_reducible refine Kd.C_alloc ?_ _) | (with_reducible refine Kd.C_drewN ?_ _) | (with_reducible refine Kd.C_drew ?_))); (case side8 => exact (Kd.R_reads' HO152.out).2.1); rintro e w38 ⟨rfl, hb⟩; refine ⟨_, rfl, ?_⟩; have n0_ := Aside0.mk (Kd.R_below (by (with_reducible repeat (first | apply Kd.R_alloc | apply Kd.R_drewN | apply Kd.R_drew)); exact HO140.out) hb); have n1_ := Aside0.mk (Kd.R_below (by (with_reducible repeat (first | apply Kd.R_alloc | apply Kd.R_drewN | apply Kd.R_drew)); exact HO143.out) hb); have n2_ := Aside0.mk (Kd.R_below (by (with_reducible repeat (first | apply Kd.R_alloc | apply Kd.R_drewN | apply Kd.R_drew)); exact HO148.out) hb); have n3_ := Aside0.mk (Kd.R_below (by (with_reducible repeat (first | apply Kd.R_alloc | apply Kd.R_drewN | apply Kd.R_drew)); exact HO152.out) hb); have n4_ := Aside0.mk (blk_below (g := gb149) (o := .cells #[.int .i64 t136, .int .i64 t137, .slice Ao31 t138.length co31, .slice Ao32 t141.length co32, .int .i64 t144, .string t145, .slice Ao33 t146.length co33] 26 (0, 0)) (by (with_reducible repeat (first | refine blk_drewN ?_ _ | refine blk_drew ?_ | refine blk_alloc ?_ _)); exact BK149.out) hb); have n5_ := Aside0.mk (below_step (by repeat (with_reducible first | exact HB.out | apply below_alloc | apply pw_below_drewN | apply below_drew1 | refine below_set ?_ GE149.out)) hb); clear HO140; clear HO143; clear HO148; clear HO152; clear BK149; clear HB; have HO140 := n0_; have HO143 := n1_; have HO148 := n2_; have HO152 := n3_; have BK149 := n4_; have HB := n5_; clear n0_ n1_ n2_ n3_ n4_ n5_; (try clear hb); have hcz39_0 : w38.cell? ⟨gb149, 0, none⟩ = some (.int .i64 t136) := (blk_cell BK149.out 0).trans rfl; have hcz39_1 : w38.cell? ⟨gb149, 1, none⟩ = some (.int .i64 t137) := (blk_cell BK149.out 1).trans rfl; have hcz39_2 : w38.cell? ⟨gb149, 2, none⟩ = some (.slice Ao31 t138.length co31) := (blk_cell BK149.out 2).trans rfl; have hcz39_3 : w38.cell? ⟨gb149, 3, none⟩ = some (.slice Ao32 t141.length co32) := (blk_cell BK149.out 3).trans rfl; have hcz39_4 : w38.cell? ⟨gb149, 4, none⟩ = some (.int .i64 t144) := (blk_cell BK149.out 4).trans rfl; have hcz39_5 : w38.cell? ⟨gb149, 5, none⟩ = some (.string t145) := (blk_cell BK149.out 5).trans rfl; have hcz39_6 : w38.cell? ⟨gb149, 6, none⟩ = some (.slice Ao33 t146.length co33) := (blk_cell BK149.out 6).trans rfl; have hfz39_0 := blk_frozen BK149.out 0; have hfz39_1 := blk_frozen BK149.out 1; have hfz39_2 := blk_frozen BK149.out 2; have hfz39_3 := blk_frozen BK149.out 3; have hfz39_4 := blk_frozen BK149.out 4; have hfz39_5 := blk_frozen BK149.out 5; have hfz39_6 := blk_frozen BK149.out 6) | ((with_reducible refine gate_callee (f := 31) rfl ?_); refine goesL_ (some 25) rfl rfl Tryd.func31 (by kernel_rfl) rfl #[.agg #[.int .i64 t136, .int .i64 t137, .slice Ao31 t138.length co31, .slice Ao32 t141.length co32, .int .i64 t144, .string t145, .slice Ao33 t146.length co33], .slice Ao37 y150.length co37, .int .i64 0, .string (⟨#[97]⟩ : ByteArray), .string (⟨#[112, 99]⟩ : ByteArray)] rfl (by (try simp only [List.map_toArray, List.map_cons, List.map_nil]); first | done | rfl | (simp only [List.length_drop, List.length_take]; rfl)) ?_; (with_reducible refine (regis_Free.calls t136 t137 _ _ t138 _ _ t141 t144 t145 _ _ t146 _ _ y150 0 (⟨#[97]⟩ : ByteArray) (⟨#[112, 99]⟩ : ByteArray) true t156 _ ?side1 ?side2 ?side3 ?side4 ?side5 ?side6 ?side7 ?side8 A3.out).mono ?_); (case side1 => repeat (first | exact (Kd.R_reads' HO140.out).2.2 | (with_reducible refine Kd.C_alloc ?_ _) | (with_reducible refine Kd.C_drewN ?_ _) | (with_reducible refine Kd.C_drew ?_))); (case side2 => exact (Kd.R_reads' HO140.out).2.1); (case side3 => repeat (first | exact (Kd.R_reads' HO143.out).2.2 | (with_reducible refine Kd.C_alloc ?_ _) | (with_reducible refine Kd.C_drewN ?_ _) | (with_reducible refine Kd.C_drew ?_))); (case side4 => exact (Kd.R_reads' HO143.out).2.1); (case side5 => repeat (first | exact (Kd.R_reads' HO148.out).2.2 | (with_reducible refine Kd.C_alloc ?_ _) | (with_reducible refine Kd.C_drewN ?_ _) | (with_reducible refine Kd.C_drew ?_))); (case side6 => exact (Kd.R_reads' HO148.out).2.1); (case side7 => repeat (first | exact (Kd.R_reads' HO152.out).2.2 | (with_reducible refine Kd.C_alloc ?_ _) | (with_reducible refine Kd.C_drewN ?_ _) | (with_reducible refine Kd.C_drew ?_))); (case side8 => exact (Kd.R_reads' HO152.out).2.1); rintro e w40 ⟨rfl, hb⟩; refine ⟨_, rfl, ?_⟩; have n0_ := Aside0.mk (Kd.R_below (by (with_reducible repeat (first | apply Kd.R_alloc | apply Kd.R_drewN | apply Kd.R_drew)); exact HO140.out) hb); have n1_ := Aside0.mk (Kd.R_below (by (with_reducible repeat (first | apply Kd.R_alloc | apply Kd.R_drewN | apply Kd.R_drew)); exact HO143.out) hb); have n2_ := Aside0.mk (Kd.R_below (by (with_reducible repeat (first | apply Kd.R_alloc | apply Kd.R_drewN | apply Kd.R_drew)); exact HO148.out) hb); have n3_ := Aside0.mk (Kd.R_below (by (with_reducible repeat (first | apply Kd.R_alloc | apply Kd.R_drewN | apply Kd.R_drew)); exact HO152.out) hb); have n4_ := Aside0.mk (blk_below (g := gb149) (o := .cells #[.int .i64 t136, .int .i64 t137, .slice Ao31 t138.length co31, .slice Ao32 t141.length co32, .int .i64 t144, .string t145, .slice Ao33 t146.length co33] 26 (0, 0)) (by (with_reducible repeat (first | refine blk_drewN ?_ _ | refine blk_drew ?_ | refine blk_alloc ?_ _)); exact BK149.out) hb); have n5_ := Aside0.mk (below_step (by repeat (with_reducible first | exact HB.out | apply below_alloc | apply pw_below_drewN | apply below_drew1 | refine below_set ?_ GE149.out)) hb); clear HO140; clear HO143; clear HO148; clear HO152; clear BK149; clear HB; have HO140 := n0_; have HO143 := n1_; have HO148 := n2_; have HO152 := n3_; have BK149 := n4_; have HB := n5_; clear n0_ n1_ n2_ n3_ n4_ n5_; (try clear hb); have hcz41_0 : w40.cell? ⟨gb149, 0, none⟩ = some (.int .i64 t136) := (blk_cell BK149.out 0).trans rfl; have hcz41_1 : w40.cell? ⟨gb149, 1, none⟩ = some (.int .i64 t137) := (blk_cell BK149.out 1).trans rfl; have hcz41_2 : w40.cell? ⟨gb149, 2, none⟩ = some (.slice Ao31 t138.length co31) := (blk_cell BK149.out 2).trans rfl; have hcz41_3 : w40.cell? ⟨gb149, 3, none⟩ = some (.slice Ao32 t141.length co32) := (blk_cell BK149.out 3).trans rfl; have hcz41_4 : w40.cell? ⟨gb149, 4, none⟩ = some (.int .i64 t144) := (blk_cell BK149.out 4).trans rfl; have hcz41_5 : w40.cell? ⟨gb149, 5, none⟩ = some (.string t145) := (blk_cell BK149.out 5).trans rfl; have hcz41_6 : w40.cell? ⟨gb149, 6, none⟩ = some (.slice Ao33 t146.length co33) := (blk_cell BK149.out 6).trans rfl; have hfz41_0 := blk_frozen BK149.out 0; have hfz41_1 := blk_frozen BK149.out 1; have hfz41_2 := blk_frozen BK149.out 2; have hfz41_3 := blk_frozen BK149.out 3; have hfz41_4 := blk_frozen BK149.out 4; have hfz41_5 := blk_frozen BK149.out 5; have hfz41_6 := blk_frozen BK149.out 6) | ((with_reducible refine gate_callee (f := 31) rfl ?_); refine goesL_ (some 31) rfl rfl Tryd.func31 (by kernel_rfl) rfl #[.agg #[.int .i64 t136, .int .i64 t137, .slice Ao31 t138.length co31, .slice Ao32 t141.length co32, .int .i64 t144, .string t145, .slice Ao33 t146.length co33], .slice Ao37 y150.length co37, .int .i64 9, .string (⟨#[98]⟩ : ByteArray), .string (⟨#[112, 99]⟩ : ByteArray)] rfl (by (try simp only [List.map_toArray, List.map_cons, List.map_nil]); first | done | rfl | (simp only [List.length_drop, List.length_take]; rfl)) ?_; (with_reducible refine (regis_Free.calls t136 t137 _ _ t138 _ _ t141 t144 t145 _ _ t146 _ _ y150 9 (⟨#[98]⟩ : ByteArray) (⟨#[112, 99]⟩ : ByteArray) true t158 _ ?side1 ?side2 ?side3 ?side4 ?side5 ?side6 ?side7 ?side8 A4.out).mono ?_); (case side1 => repeat (first | exact (Kd.R_reads' HO140.out).2.2 | (with_reducible refine Kd.C_alloc ?_ _) | (with_reducible refine Kd.C_drewN ?_ _) | (with_reducible refine Kd.C_drew ?_))); (case side2 => exact (Kd.R_reads' HO140.out).2.1); (case side3 => repeat (first | exact (Kd.R_reads' HO143.out).2.2 | (with_reducible refine Kd.C_alloc ?_ _) | (with_reducible refine Kd.C_drewN ?_ _) | (with_reducible refine Kd.C_drew ?_))); (case side4 => exact (Kd.R_reads' HO143.out).2.1); (case side5 => repeat (first | exact (Kd.R_reads' HO148.out).2.2 | (with_reducible refine Kd.C_alloc ?_ _) | (with_reducible refine Kd.C_drewN ?_ _) | (with_reducible refine Kd.C_drew ?_))); (case side6 => exact (Kd.R_reads' HO148.out).2.1); (case side7 => repeat (first | exact (Kd.R_reads' HO152.out).2.2 | (with_reducible refine Kd.C_alloc ?_ _) | (with_reducible refine Kd.C_drewN ?_ _) | (with_reducible refine Kd.C_drew ?_))); (case side8 => exact (Kd.R_reads' HO152.out).2.1); rintro e w42 ⟨rfl, hb⟩; refine ⟨_, rfl, ?_⟩; have n0_ := Aside0.mk (Kd.R_below (by (with_reducible repeat (first | apply Kd.R_alloc | apply Kd.R_drewN | apply Kd.R_drew)); exact HO140.out) hb); have n1_ := Aside0.mk (Kd.R_below (by (with_reducible repeat (first | apply Kd.R_alloc | apply Kd.R_drewN | apply Kd.R_drew)); exact HO143.out) hb); have n2_ := Aside0.mk (Kd.R_below (by (with_reducible repeat (first | apply Kd.R_alloc | apply Kd.R_drewN | apply Kd.R_drew)); exact HO148.out) hb); have n3_ := Aside0.mk (Kd.R_below (by (with_reducible repeat (first | apply Kd.R_alloc | apply Kd.R_drewN | apply Kd.R_drew)); exact HO152.out) hb); have n4_ := Aside0.mk (blk_below (g := gb149) (o := .cells #[.int .i64 t136, .int .i64 t137, .slice Ao31 t138.length co31, .slice Ao32 t141.length co32, .int .i64 t144, .string t145, .slice Ao33 t146.length co33] 26 (0, 0)) (by (with_reducible repeat (first | refine blk_drewN ?_ _ | refine blk_drew ?_ | refine blk_alloc ?_ _)); exact BK149.out) hb); have n5_ := Aside0.mk (below_step (by repeat (with_reducible first | exact HB.out | apply below_alloc | apply pw_below_drewN | apply below_drew1 | refine below_set ?_ GE149.out)) hb); clear HO140; clear HO143; clear HO148; clear HO152; clear BK149; clear HB; have HO140 := n0_; have HO143 := n1_; have HO148 := n2_; have HO152 := n3_; have BK149 := n4_; have HB := n5_; clear n0_ n1_ n2_ n3_ n4_ n5_; (try clear hb); have hcz43_0 : w42.cell? ⟨gb149, 0, none⟩ = some (.int .i64 t136) := (blk_cell BK149.out 0).trans rfl; have hcz43_1 : w42.cell? ⟨gb149, 1, none⟩ = some (.int .i64 t137) := (blk_cell BK149.out 1).trans rfl; have hcz43_2 : w42.cell? ⟨gb149, 2, none⟩ = some (.slice Ao31 t138.length co31) := (blk_cell BK149.out 2).trans rfl; have hcz43_3 : w42.cell? ⟨gb149, 3, none⟩ = some (.slice Ao32 t141.length co32) := (blk_cell BK149.out 3).trans rfl; have hcz43_4 : w42.cell? ⟨gb149, 4, none⟩ = some (.int .i64 t144) := (blk_cell BK149.out 4).trans rfl; have hcz43_5 : w42.cell? ⟨gb149, 5, none⟩ = some (.string t145) := (blk_cell BK149.out 5).trans rfl; have hcz43_6 : w42.cell? ⟨gb149, 6, none⟩ = some (.slice Ao33 t146.length co33) := (blk_cell BK149.out 6).trans rfl; have hfz43_0 := blk_frozen BK149.out 0; have hfz43_1 := blk_frozen BK149.out 1; have hfz43_2 := blk_frozen BK149.out 2; have hfz43_3 := blk_frozen BK149.out 3; have hfz43_4 := blk_frozen BK149.out 4; have hfz43_5 := blk_frozen BK149.out 5; have hfz43_6 := blk_frozen BK149.out 6) | ((with_reducible refine gate_callee (f := 31) rfl ?_); refine goesL_ (some 36) rfl rfl Tryd.func31 (by kernel_rfl) rfl #[.agg #[.int .i64 t136, .int .i64 t137, .slice Ao31 t138.length co31, .slice Ao32 t141.length co32, .int .i64 t144, .string t145, .slice Ao33 t146.length co33], .slice none 0 0, .int .i64 0, .string (⟨#[98]⟩ : ByteArray), .string (⟨#[119, 119, 119]⟩ : ByteArray)] rfl (by (try simp only [List.map_toArray, List.map_cons, List.map_nil]); first | done | rfl | (simp only [List.length_drop, List.length_take]; rfl)) ?_; (refine (regis_Free.calls t136 t137 _ _ t138 _ _ t141 t144 t145 _ _ t146 _ _ ([] : List (S62)) 0 (⟨#[98]⟩ : ByteArray) (⟨#[119, 119, 119]⟩ : ByteArray) false t160 _ ?side1 ?side2 ?side3 ?side4 ?side5 ?side6 ?side7 ?side8 A5.out).mono ?_); (case side1 => repeat (first | exact (Kd.R_reads' HO140.out).2.2 | (with_reducible refine Kd.C_alloc ?_ _) | (with_reducible refine Kd.C_drewN ?_ _) | (with_reducible refine Kd.C_drew ?_))); (case side2 => exact (Kd.R_reads' HO140.out).2.1); (case side3 => repeat (first | exact (Kd.R_reads' HO143.out).2.2 | (with_reducible refine Kd.C_alloc ?_ _) | (with_reducible refine Kd.C_drewN ?_ _) | (with_reducible refine Kd.C_drew ?_))); (case side4 => exact (Kd.R_reads' HO143.out).2.1); (case side5 => repeat (first | exact (Kd.R_reads' HO148.out).2.2 | (with_reducible refine Kd.C_alloc ?_ _) | (with_reducible refine Kd.C_drewN ?_ _) | (with_reducible refine Kd.C_drew ?_))); (case side6 => exact (Kd.R_reads' HO148.out).2.1); (case side7 => exact Kd.C_nil _ _); (case side8 => exact Nat.le_refl _); rintro e w44 ⟨rfl, hb⟩; refine ⟨_, rfl, ?_⟩; have n0_ := Aside0.mk (Kd.R_below (by (with_reducible repeat (first | apply Kd.R_alloc | apply Kd.R_drewN | apply Kd.R_drew)); exact HO140.out) hb); have n1_ := Aside0.mk (Kd.R_below (by (with_reducible repeat (first | apply Kd.R_alloc | apply Kd.R_drewN | apply Kd.R_drew)); exact HO143.out) hb); have n2_ := Aside0.mk (Kd.R_below (by (with_reducible repeat (first | apply Kd.R_alloc | apply Kd.R_drewN | apply Kd.R_drew)); exact HO148.out) hb); have n3_ := Aside0.mk (Kd.R_below (by (with_reducible repeat (first | apply Kd.R_alloc | apply Kd.R_drewN | apply Kd.R_drew)); exact HO152.out) hb); have n4_ := Aside0.mk (blk_below (g := gb149) (o := .cells #[.int .i64 t136, .int .i64 t137, .slice Ao31 t138.length co31, .slice Ao32 t141.length co32, .int .i64 t144, .string t145, .slice Ao33 t146.length co33] 26 (0, 0)) (by (with_reducible repeat (first | refine blk_drewN ?_ _ | refine blk_drew ?_ | refine blk_alloc ?_ _)); exact BK149.out) hb); have n5_ := Aside0.mk (below_step (by repeat (with_reducible first | exact HB.out | apply below_alloc | apply pw_below_drewN | apply below_drew1 | refine below_set ?_ GE149.out)) hb); clear HO140; clear HO143; clear HO148; clear HO152; clear BK149; clear HB; have HO140 := n0_; have HO143 := n1_; have HO148 := n2_; have HO152 := n3_; have BK149 := n4_; have HB := n5_; clear n0_ n1_ n2_ n3_ n4_ n5_; (try clear hb); have hcz45_0 : w44.cell? ⟨gb149, 0, none⟩ = some (.int .i64 t136) := (blk_cell BK149.out 0).trans rfl; have hcz45_1 : w44.cell? ⟨gb149, 1, none⟩ = some (.int .i64 t137) := (blk_cell BK149.out 1).trans rfl; have hcz45_2 : w44.cell? ⟨gb149, 2, none⟩ = some (.slice Ao31 t138.length co31) := (blk_cell BK149.out 2).trans rfl; have hcz45_3 : w44.cell? ⟨gb149, 3, none⟩ = some (.slice Ao32 t141.length co32) := (blk_cell BK149.out 3).trans rfl; have hcz45_4 : w44.cell? ⟨gb149, 4, none⟩ = some (.int .i64 t144) := (blk_cell BK149.out 4).trans rfl; have hcz45_5 : w44.cell? ⟨gb149, 5, none⟩ = some (.string t145) := (blk_cell BK149.out 5).trans rfl; have hcz45_6 : w44.cell? ⟨gb149, 6, none⟩ = some (.slice Ao33 t146.length co33) := (blk_cell BK149.out 6).trans rfl; have hfz45_0 := blk_frozen BK149.out 0; have hfz45_1 := blk_frozen BK149.out 1; have hfz45_2 := blk_frozen BK149.out 2; have hfz45_3 := blk_frozen BK149.out 3; have hfz45_4 := blk_frozen BK149.out 4; have hfz45_5 := blk_frozen BK149.out 5; have hfz45_6 := blk_frozen BK149.out 6) | ((with_reducible refine gate_callee (f := 31) rfl ?_); refine goesL_ (some 42) rfl rfl Tryd.func31 (by kernel_rfl) rfl #[.agg #[.int .i64 t136, .int .i64 t137, .slice Ao31 t138.length co31, .slice Ao32 t141.length co32, .int .i64 t144, .string t145, .slice Ao33 t146.length co33], .slice Ao37 y150.length co37, .int .i64 0, .string (⟨#[98]⟩ : ByteArray), .string (⟨#[65]⟩ : ByteArray)] rfl (by (try simp only [List.map_toArray, List.map_cons, List.map_nil]); first | done | rfl | (simp only [List.length_drop, List.length_take]; rfl)) ?_; (with_reducible refine (regis_Free.calls t136 t137 _ _ t138 _ _ t141 t144 t145 _ _ t146 _ _ y150 0 (⟨#[98]⟩ : ByteArray) (⟨#[65]⟩ : ByteArray) t161 t162 _ ?side1 ?side2 ?side3 ?side4 ?side5 ?side6 ?side7 ?side8 A6.out).mono ?_); (case side1 => repeat (first | exact (Kd.R_reads' HO140.out).2.2 | (with_reducible refine Kd.C_alloc ?_ _) | (with_reducible refine Kd.C_drewN ?_ _) | (with_reducible refine Kd.C_drew ?_))); (case side2 => exact (Kd.R_reads' HO140.out).2.1); (case side3 => repeat (first | exact (Kd.R_reads' HO143.out).2.2 | (with_reducible refine Kd.C_alloc ?_ _) | (with_reducible refine Kd.C_drewN ?_ _) | (with_reducible refine Kd.C_drew ?_))); (case side4 => exact (Kd.R_reads' HO143.out).2.1); (case side5 => repeat (first | exact (Kd.R_reads' HO148.out).2.2 | (with_reducible refine Kd.C_alloc ?_ _) | (with_reducible refine Kd.C_drewN ?_ _) | (with_reducible refine Kd.C_drew ?_))); (case side6 => exact (Kd.R_reads' HO148.out).2.1); (case side7 => repeat (first | exact (Kd.R_reads' HO152.out).2.2 | (with_reducible refine Kd.C_alloc ?_ _) | (with_reducible refine Kd.C_drewN ?_ _) | (with_reducible refine Kd.C_drew ?_))); (case side8 => exact (Kd.R_reads' HO152.out).2.1); rintro e w46 ⟨rfl, hb⟩; refine ⟨_, rfl, ?_⟩; have n0_ := Aside0.mk (Kd.R_below (by (with_reducible repeat (first | apply Kd.R_alloc | apply Kd.R_drewN | apply Kd.R_drew)); exact HO140.out) hb); have n1_ := Aside0.mk (Kd.R_below (by (with_reducible repeat (first | apply Kd.R_alloc | apply Kd.R_drewN | apply Kd.R_drew)); exact HO143.out) hb); have n2_ := Aside0.mk (Kd.R_below (by (with_reducible repeat (first | apply Kd.R_alloc | apply Kd.R_drewN | apply Kd.R_drew)); exact HO148.out) hb); have n3_ := Aside0.mk (Kd.R_below (by (with_reducible repeat (first | apply Kd.R_alloc | apply Kd.R_drewN | apply Kd.R_drew)); exact HO152.out) hb); have n4_ := Aside0.mk (blk_below (g := gb149) (o := .cells #[.int .i64 t136, .int .i64 t137, .slice Ao31 t138.length co31, .slice Ao32 t141.length co32, .int .i64 t144, .string t145, .slice Ao33 t146.length co33] 26 (0, 0)) (by (with_reducible repeat (first | refine blk_drewN ?_ _ | refine blk_drew ?_ | refine blk_alloc ?_ _)); exact BK149.out) hb); have n5_ := Aside0.mk (below_step (by repeat (with_reducible first | exact HB.out | apply below_alloc | apply pw_below_drewN | apply below_drew1 | refine below_set ?_ GE149.out)) hb); clear HO140; clear HO143; clear HO148; clear HO152; clear BK149; clear HB; have HO140 := n0_; have HO143 := n1_; have HO148 := n2_; have HO152 := n3_; have BK149 := n4_; have HB := n5_; clear n0_ n1_ n2_ n3_ n4_ n5_; (try clear hb); have hcz47_0 : w46.cell? ⟨gb149, 0, none⟩ = some (.int .i64 t136) := (blk_cell BK149.out 0).trans rfl; have hcz47_1 : w46.cell? ⟨gb149, 1, none⟩ = some (.int .i64 t137) := (blk_cell BK149.out 1).trans rfl; have hcz47_2 : w46.cell? ⟨gb149, 2, none⟩ = some (.slice Ao31 t138.length co31) := (blk_cell BK149.out 2).trans rfl; have hcz47_3 : w46.cell? ⟨gb149, 3, none⟩ = some (.slice Ao32 t141.length co32) := (blk_cell BK149.out 3).trans rfl; have hcz47_4 : w46.cell? ⟨gb149, 4, none⟩ = some (.int .i64 t144) := (blk_cell BK149.out 4).trans rfl; have hcz47_5 : w46.cell? ⟨gb149, 5, none⟩ = some (.string t145) := (blk_cell BK149.out 5).trans rfl; have hcz47_6 : w46.cell? ⟨gb149, 6, none⟩ = some (.slice Ao33 t146.length co33) := (blk_cell BK149.out 6).trans rfl; have hfz47_0 := blk_frozen BK149.out 0; have hfz47_1 := blk_frozen BK149.out 1; have hfz47_2 := blk_frozen BK149.out 2; have hfz47_3 := blk_frozen BK149.out 3; have hfz47_4 := blk_frozen BK149.out 4; have hfz47_5 := blk_frozen BK149.out 5; have hfz47_6 := blk_frozen BK149.out 6) | ((with_reducible refine gate_callee (f := 33) rfl ?_); refine goesL_ (some 46) rfl rfl Tryd.func33 (by kernel_rfl) rfl #[.agg #[.int .i64 t136, .int .i64 t137, .slice Ao31 t138.length co31, .slice Ao32 t141.length co32, .int .i64 t144, .string t145, .slice Ao33 t146.length co33], .string (⟨#[112, 99]⟩ : ByteArray)] rfl (by (try simp only [List.map_toArray, List.map_cons, List.map_nil]); first | done | rfl | (simp only [List.length_drop, List.length_take]; rfl)) ?_; (with_reducible refine (regis_Full_c.calls t136 t137 _ _ t138 _ _ t141 t144 t145 _ _ t146 (⟨#[112, 99]⟩ : ByteArray) t163 _ ?side1 ?side2 ?side3 ?side4 ?side5 ?side6 A7.out).mono ?_); (case side1 => repeat (first | exact (Kd.R_reads' HO140.out).2.2 | (with_reducible refine Kd.C_alloc ?_ _) | (with_reducible refine Kd.C_drewN ?_ _) | (with_reducible refine Kd.C_drew ?_))); (case side2 => exact (Kd.R_reads' HO140.out).2.1); (case side3 => repeat (first | exact (Kd.R_reads' HO143.out).2.2 | (with_reducible refine Kd.C_alloc ?_ _) | (with_reducible refine Kd.C_drewN ?_ _) | (with_reducible refine Kd.C_drew ?_))); (case side4 => exact (Kd.R_reads' HO143.out).2.1); (case side5 => repeat (first | exact (Kd.R_reads' HO148.out).2.2 | (with_reducible refine Kd.C_alloc ?_ _) | (with_reducible refine Kd.C_drewN ?_ _) | (with_reducible refine Kd.C_drew ?_))); (case side6 => exact (Kd.R_reads' HO148.out).2.1); rintro e w48 ⟨rfl, hb⟩; refine ⟨_, rfl, ?_⟩; have n0_ := Aside0.mk (Kd.R_below (by (with_reducible repeat (first | apply Kd.R_alloc | apply Kd.R_drewN | apply Kd.R_drew)); exact HO140.out) hb); have n1_ := Aside0.mk (Kd.R_below (by (with_reducible repeat (first | apply Kd.R_alloc | apply Kd.R_drewN | apply Kd.R_drew)); exact HO143.out) hb); have n2_ := Aside0.mk (Kd.R_below (by (with_reducible repeat (first | apply Kd.R_alloc | apply Kd.R_drewN | apply Kd.R_drew)); exact HO148.out) hb); have n3_ := Aside0.mk (Kd.R_below (by (with_reducible repeat (first | apply Kd.R_alloc | apply Kd.R_drewN | apply Kd.R_drew)); exact HO152.out) hb); have n4_ := Aside0.mk (blk_below (g := gb149) (o := .cells #[.int .i64 t136, .int .i64 t137, .slice Ao31 t138.length co31, .slice Ao32 t141.length co32, .int .i64 t144, .string t145, .slice Ao33 t146.length co33] 26 (0, 0)) (by (with_reducible repeat (first | refine blk_drewN ?_ _ | refine blk_drew ?_ | refine blk_alloc ?_ _)); exact BK149.out) hb); have n5_ := Aside0.mk (below_step (by repeat (with_reducible first | exact HB.out | apply below_alloc | apply pw_below_drewN | apply below_drew1 | refine below_set ?_ GE149.out)) hb); clear HO140; clear HO143; clear HO148; clear HO152; clear BK149; clear HB; have HO140 := n0_; have HO143 := n1_; have HO148 := n2_; have HO152 := n3_; have BK149 := n4_; have HB := n5_; clear n0_ n1_ n2_ n3_ n4_ n5_; (try clear hb); have hcz49_0 : w48.cell? ⟨gb149, 0, none⟩ = some (.int .i64 t136) := (blk_cell BK149.out 0).trans rfl; have hcz49_1 : w48.cell? ⟨gb149, 1, none⟩ = some (.int .i64 t137) := (blk_cell BK149.out 1).trans rfl; have hcz49_2 : w48.cell? ⟨gb149, 2, none⟩ = some (.slice Ao31 t138.length co31) := (blk_cell BK149.out 2).trans rfl; have hcz49_3 : w48.cell? ⟨gb149, 3, none⟩ = some (.slice Ao32 t141.length co32) := (blk_cell BK149.out 3).trans rfl; have hcz49_4 : w48.cell? ⟨gb149, 4, none⟩ = some (.int .i64 t144) := (blk_cell BK149.out 4).trans rfl; have hcz49_5 : w48.cell? ⟨gb149, 5, none⟩ = some (.string t145) := (blk_cell BK149.out 5).trans rfl; have hcz49_6 : w48.cell? ⟨gb149, 6, none⟩ = some (.slice Ao33 t146.length co33) := (blk_cell BK149.out 6).trans rfl; have hfz49_0 := blk_frozen BK149.out 0; have hfz49_1 := blk_frozen BK149.out 1; have hfz49_2 := blk_frozen BK149.out 2; have hfz49_3 := blk_frozen BK149.out 3; have hfz49_4 := blk_frozen BK149.out 4; have hfz49_5 := blk_frozen BK149.out 5; have hfz49_6 := blk_frozen BK149.out 6) | (go_at_call 33; (with_reducible refine (regis_Full_c.calls t136 t137 _ _ t138 _ _ t141 t144 t145 _ _ t146 (⟨#[120, 46, 112, 99, 46, 108, 97, 110]⟩ : ByteArray) t164 _ ?side1 ?side2 ?side3 ?side4 ?side5 ?side6 A9.out).mono ?_); (case side1 => repeat (first | exact (Kd.R_reads' HO140.out).2.2 | (with_reducible refine Kd.C_alloc ?_ _) | (with_reducible refine Kd.C_drewN ?_ _) | (with_reducible refine Kd.C_drew ?_))); (case side2 => exact (Kd.R_reads' HO140.out).2.1); (case side3 => repeat (first | exact (Kd.R_reads' HO143.out).2.2 | (with_reducible refine Kd.C_alloc ?_ _) | (with_reducible refine Kd.C_drewN ?_ _) | (with_reducible refine Kd.C_drew ?_))); (case side4 => exact (Kd.R_reads' HO143.out).2.1); (case side5 => repeat (first | exact (Kd.R_reads' HO148.out).2.2 | (with_reducible refine Kd.C_alloc ?_ _) | (with_reducible refine Kd.C_drewN ?_ _) | (with_reducible refine Kd.C_drew ?_))); (case side6 => exact (Kd.R_reads' HO148.out).2.1); rintro e w50 ⟨rfl, hb⟩; have n0_ := Aside0.mk (Kd.R_below (by (with_reducible repeat (first | apply Kd.R_alloc | apply Kd.R_drewN | apply Kd.R_drew)); exact HO140.out) hb); have n1_ := Aside0.mk (Kd.R_below (by (with_reducible repeat (first | apply Kd.R_alloc | apply Kd.R_drewN | apply Kd.R_drew)); exact HO143.out) hb); have n2_ := Aside0.mk (Kd.R_below (by (with_reducible repeat (first | apply Kd.R_alloc | apply Kd.R_drewN | apply Kd.R_drew)); exact HO148.out) hb); have n3_ := Aside0.mk (Kd.R_below (by (with_reducible repeat (first | apply Kd.R_alloc | apply Kd.R_drewN | apply Kd.R_drew)); exact HO152.out) hb); have n4_ := Aside0.mk (blk_below (g := gb149) (o := .cells #[.int .i64 t136, .int .i64 t137, .slice Ao31 t138.length co31, .slice Ao32 t141.length co32, .int .i64 t144, .string t145, .slice Ao33 t146.length co33] 26 (0, 0)) (by (with_reducible repeat (first | refine blk_drewN ?_ _ | refine blk_drew ?_ | refine blk_alloc ?_ _)); exact BK149.out) hb); have n5_ := Aside0.mk (below_step (by repeat (with_reducible first | exact HB.out | apply below_alloc | apply pw_below_drewN | apply below_drew1 | refine below_set ?_ GE149.out)) hb); clear HO140; clear HO143; clear HO148; clear HO152; clear BK149; clear HB; have HO140 := n0_; have HO143 := n1_; have HO148 := n2_; have HO152 := n3_; have BK149 := n4_; have HB := n5_; clear n0_ n1_ n2_ n3_ n4_ n5_; (try clear hb); have hcz51_0 : w50.cell? ⟨gb149, 0, none⟩ = some (.int .i64 t136) := (blk_cell BK149.out 0).trans rfl; have hcz51_1 : w50.cell? ⟨gb149, 1, none⟩ = some (.int .i64 t137) := (blk_cell BK149.out 1).trans rfl; have hcz51_2 : w50.cell? ⟨gb149, 2, none⟩ = some (.slice Ao31 t138.length co31) := (blk_cell BK149.out 2).trans rfl; have hcz51_3 : w50.cell? ⟨gb149, 3, none⟩ = some (.slice Ao32 t141.length co32) := (blk_cell BK149.out 3).trans rfl; have hcz51_4 : w50.cell? ⟨gb149, 4, none⟩ = some (.int .i64 t144) := (blk_cell BK149.out 4).trans rfl; have hcz51_5 : w50.cell? ⟨gb149, 5, none⟩ = some (.string t145) := (blk_cell BK149.out 5).trans rfl; have hcz51_6 : w50.cell? ⟨gb149, 6, none⟩ = some (.slice Ao33 t146.length co33) := (blk_cell BK149.out 6).trans rfl; have hfz51_0 := blk_frozen BK149.out 0; have hfz51_1 := blk_frozen BK149.out 1; have hfz51_2 := blk_frozen BK149.out 2; have hfz51_3 := blk_frozen BK149.out 3; have hfz51_4 := blk_frozen BK149.out 4; have hfz51_5 := blk_frozen BK149.out 5; have hfz51_6 := blk_frozen BK149.out 6) | (go_at_call 33; (with_reducible refine (regis_Full_c.calls t136 t137 _ _ t138 _ _ t141 t144 t145 _ _ t146 (⟨#[97, 46, 98]⟩ : ByteArray) t165 _ ?side1 ?side2 ?side3 ?side4 ?side5 ?side6 A11.out).mono ?_); (case side1 => repeat (first | exact (Kd.R_reads' HO140.out).2.2 | (with_reducible refine Kd.C_alloc ?_ _) | (with_reducible refine Kd.C_drewN ?_ _) | (with_reducible refine Kd.C_drew ?_))); (case side2 => exact (Kd.R_reads' HO140.out).2.1); (case side3 => repeat (first | exact (Kd.R_reads' HO143.out).2.2 | (with_reducible refine Kd.C_alloc ?_ _) | (with_reducible refine Kd.C_drewN ?_ _) | (with_reducible refine Kd.C_drew ?_))); (case side4 => exact (Kd.R_reads' HO143.out).2.1); (case side5 => repeat (first | exact (Kd.R_reads' HO148.out).2.2 | (with_reducible refine Kd.C_alloc ?_ _) | (with_reducible refine Kd.C_drewN ?_ _) | (with_reducible refine Kd.C_drew ?_))); (case side6 => exact (Kd.R_reads' HO148.out).2.1); rintro e w52 ⟨rfl, hb⟩; have n0_ := Aside0.mk (Kd.R_below (by (with_reducible repeat (first | apply Kd.R_alloc | apply Kd.R_drewN | apply Kd.R_drew)); exact HO140.out) hb); have n1_ := Aside0.mk (Kd.R_below (by (with_reducible repeat (first | apply Kd.R_alloc | apply Kd.R_drewN | apply Kd.R_drew)); exact HO143.out) hb); have n2_ := Aside0.mk (Kd.R_below (by (with_reducible repeat (first | apply Kd.R_alloc | apply Kd.R_drewN | apply Kd.R_drew)); exact HO148.out) hb); have n3_ := Aside0.mk (Kd.R_below (by (with_reducible repeat (first | apply Kd.R_alloc | apply Kd.R_drewN | apply Kd.R_drew)); exact HO152.out) hb); have n4_ := Aside0.mk (blk_below (g := gb149) (o := .cells #[.int .i64 t136, .int .i64 t137, .slice Ao31 t138.length co31, .slice Ao32 t141.length co32, .int .i64 t144, .string t145, .slice Ao33 t146.length co33] 26 (0, 0)) (by (with_reducible repeat (first | refine blk_drewN ?_ _ | refine blk_drew ?_ | refine blk_alloc ?_ _)); exact BK149.out) hb); have n5_ := Aside0.mk (below_step (by repeat (with_reducible first | exact HB.out | apply below_alloc | apply pw_below_drewN | apply below_drew1 | refine below_set ?_ GE149.out)) hb); clear HO140; clear HO143; clear HO148; clear HO152; clear BK149; clear HB; have HO140 := n0_; have HO143 := n1_; have HO148 := n2_; have HO152 := n3_; have BK149 := n4_; have HB := n5_; clear n0_ n1_ n2_ n3_ n4_ n5_; (try clear hb); have hcz53_0 : w52.cell? ⟨gb149, 0, none⟩ = some (.int .i64 t136) := (blk_cell BK149.out 0).trans rfl; have hcz53_1 : w52.cell? ⟨gb149, 1, none⟩ = some (.int .i64 t137) := (blk_cell BK149.out 1).trans rfl; have hcz53_2 : w52.cell? ⟨gb149, 2, none⟩ = some (.slice Ao31 t138.length co31) := (blk_cell BK149.out 2).trans rfl; have hcz53_3 : w52.cell? ⟨gb149, 3, none⟩ = some (.slice Ao32 t141.length co32) := (blk_cell BK149.out 3).trans rfl; have hcz53_4 : w52.cell? ⟨gb149, 4, none⟩ = some (.int .i64 t144) := (blk_cell BK149.out 4).trans rfl; have hcz53_5 : w52.cell? ⟨gb149, 5, none⟩ = some (.string t145) := (blk_cell BK149.out 5).trans rfl; have hcz53_6 : w52.cell? ⟨gb149, 6, none⟩ = some (.slice Ao33 t146.length co33) := (blk_cell BK149.out 6).trans rfl; have hfz53_0 := blk_frozen BK149.out 0; have hfz53_1 := blk_frozen BK149.out 1; have hfz53_2 := blk_frozen BK149.out 2; have hfz53_3 := blk_frozen BK149.out 3; have hfz53_4 := blk_frozen BK149.out 4; have hfz53_5 := blk_frozen BK149.out 5; have hfz53_6 := blk_frozen BK149.out 6) | (go_at_call 33; (with_reducible refine (regis_Full_c.calls t136 t137 _ _ t138 _ _ t141 t144 t145 _ _ t146 (⟨#[]⟩ : ByteArray) t166 _ ?side1 ?side2 ?side3 ?side4 ?side5 ?side6 A13.out).mono ?_); (case side1 => repeat (first | exact (Kd.R_reads' HO140.out).2.2 | (with_reducible refine Kd.C_alloc ?_ _) | (with_reducible refine Kd.C_drewN ?_ _) | (with_reducible refine Kd.C_drew ?_))); (case side2 => exact (Kd.R_reads' HO140.out).2.1); (case side3 => repeat (first | exact (Kd.R_reads' HO143.out).2.2 | (with_reducible refine Kd.C_alloc ?_ _) | (with_reducible refine Kd.C_drewN ?_ _) | (with_reducible refine Kd.C_drew ?_))); (case side4 => exact (Kd.R_reads' HO143.out).2.1); (case side5 => repeat (first | exact (Kd.R_reads' HO148.out).2.2 | (with_reducible refine Kd.C_alloc ?_ _) | (with_reducible refine Kd.C_drewN ?_ _) | (with_reducible refine Kd.C_drew ?_))); (case side6 => exact (Kd.R_reads' HO148.out).2.1); rintro e w54 ⟨rfl, hb⟩; have n0_ := Aside0.mk (Kd.R_below (by (with_reducible repeat (first | apply Kd.R_alloc | apply Kd.R_drewN | apply Kd.R_drew)); exact HO140.out) hb); have n1_ := Aside0.mk (Kd.R_below (by (with_reducible repeat (first | apply Kd.R_alloc | apply Kd.R_drewN | apply Kd.R_drew)); exact HO143.out) hb); have n2_ := Aside0.mk (Kd.R_below (by (with_reducible repeat (first | apply Kd.R_alloc | apply Kd.R_drewN | apply Kd.R_drew)); exact HO148.out) hb); have n3_ := Aside0.mk (Kd.R_below (by (with_reducible repeat (first | apply Kd.R_alloc | apply Kd.R_drewN | apply Kd.R_drew)); exact HO152.out) hb); have n4_ := Aside0.mk (blk_below (g := gb149) (o := .cells #[.int .i64 t136, .int .i64 t137, .slice Ao31 t138.length co31, .slice Ao32 t141.length co32, .int .i64 t144, .string t145, .slice Ao33 t146.length co33] 26 (0, 0)) (by (with_reducible repeat (first | refine blk_drewN ?_ _ | refine blk_drew ?_ | refine blk_alloc ?_ _)); exact BK149.out) hb); have n5_ := Aside0.mk (below_step (by repeat (with_reducible first | exact HB.out | apply below_alloc | apply pw_below_drewN | apply below_drew1 | refine below_set ?_ GE149.out)) hb); clear HO140; clear HO143; clear HO148; clear HO152; clear BK149; clear HB; have HO140 := n0_; have HO143 := n1_; have HO148 := n2_; have HO152 := n3_; have BK149 := n4_; have HB := n5_; clear n0_ n1_ n2_ n3_ n4_ n5_; (try clear hb)) | (go_at_call 24; (with_reducible refine (pinfoldlaw0_Num.calls t154 t167 _ A16.out).mono ?_); rintro e w' ⟨rfl, ⟨nd, rfl⟩⟩) | (go_at_call 24; (with_reducible refine (pinfoldlaw0_Num.calls t156 t168 _ A19.out).mono ?_); rintro e w' ⟨rfl, ⟨nd, rfl⟩⟩) | (go_at_call 24; (with_reducible refine (pinfoldlaw0_Num.calls t158 t169 _ A22.out).mono ?_); rintro e w' ⟨rfl, ⟨nd, rfl⟩⟩) | (go_at_call 24; (with_reducible refine (pinfoldlaw0_Num.calls t160 t170 _ A25.out).mono ?_); rintro e w' ⟨rfl, ⟨nd, rfl⟩⟩) | (go_at_call 24; (with_reducible refine (pinfoldlaw0_Num.calls t162 t171 _ A27.out).mono ?_); rintro e w' ⟨rfl, ⟨nd, rfl⟩⟩))
      go_ret
      exact ⟨by first | rfl | (simp [errW_none, errW_some] <;> rfl) | (simp [*, errW_none, errW_some] <;> rfl) | (simp only [str_ne_]; rfl) | (simp only [str_eq_]; rfl), by repeat (with_reducible first | exact HB.out | apply below_alloc | apply pw_below_drewN | apply below_drew1 | refine below_set ?_ GE149.out)⟩
    replace c21 := Bool.eq_false_iff.mpr c21
    subst c21
    have H1 : (none) = some r := by rw [if_neg (show ¬ (false = true) by decide)] at H; exact H
    clear H
    have H := H1
    clear H1
    exact absurd H (by simp)
  replace c18 := Bool.eq_false_iff.mpr c18
  subst c18
  have H1 : (none) = some r := by rw [if_neg (show ¬ (false = true) by decide)] at H; exact H
  clear H
  have H := H1
  clear H1
  exact absurd H (by simp)

end Go.Proofs.YtnjnfpnkcapilaaDoor.PRegisHeld
