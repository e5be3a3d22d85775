-- Made by wip/pr.py out of the translation (a turned copy of the kit's print; contracts by hand where said).
import Derived.Test.YtnjnfpnkcapilaaDoorPRegisesx0
import Derived.Test.YtnjnfpnkcapilaaDoorPRegisesx5
import Derived.Test.YtnjnfpnkcapilaaDoorPRegisesx6
import Derived.Test.YtnjnfpnkcapilaaDoorPRegisesx7
import Derived.Test.YtnjnfpnkcapilaaDoorPRegisesx8
namespace Go.Proofs.YtnjnfpnkcapilaaDoor.PRegises
open Go.RowKit Go.Proofs.YtnjnfpnkcapilaaDoorW.PrintWords Go.Proofs.YtnjnfpnkcapilaaDoorW.PrintLast Go.Proofs.YtnjnfpnkcapilaaDoorW.PrintMore
-- shrunk
attribute [local go_sem] max2_int min2_int max_two min_two max_three min_three max_four min_four   -- for this text's walks alone
set_option linter.unusedVariables false
set_option linter.unusedSimpArgs false

/-! ### table_May_c: function 54 -/
/-- does the host come behind the one ahead. -/
def above (p : Option Int) (h : Int) : Bool := match p with
 | none => true
 | some q => decide (q < h)
def leaseOk (x : S62) : Bool := leaseB x.f0 x.f1 x.f2 x.f3 x.f4 x.f5
def goTab : Option Int → List S62 → Bool
 | _, [] => true
 | p, x :: r => leaseOk x && (above p x.f0 && goTab (some x.f0) r)
/-- may leases be. -/
def tableB (l : List S62) : Bool := goTab none l && decide (l.length ≤ 8)
def tabFit (l : List S62) : Prop := l.length ≤ 140737488351232 ∧ ∀ x ∈ l, x.f4.size ≤ 140737488351232
instance (l : List S62) : Decidable (tabFit l) := by unfold tabFit; infer_instance
theorem dropLease (l0 : List S62) (i : Int) (h0 : 0 ≤ i) (h1 : i < l0.length) : l0.drop i.toNat = rd_T62 l0 i :: l0.drop (i.toNat + 1) ∧ rd_T62 l0 i ∈ l0 := by
 have h : i.toNat < l0.length := by omega
 have e : rd_T62 l0 i = l0[i.toNat] := by
  unfold rd_T62
  rw [List.getD_eq_getElem?_getD, List.getElem?_eq_getElem h]
  rfl
 rw [e, List.drop_eq_getElem_cons h]
 exact ⟨rfl, List.getElem_mem h⟩
theorem table_May.eq (l0 : List S62) (hf : tabFit l0) : ∀ (d : Nat) (i : Int) (k : Nat), 0 ≤ i → i.toNat + d = l0.length → d < k → table_May.l0 k l0 l0 (l0.length : Int) i = some (goTab (if i > 0 then some (rd_T62 l0 (i - 1)).f0 else none) (l0.drop i.toNat) && decide (l0.length ≤ 8))
 | 0, i, k + 1, h0, hd, _ => by
  unfold table_May.l0
  rw [if_neg (by omega), List.drop_eq_nil_of_le (by omega)]
  congr 1
  rw [show (∀ p, goTab p [] = true) from fun _ => rfl, Bool.true_and, Bool.eq_iff_iff, decide_eq_true_eq, decide_eq_true_eq]
  omega
 | d + 1, i, k + 1, h0, hd, hk => by
  have hlt : i < (l0.length : Int) := by omega
  obtain ⟨hd1, hm⟩ := dropLease l0 i h0 hlt
  have h7 := hf.1
  have ih := table_May.eq l0 hf d (i + 1) k (by omega) (by omega) (by omega)
  rw [if_pos (by omega : i + 1 > 0), show (i + 1 - 1 : Int) = i by omega, show (i + 1).toNat = i.toNat + 1 by omega] at ih
  unfold table_May.l0
  rw [if_pos hlt, if_pos h0, if_pos hlt, hd1]
  unfold lease_May.f
  rw [if_pos (hf.2 _ hm)]
  rw [Option.bind_some, w64 (a := i + 1) (by omega), ih]
  conv => rhs; unfold goTab
  have e1 : leaseB (rd_T62 l0 i).f0 (rd_T62 l0 i).f1 (rd_T62 l0 i).f2 (rd_T62 l0 i).f3 (rd_T62 l0 i).f4 (rd_T62 l0 i).f5 = leaseOk (rd_T62 l0 i) := rfl
  rw [e1]
  cases leaseOk (rd_T62 l0 i) with
  | false =>
   rw [if_neg (by simp)]
   simp
  | true =>
   rw [if_pos rfl, Bool.true_and]
   by_cases hp : i > 0
   ·rw [if_pos hp, if_pos hp, w64 (a := i - 1) (by omega), if_pos (by omega), if_pos (by omega)]
    by_cases hq : (rd_T62 l0 (i - 1)).f0 ≥ (rd_T62 l0 i).f0
    ·rw [if_pos hq]
     have : above (some (rd_T62 l0 (i - 1)).f0) (rd_T62 l0 i).f0 = false := by
      unfold above
      exact decide_eq_false (by omega)
     rw [this]
     simp
    ·rw [if_neg hq]
     have : above (some (rd_T62 l0 (i - 1)).f0) (rd_T62 l0 i).f0 = true := by
      unfold above
      exact decide_eq_true (by omega)
     rw [this, Bool.true_and]
   ·rw [if_neg hp, if_neg hp]
    rw [show above none (rd_T62 l0 i).f0 = true from rfl, Bool.true_and]
def table_May_c.f (l0 : List S62) : Option Bool := if tabFit l0 then some (tableB l0) else none
theorem table_May_c.calls (A0 : Option Addr) (c0 : Nat) (l0 : List S62) (r : Bool) (w : World) (hr0 : Kd.C k62 w A0 l0.length l0) (hc0 : l0.length ≤ c0) (h : table_May_c.f l0 = some r) :
  Calls Tryd.prog 54 #[.slice A0 l0.length c0] w fun e w' => e = .returned (.bool r) ∧ Below w.heap.size w w' := by
 unfold table_May_c.f at h
 by_cases hs : tabFit l0
 ·rw [if_pos hs] at h
  obtain rfl := e5_ h
  refine table_May.calls (l0.length + 1) A0 c0 l0 _ w hr0 hc0 ?_
  have := table_May.eq l0 hs l0.length 0 (l0.length + 1) (by omega) (by simp) (by omega)
  unfold table_May.f
  rw [this, if_neg (by omega)]
  rfl
 ·rw [if_neg hs] at h
  cases h

/-! ### lease_Live: function 80 -/
-- BY HAND
def lease_Live.f (a0_0 : Int) (a0_1 : Int) (a0_2 : ByteArray) (a0_3 : Int) (a0_4 : ByteArray) (a0_5 : Bool) (a1 : Int) : Option Bool := if a0_4.size ≤ 140737488351232 then some (liveB a0_0 a0_1 a0_2 a0_3 a0_4 a0_5 a1) else none
set_option maxHeartbeats 8000000 in
set_option maxRecDepth 100000 in
theorem lease_Live.calls (a0_0 : Int) (a0_1 : Int) (a0_2 : ByteArray) (a0_3 : Int) (a0_4 : ByteArray) (a0_5 : Bool) (a1 : Int) (r : Bool) (w : World) (h : lease_Live.f a0_0 a0_1 a0_2 a0_3 a0_4 a0_5 a1 = some r) :
  Calls Tryd.prog 80 #[.agg #[.int .i64 a0_0, .int .i64 a0_1, .string a0_2, .int .i64 a0_3, .string a0_4, .bool a0_5], .int .i64 a1] w fun e w' => e = .returned (.bool r) ∧ Below w.heap.size w w' := by
 unfold lease_Live.f at h
 by_cases hs : a0_4.size ≤ 140737488351232
 rotate_left
 ·rw [if_neg hs] at h
  cases h
 rw [if_pos hs] at h
 have HR := e5_ h
 unfold liveB at HR
 obtain ⟨b1, h1⟩ : ∃ b, leaseB a0_0 a0_1 a0_2 a0_3 a0_4 a0_5 = b := ⟨_, rfl⟩
 rw [h1] at HR
 have C1 := am_ (fun W => lease_May.calls a0_0 a0_1 a0_2 a0_3 a0_4 a0_5 b1 W (by unfold lease_May.f; rw [if_pos hs, h1]))
 have BK := am_ (blk_new w (.cells #[.int .i64 a0_0, .int .i64 a0_1, .string a0_2, .int .i64 a0_3, .string a0_4, .bool a0_5] 62))
 have HB := am_ (Below.refl w.heap.size w)
 replace HR := am_ HR
 clear h hs h1
 go_enter Tryd.func80, Tryd.ntmps80
 go_wp2_with (first
  | (go_at_call 69; (with_reducible refine (C1.out _).mono ?_); rintro e w1 ⟨rfl, hb2⟩; replace BK := am_ (kb_ (show _ from (by (with_reducible repeat (first | exact BK.out | refine k2_ ?_ _ | refine k3_ ?_ | refine k1_ ?_ _)))) hb2); replace HB := am_ (bt_ (show Below w.heap.size w _ by repeat (with_reducible first | exact HB.out | apply p3_ | apply p1_ | apply p2_)) hb2); clear hb2; have u0 := bc_ BK.out 0; have u1 := bc_ BK.out 1; have u2 := bc_ BK.out 2; have u3 := bc_ BK.out 3; have u4 := bc_ BK.out 4; have u5 := bc_ BK.out 5))
 all_goals (try go_ret)
 all_goals refine ⟨ret_bool ?_, ?_⟩
 all_goals first
  | ((repeat (with_reducible first | exact HB.out | apply p3_ | apply p1_ | apply p2_)); done)
  | (rw [← HR.out]; clear HR HB C1 BK; (try clear v0 v1 v2 v3 v4 v5); (try clear u0 u1 u2 u3 u4 u5); rw [Bool.eq_iff_iff]; (simp_all; done))
  | (rw [← HR.out]; clear HR HB C1 BK; simp_all <;> omega)

/-! ### lease_Holds: function 70 -/
-- BY HAND
set_option maxHeartbeats 8000000 in
set_option maxRecDepth 100000 in
theorem lease_Holds.calls (g : Nat) (s0 s1 : Int) (s2 : ByteArray) (s3 : Int) (s4 : ByteArray) (s5 : Bool) (c : ByteArray) (now : Int) (r : Bool) (w : World) (hb : w.heap[g]? = some (.cells #[.int .i64 s0, .int .i64 s1, .string s2, .int .i64 s3, .string s4, .bool s5] 62)) (hs : s4.size ≤ 140737488351232) (h : holdsB s0 s1 s2 s3 s4 s5 c now = r) :
  Calls Tryd.prog 70 #[.pointer (some ⟨g, 0, none⟩), .string c, .int .i64 now] w fun e w' => e = .returned (.bool r) ∧ Below w.heap.size w w' := by
 unfold holdsB at h
 obtain ⟨b1, h1⟩ : ∃ b, liveB s0 s1 s2 s3 s4 s5 now = b := ⟨_, rfl⟩
 rw [h1] at h
 have C1 := am_ (fun W => lease_Live.calls s0 s1 s2 s3 s4 s5 now b1 W (by unfold lease_Live.f; rw [if_pos hs, h1]))
 have HR := am_ h
 have HB := am_ (Below.refl w.heap.size w)
 have BK := am_ hb
 have v0 := bc_ hb 0
 have v1 := bc_ hb 1
 have v2 := bc_ hb 2
 have v3 := bc_ hb 3
 have v4 := bc_ hb 4
 have v5 := bc_ hb 5
 clear h hb hs h1
 go_enter Tryd.func70, Tryd.ntmps70
 go_wp2_with (first
  | (go_at_call 80; (with_reducible refine (C1.out _).mono ?_); rintro e w1 ⟨rfl, hb2⟩; replace BK := am_ (kb_ (show _ from (by (with_reducible repeat (first | exact BK.out | refine k2_ ?_ _ | refine k3_ ?_ | refine k1_ ?_ _)))) hb2); replace HB := am_ (bt_ (show Below w.heap.size w _ by repeat (with_reducible first | exact HB.out | apply p3_ | apply p1_ | apply p2_)) hb2); clear hb2; have u0 := bc_ BK.out 0; have u1 := bc_ BK.out 1; have u2 := bc_ BK.out 2; have u3 := bc_ BK.out 3; have u4 := bc_ BK.out 4; have u5 := bc_ BK.out 5))
 all_goals (try go_ret)
 all_goals refine ⟨ret_bool ?_, ?_⟩
 all_goals first
  | ((repeat (with_reducible first | exact HB.out | apply p3_ | apply p1_ | apply p2_)); done)
  | (rw [← HR.out]; clear HR HB C1 BK; (try clear v0 v1 v2 v3 v4 v5); (try clear u0 u1 u2 u3 u4 u5); rw [Bool.eq_iff_iff]; (simp_all; done))
  | (rw [← HR.out]; clear HR HB C1 BK; simp_all <;> omega)

/-! ### lease_Bound: function 55 -/
-- BY HAND
set_option maxHeartbeats 8000000 in
set_option maxRecDepth 100000 in
theorem lease_Bound.calls (g : Nat) (s0 s1 : Int) (s2 : ByteArray) (s3 : Int) (s4 : ByteArray) (s5 : Bool) (c : ByteArray) (now : Int) (r : Bool) (w : World) (hb : w.heap[g]? = some (.cells #[.int .i64 s0, .int .i64 s1, .string s2, .int .i64 s3, .string s4, .bool s5] 62)) (hs : s4.size ≤ 140737488351232) (h : boundB s0 s1 s2 s3 s4 s5 c now = r) :
  Calls Tryd.prog 55 #[.pointer (some ⟨g, 0, none⟩), .string c, .int .i64 now] w fun e w' => e = .returned (.bool r) ∧ Below w.heap.size w w' := by
 unfold boundB at h
 obtain ⟨b1, h1⟩ : ∃ b, holdsB s0 s1 s2 s3 s4 s5 c now = b := ⟨_, rfl⟩
 rw [h1] at h
 have C1 := am_ (fun W (bk : W.heap[g]? = some (.cells #[.int .i64 s0, .int .i64 s1, .string s2, .int .i64 s3, .string s4, .bool s5] 62)) => lease_Holds.calls g s0 s1 s2 s3 s4 s5 c now b1 W bk hs h1)
 have HR := am_ h
 have HB := am_ (Below.refl w.heap.size w)
 have BK := am_ hb
 have v0 := bc_ hb 0
 have v1 := bc_ hb 1
 have v2 := bc_ hb 2
 have v3 := bc_ hb 3
 have v4 := bc_ hb 4
 have v5 := bc_ hb 5
 clear h hb hs h1
 go_enter Tryd.func55, Tryd.ntmps55
 go_wp2_with (first
  | (go_at_call 70; (with_reducible refine (C1.out _ (by (with_reducible repeat (first | exact BK.out | refine k2_ ?_ _ | refine k3_ ?_ | refine k1_ ?_ _)))).mono ?_); rintro e w1 ⟨rfl, hb2⟩; replace BK := am_ (kb_ (show _ from (by (with_reducible repeat (first | exact BK.out | refine k2_ ?_ _ | refine k3_ ?_ | refine k1_ ?_ _)))) hb2); replace HB := am_ (bt_ (show Below w.heap.size w _ by repeat (with_reducible first | exact HB.out | apply p3_ | apply p1_ | apply p2_)) hb2); clear hb2; have u0 := bc_ BK.out 0; have u1 := bc_ BK.out 1; have u2 := bc_ BK.out 2; have u3 := bc_ BK.out 3; have u4 := bc_ BK.out 4; have u5 := bc_ BK.out 5))
 all_goals (try go_ret)
 all_goals refine ⟨ret_bool ?_, ?_⟩
 all_goals first
  | ((repeat (with_reducible first | exact HB.out | apply p3_ | apply p1_ | apply p2_)); done)
  | (rw [← HR.out]; clear HR HB C1 BK; (try clear v0 v1 v2 v3 v4 v5); (try clear u0 u1 u2 u3 u4 u5); rw [Bool.eq_iff_iff]; (simp_all; done))
  | (rw [← HR.out]; clear HR HB C1 BK; simp_all <;> omega)

/-! ### regis_Free: function 31 -/
-- BY HAND
-- 20 54 41 55 33
/-- does another client hold this name, bound. -/
def heldBy (client : ByteArray) (now : Int) (x : S62) : Bool := x.f5 && (decide (x.f2.toList ≠ client.toList) && boundB x.f0 x.f1 x.f2 x.f3 x.f4 x.f5 x.f2 now)
def takenS (l6 : List S49) : List (List UInt8) := l6.map fun x => x.f0.data.toList
def takenL (F : ByteArray → ByteArray) (client : ByteArray) (now : Int) (ls : List S62) : List (List UInt8) := (ls.filter (heldBy client now)).map fun x => (F x.f4).data.toList
def mayFree (a0 a1 : Int) (l2 : List Int) (l3 : List S47) (a4 : Int) (z : ByteArray) (l6 : List S49) (ls : List S62) (called : ByteArray) : Bool := confB a0 a1 l2 l3 a4 z l6 && (tableB ls && nameB (bytesOf called))
/-- may a client have a name. -/
def freeB (a0 a1 : Int) (l2 : List Int) (l3 : List S47) (a4 : Int) (z : ByteArray) (l6 : List S49) (ls : List S62) (now : Int) (client called : ByteArray) : Bool :=
 mayFree a0 a1 l2 l3 a4 z l6 ls called && decide ((fullB a0 a1 l2 l3 a4 z l6 called).data.toList ∉ [] :: takenS l6 ++ takenL (fullB a0 a1 l2 l3 a4 z l6) client now ls)
def freeFit (l2 : List Int) (l3 : List S47) (z : ByteArray) (l6 : List S49) (ls : List S62) (called : ByteArray) : Prop := fullFit l2 l3 z l6 called ∧ tabFit ls
instance (l2 : List Int) (l3 : List S47) (z : ByteArray) (l6 : List S49) (ls : List S62) (called : ByteArray) : Decidable (freeFit l2 l3 z l6 ls called) := by unfold freeFit; infer_instance
theorem fullB_size {a0 a1 : Int} {l2 : List Int} {l3 : List S47} {a4 : Int} {z : ByteArray} {l6 : List S49} {h : ByteArray} (hf : h.size ≤ 140737488351232) (hz : z.size ≤ 140737488351232) : (fullB a0 a1 l2 l3 a4 z l6 h).size ≤ maxLen := by
 have s1 : (h ++ (⟨#[46]⟩ : ByteArray) ++ z).size = h.size + 1 + z.size := by rw [ByteArray.size_append, ByteArray.size_append]; rfl
 have s0 : (⟨#[]⟩ : ByteArray).size = 0 := rfl
 unfold fullB maxLen
 repeat' split
 all_goals omega
theorem table_len {l : List S62} (h : tableB l = true) : l.length ≤ 8 := by
 unfold tableB at h
 rw [Bool.and_eq_true, decide_eq_true_eq] at h
 exact h.2
theorem conf_len6 {a0 a1 : Int} {l2 : List Int} {l3 : List S47} {a4 : Int} {z : ByteArray} {l6 : List S49} (h : confB a0 a1 l2 l3 a4 z l6 = true) : l6.length ≤ 8 := by
 unfold confB staticsB at h
 simp only [Bool.and_eq_true, decide_eq_true_eq] at h
 omega
theorem owns_below {H : Type} {P : Program} {k : TypeId} {R : Value → Option (DataW H × List MemPlace)} {b n : Nat} {D : DataW H} {w w' : World} (h : w.ownsMap P k R b n D) (hb : Below w.heap.size w w') : w'.ownsMap P k R b n D := by
 have hlt := h.lt
 obtain ⟨es, clock, hb0, F, hs, hD⟩ := h
 exact ⟨es, clock, (hb.block b hlt).trans hb0, F, hs, hD⟩
/-- a pair of a map's literal, at the operation. -/
theorem wpList_pair_own {H : Type} {P : Program} (w : World) {ops : Array Oper} {rest : List Oper} {o : Oper} {a : Act} {Q : Exit → Act → World → Prop}
  (hg : o.guard = none) (m x v : Operand) (t : TypeId) (hop : o.op = Op.insert t m x v)
  (k e : TypeId) (K : Maps.Keyed P k) (ht : P.underlying t = some (.map k e)) (R : Value → Option (DataW H × List MemPlace)) (b n : Nat) (D : DataW H)
  (hm : a.eval m = .map (some b)) (hown : w.ownsMap P k R b n D) (hn : n < maxLen) (key val : Value) (kl : Lit) (hx : a.eval x = key) (hv : a.eval v = val) (hkey : keyOf P k key = some kl)
  (d : DataW H) (ps : List MemPlace) (hval : R val = some (d, ps))
  (hK : ∀ w', w'.ownsMap P k R b (n + 1) (D.put kl d) → w.grownBy w' (some b) → wpList P ops Q rest (a.put o.dst undef) w') :
  wpList P ops Q (o :: rest) a w := by
 refine wpList_plain hg fun K' hK' => ?_
 obtain ⟨w', hrun, r1, r2⟩ := hown.update K ht hn hkey hval
 unfold Oper.wp
 simp [execOp, hop, hm, hx, hv, hrun, Result.andThen]
 exact hK' _ _ (hK w' r1 r2)
/-- behind a write into a map of the call's own. -/
theorem free_grown {w W w4 : World} {b : Nat} (hg : W.grownBy w4 (some b)) (h : Below w.heap.size w W) (hb : w.heap.size ≤ b) : Below w.heap.size w w4 := h.grown hg h.size (fun k hk => by cases hk; exact hb)
theorem dropFreeS (l0 : List S49) (i : Int) (h0 : 0 ≤ i) (h1 : i < l0.length) : l0.take (i.toNat + 1) = l0.take i.toNat ++ [rd_T49 l0 i] ∧ rd_T49 l0 i ∈ l0 := by
 have h : i.toNat < l0.length := by omega
 have e : rd_T49 l0 i = l0[i.toNat] := by
  unfold rd_T49
  rw [List.getD_eq_getElem?_getD, List.getElem?_eq_getElem h]
  rfl
 rw [e, List.take_succ_eq_append_getElem h]
 exact ⟨rfl, List.getElem_mem h⟩
theorem dropFreeL (l0 : List S62) (i : Int) (h0 : 0 ≤ i) (h1 : i < l0.length) : l0.take (i.toNat + 1) = l0.take i.toNat ++ [rd_T62 l0 i] ∧ rd_T62 l0 i ∈ l0 := by
 have h : i.toNat < l0.length := by omega
 have e : rd_T62 l0 i = l0[i.toNat] := by
  unfold rd_T62
  rw [List.getD_eq_getElem?_getD, List.getElem?_eq_getElem h]
  rfl
 rw [e, List.take_succ_eq_append_getElem h]
 exact ⟨rfl, List.getElem_mem h⟩
theorem takenS_snoc (l : List S49) (x : S49) : takenS (l ++ [x]) = takenS l ++ [x.f0.data.toList] := by unfold takenS; rw [List.map_append]; rfl
theorem takenL_zero (F : ByteArray → ByteArray) (c : ByteArray) (now : Int) (l : List S62) (p : List (List UInt8)) : p ++ takenL F c now (l.take 0) = p := by unfold takenL; simp
theorem takenL_in (F : ByteArray → ByteArray) (c : ByteArray) (now : Int) (l : List S62) (x : S62) (h : heldBy c now x = true) : takenL F c now (l ++ [x]) = takenL F c now l ++ [(F x.f4).data.toList] := by unfold takenL; rw [List.filter_append, List.map_append]; simp [h]
theorem takenL_out (F : ByteArray → ByteArray) (c : ByteArray) (now : Int) (l : List S62) (x : S62) (h : heldBy c now x = false) : takenL F c now (l ++ [x]) = takenL F c now l := by unfold takenL; rw [List.filter_append, List.map_append]; simp [h]
def regis_Free.f (a0_0 : Int) (a0_1 : Int) (l0_2 : List Int) (l0_3 : List S47) (a0_4 : Int) (a0_5 : ByteArray) (l0_6 : List S49) (l1 : List S62) (a2 : Int) (a3 a4 : ByteArray) : Option (Bool × Int) := if freeFit l0_2 l0_3 a0_5 l0_6 l1 a4 then some (freeB a0_0 a0_1 l0_2 l0_3 a0_4 a0_5 l0_6 l1 a2 a3 a4, if mayFree a0_0 a0_1 l0_2 l0_3 a0_4 a0_5 l0_6 l1 a4 then 0 else 1600) else none
set_option maxHeartbeats 8000000 in
set_option maxRecDepth 100000 in
theorem regis_Free.calls (a0_0 : Int) (a0_1 : Int) (A0_2 : Option Addr) (c0_2 : Nat) (l0_2 : List Int) (A0_3 : Option Addr) (c0_3 : Nat) (l0_3 : List S47) (a0_4 : Int) (a0_5 : ByteArray) (A0_6 : Option Addr) (c0_6 : Nat) (l0_6 : List S49) (A1 : Option Addr) (c1 : Nat) (l1 : List S62) (a2 : Int) (a3 : ByteArray) (a4 : ByteArray) (r1 : Bool) (r2 : Int) (w : World) (hr0_2 : Kd.C (Kd.int .i64) w A0_2 l0_2.length l0_2) (hc0_2 : l0_2.length ≤ c0_2) (hr0_3 : Kd.C k47 w A0_3 l0_3.length l0_3) (hc0_3 : l0_3.length ≤ c0_3) (hr0_6 : Kd.C k49 w A0_6 l0_6.length l0_6) (hc0_6 : l0_6.length ≤ c0_6) (hr1 : Kd.C k62 w A1 l1.length l1) (hc1 : l1.length ≤ c1) (h : regis_Free.f a0_0 a0_1 l0_2 l0_3 a0_4 a0_5 l0_6 l1 a2 a3 a4 = some (r1, r2)) :
  Calls Tryd.prog 31 #[.agg #[.int .i64 a0_0, .int .i64 a0_1, .slice A0_2 l0_2.length c0_2, .slice A0_3 l0_3.length c0_3, .int .i64 a0_4, .string a0_5, .slice A0_6 l0_6.length c0_6], .slice A1 l1.length c1, .int .i64 a2, .string a3, .string a4] w fun e w' => e = .returned (.tuple #[.bool r1, .int .i64 r2]) ∧ Below w.heap.size w w' := by
 unfold regis_Free.f at h
 by_cases hs : freeFit l0_2 l0_3 a0_5 l0_6 l1 a4
 rotate_left
 ·rw [if_neg hs] at h
  cases h
 rw [if_pos hs] at h
 have h' := e5_ h
 have HR1 := (Prod.mk.inj h').1
 have HR2 := (Prod.mk.inj h').2
 clear h h'
 obtain ⟨b1, h1⟩ : ∃ b, confB a0_0 a0_1 l0_2 l0_3 a0_4 a0_5 l0_6 = b := ⟨_, rfl⟩
 obtain ⟨b2, h2⟩ : ∃ b, tableB l1 = b := ⟨_, rfl⟩
 obtain ⟨b3, h3⟩ : ∃ b, nameB (bytesOf a4) = b := ⟨_, rfl⟩
 have hn6 : b1 = true → l0_6.length ≤ 8 := fun e => conf_len6 (h1.trans e)
 have hn1 : b2 = true → l1.length ≤ 8 := fun e => table_len (h2.trans e)
 unfold freeB at HR1
 have hmay : mayFree a0_0 a0_1 l0_2 l0_3 a0_4 a0_5 l0_6 l1 a4 = (b1 && (b2 && b3)) := by unfold mayFree; rw [h1, h2, h3]
 rw [hmay] at HR1 HR2
 clear hmay
 have C1 := am_ (fun W (hb : Below w.heap.size w W) => conf_May.calls a0_0 a0_1 A0_2 c0_2 l0_2 A0_3 c0_3 l0_3 a0_4 a0_5 A0_6 c0_6 l0_6 b1 W (c4_ hr0_2 hb) hc0_2 (c4_ hr0_3 hb) hc0_3 (c4_ hr0_6 hb) hc0_6 (by unfold conf_May.f; rw [if_pos hs.1.1, h1]))
 have C2 := am_ (fun W (hb : Below w.heap.size w W) => table_May_c.calls A1 c1 l1 b2 W (c4_ hr1 hb) hc1 (by unfold table_May_c.f; rw [if_pos hs.2, h2]))
 have C3 := am_ (fun W => name_May_c.calls a4 b3 W (by unfold name_May_c.f; rw [if_pos (by have := hs.1.2; omega), h3]))
 have CF := am_ (fun (x : ByteArray) W (hx : x.size ≤ 140737488351232) (hb : Below w.heap.size w W) => regis_Full_c.calls a0_0 a0_1 A0_2 c0_2 l0_2 A0_3 c0_3 l0_3 a0_4 a0_5 A0_6 c0_6 l0_6 x (fullB a0_0 a0_1 l0_2 l0_3 a0_4 a0_5 l0_6 x) W (c4_ hr0_2 hb) hc0_2 (c4_ hr0_3 hb) hc0_3 (c4_ hr0_6 hb) hc0_6 (by unfold regis_Full_c.f; rw [if_pos ⟨hs.1.1, hx⟩]))
 have HS := am_ hs
 have HK6 := am_ hr0_6
 have HK1 := am_ hr1
 have HB := am_ (Below.refl w.heap.size w)
 have BK := am_ (blk_new w (.cells #[.int .i64 a0_0, .int .i64 a0_1, .slice A0_2 l0_2.length c0_2, .slice A0_3 l0_3.length c0_3, .int .i64 a0_4, .string a0_5, .slice A0_6 l0_6.length c0_6] 26))
 clear hs hr0_2 hr0_3 hr0_6 hc0_2 hc0_3 hc0_6 hr1 hc1 h1 h2 h3
 have hmm := @run_makeMap Tryd.prog
 replace HR1 := am_ HR1
 replace HR2 := am_ HR2
 cases b1 with
 | false =>
  have e1 : r1 = false := by rw [← HR1.out]; simp
  have e2 : r2 = 1600 := by rw [← HR2.out]; simp
  clear HR1 HR2 CF HK6 HK1 hmm hn6 hn1
  subst e1 e2
  go_enter Tryd.func31, Tryd.ntmps31
  go_wp2_with (first
   | (go_at_call 20; (with_reducible refine (C1.out _ (by repeat (with_reducible first | exact HB.out | apply p3_ | apply p1_ | apply p2_))).mono ?_); rintro e w1 ⟨rfl, hb2⟩; replace BK := am_ (kb_ (show _ from (by (with_reducible repeat (first | exact BK.out | refine k2_ ?_ _ | refine k3_ ?_ | refine k1_ ?_ _)))) hb2); replace HB := am_ (bt_ (show Below w.heap.size w _ from (by repeat (with_reducible first | exact HB.out | apply p3_ | apply p1_ | apply p2_))) hb2); clear hb2))
  go_ret2
  exact ⟨rfl, (by repeat (with_reducible first | exact HB.out | apply p3_ | apply p1_ | apply p2_))⟩
   | true =>
  cases b2 with
  | false =>
   have e1 : r1 = false := by rw [← HR1.out]; simp
   have e2 : r2 = 1600 := by rw [← HR2.out]; simp
   clear HR1 HR2 CF HK6 HK1 hmm hn6 hn1
   subst e1 e2
   go_enter Tryd.func31, Tryd.ntmps31
   go_wp2_with (first
    | (go_at_call 20; (with_reducible refine (C1.out _ (by repeat (with_reducible first | exact HB.out | apply p3_ | apply p1_ | apply p2_))).mono ?_); rintro e w1 ⟨rfl, hb2⟩; replace BK := am_ (kb_ (show _ from (by (with_reducible repeat (first | exact BK.out | refine k2_ ?_ _ | refine k3_ ?_ | refine k1_ ?_ _)))) hb2); replace HB := am_ (bt_ (show Below w.heap.size w _ from (by repeat (with_reducible first | exact HB.out | apply p3_ | apply p1_ | apply p2_))) hb2); clear hb2)
    | (go_at_call 54; (with_reducible refine (C2.out _ (by repeat (with_reducible first | exact HB.out | apply p3_ | apply p1_ | apply p2_))).mono ?_); rintro e w2 ⟨rfl, hb2⟩; replace BK := am_ (kb_ (show _ from (by (with_reducible repeat (first | exact BK.out | refine k2_ ?_ _ | refine k3_ ?_ | refine k1_ ?_ _)))) hb2); replace HB := am_ (bt_ (show Below w.heap.size w _ from (by repeat (with_reducible first | exact HB.out | apply p3_ | apply p1_ | apply p2_))) hb2); clear hb2))
   go_ret2
   exact ⟨rfl, (by repeat (with_reducible first | exact HB.out | apply p3_ | apply p1_ | apply p2_))⟩
     | true =>
   cases b3 with
   | false =>
    have e1 : r1 = false := by rw [← HR1.out]; simp
    have e2 : r2 = 1600 := by rw [← HR2.out]; simp
    clear HR1 HR2 CF HK6 HK1 hmm hn6 hn1
    subst e1 e2
    go_enter Tryd.func31, Tryd.ntmps31
    go_wp2_with (first
     | (go_at_call 20; (with_reducible refine (C1.out _ (by repeat (with_reducible first | exact HB.out | apply p3_ | apply p1_ | apply p2_))).mono ?_); rintro e w1 ⟨rfl, hb2⟩; replace BK := am_ (kb_ (show _ from (by (with_reducible repeat (first | exact BK.out | refine k2_ ?_ _ | refine k3_ ?_ | refine k1_ ?_ _)))) hb2); replace HB := am_ (bt_ (show Below w.heap.size w _ from (by repeat (with_reducible first | exact HB.out | apply p3_ | apply p1_ | apply p2_))) hb2); clear hb2)
     | (go_at_call 54; (with_reducible refine (C2.out _ (by repeat (with_reducible first | exact HB.out | apply p3_ | apply p1_ | apply p2_))).mono ?_); rintro e w2 ⟨rfl, hb2⟩; replace BK := am_ (kb_ (show _ from (by (with_reducible repeat (first | exact BK.out | refine k2_ ?_ _ | refine k3_ ?_ | refine k1_ ?_ _)))) hb2); replace HB := am_ (bt_ (show Below w.heap.size w _ from (by repeat (with_reducible first | exact HB.out | apply p3_ | apply p1_ | apply p2_))) hb2); clear hb2)
     | (go_at_call 41; (with_reducible refine (C3.out _).mono ?_); rintro e w3 ⟨rfl, ⟨nd, rfl⟩⟩))
    go_ret2
    exact ⟨rfl, (by repeat (with_reducible first | exact HB.out | apply p3_ | apply p1_ | apply p2_))⟩
       | true =>
    have e2 : r2 = 0 := by rw [← HR2.out]; simp
    have HR := am_ (show decide ((fullB a0_0 a0_1 l0_2 l0_3 a0_4 a0_5 l0_6 a4).data.toList ∉ [] :: takenS l0_6 ++ takenL (fullB a0_0 a0_1 l0_2 l0_3 a0_4 a0_5 l0_6) a3 a2 l1) = r1 by rw [← HR1.out]; simp)
    clear HR1 HR2
    subst e2
    replace hn6 := hn6 rfl
    replace hn1 := hn1 rfl
    have hk0 := WideMaps.keyOf_string_mk Tryd.underlying9 (s := ⟨#[]⟩) (by unfold maxLen; exact Nat.zero_le _)
    go_enter Tryd.func31, Tryd.ntmps31
    go_wp2_with (first
     | (go_at_call 20; (with_reducible refine (C1.out _ (by repeat (with_reducible first | exact HB.out | apply p3_ | apply p1_ | apply p2_))).mono ?_); rintro e w1 ⟨rfl, hb2⟩; replace BK := am_ (kb_ (show _ from (by (with_reducible repeat (first | exact BK.out | refine k2_ ?_ _ | refine k3_ ?_ | refine k1_ ?_ _)))) hb2); replace HB := am_ (bt_ (show Below w.heap.size w _ from (by repeat (with_reducible first | exact HB.out | apply p3_ | apply p1_ | apply p2_))) hb2); clear hb2)
     | (go_at_call 54; (with_reducible refine (C2.out _ (by repeat (with_reducible first | exact HB.out | apply p3_ | apply p1_ | apply p2_))).mono ?_); rintro e w2 ⟨rfl, hb2⟩; replace BK := am_ (kb_ (show _ from (by (with_reducible repeat (first | exact BK.out | refine k2_ ?_ _ | refine k3_ ?_ | refine k1_ ?_ _)))) hb2); replace HB := am_ (bt_ (show Below w.heap.size w _ from (by repeat (with_reducible first | exact HB.out | apply p3_ | apply p1_ | apply p2_))) hb2); clear hb2)
     | (go_at_call 41; (with_reducible refine (C3.out _).mono ?_); rintro e w3 ⟨rfl, ⟨nd, rfl⟩⟩)
     | (refine wpList_pair_own _ rfl _ _ _ 81 rfl 9 4 (Maps.string_keyed Tryd.underlying9) Tryd.underlying81 (plainElem (H := Unit) Tryd.prog 4) _ 0 _ rfl (World.ownsMap_made _ _ _ _) (by unfold maxLen; omega) _ _ _ rfl rfl hk0 _ [] (plainElem_bool Tryd.underlying4 true) ?_; intro w4 hown1 hgrow1; have HM := am_ (show w4.ownsMap Tryd.prog 9 (plainElem (H := Unit) Tryd.prog 4) w2.heap.size (0 + 1) (mapD .string ([] :: takenS (l0_6.take 0))) from hown1); have hlt2 : w.heap.size < w2.heap.size := blk_lt BK.out; replace HB := am_ (free_grown hgrow1 (by repeat (with_reducible first | exact HB.out | apply p3_ | apply p1_ | apply p2_)) (Nat.le_of_lt hlt2)); replace BK := am_ (show w4.heap[w.heap.size]? = some (.cells #[.int .i64 a0_0, .int .i64 a0_1, .slice A0_2 l0_2.length c0_2, .slice A0_3 l0_3.length c0_3, .int .i64 a0_4, .string a0_5, .slice A0_6 l0_6.length c0_6] 26) from blk_grown (by (with_reducible repeat (first | exact BK.out | refine k2_ ?_ _ | refine k3_ ?_ | refine k1_ ?_ _))) hgrow1 (fun e => absurd (e5_ e) (Nat.ne_of_lt hlt2))); clear hown1 hgrow1; have u0 := bc_ BK.out 0; have u1 := bc_ BK.out 1; have u2 := bc_ BK.out 2; have u3 := bc_ BK.out 3; have u4 := bc_ BK.out 4; have u5 := bc_ BK.out 5; have u6 := bc_ BK.out 6)
     | go_in)
    clear hmm hk0 C1 C2 C3 u0 u1 u2 u3 u4 u5 u6
    go_loopg [35] l0_6.length (fun d v35 w' => ∃ i : Int, 0 ≤ i ∧ i.toNat + d = l0_6.length ∧ v35 = .int .i64 i ∧ Aside0 (w'.ownsMap Tryd.prog 9 (plainElem (H := Unit) Tryd.prog 4) w2.heap.size (i.toNat + 1) (mapD .string ([] :: takenS (l0_6.take i.toNat)))) ∧ Aside0 (Below w.heap.size w w') ∧ Aside0 (w'.heap[w.heap.size]? = some (.cells #[.int .i64 a0_0, .int .i64 a0_1, .slice A0_2 l0_2.length c0_2, .slice A0_3 l0_3.length c0_3, .int .i64 a0_4, .string a0_5, .slice A0_6 l0_6.length c0_6] 26)))
    case atStart => exact ⟨0, by omega, by simp, rfl, HM, HB, BK⟩
    case round =>
     clear HM HB BK
     obtain ⟨i, hi0, hd, rfl, HM, HB, BK⟩ := hrel
     by_cases hlt : i < (l0_6.length : Int)
     ·obtain ⟨ad, e1, hx0, hx1, hx2, hx3, hx4, hx5, hx6⟩ := at_T49 HK6.out i hi0 hlt
      cases e1
      replace hx0 := (HB.out.cell (wb_ w _ hx0)).trans hx0; replace hx1 := (HB.out.cell (wb_ w _ hx1)).trans hx1; replace hx2 := (HB.out.cell (wb_ w _ hx2)).trans hx2; replace hx3 := (HB.out.cell (wb_ w _ hx3)).trans hx3; replace hx4 := (HB.out.cell (wb_ w _ hx4)).trans hx4; replace hx5 := (HB.out.cell (wb_ w _ hx5)).trans hx5; replace hx6 := (HB.out.cell (wb_ w _ hx6)).trans hx6
      obtain ⟨hd1, hmem⟩ := dropFreeS l0_6 i hi0 hlt
      have hsz := HS.out.1.1.2.2.2.2 _ hmem
      generalize rd_T49 l0_6 i = x at hx0 hx1 hx2 hx3 hx4 hx5 hx6 hd1 hmem hsz
      obtain ⟨f0, f1, f2, f3, f4, f5, f6⟩ := x
      simp only at hx0 hx1 hx2 hx3 hx4 hx5 hx6 hsz
      have hkey := WideMaps.keyOf_string_mk Tryd.underlying9 (s := f0) (by unfold maxLen; omega)
      have HD := am_ hd1
      clear hd1 hmem hsz
      go_wp2_with (first
       | (at_mapUpdate; refine wpList_mapUpdate_own _ rfl _ _ _ 81 rfl 9 4 (Maps.string_keyed Tryd.underlying9) Tryd.underlying81 _ w2.heap.size (i.toNat + 1) _ rfl (HM.out.alloc (.cells #[.string f0, .int .i64 f1, .int .i64 f2, .int .i64 f3, .string f4, .string f5, .int .i64 f6] 49)) (by unfold maxLen; omega) _ _ _ rfl rfl hkey _ [] (plainElem_bool Tryd.underlying4 true) ?_; intro w5 hown1 hgrow1; have HM1 := am_ hown1; have HB1 := am_ (free_grown hgrow1 (by repeat (with_reducible first | exact HB.out | apply p3_ | apply p1_ | apply p2_)) (Nat.le_of_lt hlt2)); have BK1 := am_ (show w5.heap[w.heap.size]? = some (.cells #[.int .i64 a0_0, .int .i64 a0_1, .slice A0_2 l0_2.length c0_2, .slice A0_3 l0_3.length c0_3, .int .i64 a0_4, .string a0_5, .slice (some ad) l0_6.length c0_6] 26) from blk_grown (by (with_reducible repeat (first | exact BK.out | refine k2_ ?_ _ | refine k3_ ?_ | refine k1_ ?_ _))) hgrow1 (fun e => absurd (e5_ e) (Nat.ne_of_lt hlt2))); clear hown1 hgrow1)
       | go_in)
      go_roundg (l0_6.length - (i.toNat + 1))
      case measure => first | omega | (simp; omega)
      case rel =>
       have e2 : (i + 1).toNat = i.toNat + 1 := by omega
       refine ⟨i + 1, by omega, by omega, by go_num, ⟨?_⟩, HB1, BK1⟩
       rw [e2, HD.out, takenS_snoc, ← List.cons_append, mapD_snoc]
       exact HM1.out
     ·have e3 : l0_6.take i.toNat = l0_6 := List.take_of_length_le (by omega)
      have hin : i.toNat = l0_6.length := by omega
      have HM' := HM.out
      rw [e3, hin] at HM'
      replace HM := am_ (show wr.ownsMap Tryd.prog 9 (plainElem (H := Unit) Tryd.prog 4) w2.heap.size (l0_6.length + 1) (mapD .string (([] :: takenS l0_6) ++ takenL (fullB a0_0 a0_1 l0_2 l0_3 a0_4 a0_5 l0_6) a3 a2 (l1.take 0))) by rw [takenL_zero]; exact HM')
      clear HM' e3 hin
      have u0 := bc_ BK.out 0; have u1 := bc_ BK.out 1; have u2 := bc_ BK.out 2; have u3 := bc_ BK.out 3; have u4 := bc_ BK.out 4; have u5 := bc_ BK.out 5; have u6 := bc_ BK.out 6
      go_wp2
      clear u0 u1 u2 u3 u4 u5 u6
      go_loopg [45] l1.length (fun d v45 w' => ∃ i : Int, ∃ n : Nat, 0 ≤ i ∧ i.toNat + d = l1.length ∧ v45 = .int .i64 i ∧ n ≤ l0_6.length + 1 + i.toNat ∧ Aside0 (w'.ownsMap Tryd.prog 9 (plainElem (H := Unit) Tryd.prog 4) w2.heap.size (n) (mapD .string (([] :: takenS l0_6) ++ takenL (fullB a0_0 a0_1 l0_2 l0_3 a0_4 a0_5 l0_6) a3 a2 (l1.take i.toNat)))) ∧ Aside0 (Below w.heap.size w w') ∧ Aside0 (w'.heap[w.heap.size]? = some (.cells #[.int .i64 a0_0, .int .i64 a0_1, .slice A0_2 l0_2.length c0_2, .slice A0_3 l0_3.length c0_3, .int .i64 a0_4, .string a0_5, .slice A0_6 l0_6.length c0_6] 26)))
      case atStart => exact ⟨0, _, by omega, by simp, rfl, by simp, HM, HB, BK⟩
      case round =>
       clear HM HB BK
       obtain ⟨i, n, hi0, hd, rfl, hn, HM, HB, BK⟩ := hrel
       by_cases hlt : i < (l1.length : Int)
       ·obtain ⟨ad, e1, hx0, hx1, hx2, hx3, hx4, hx5⟩ := at_T62 HK1.out i hi0 hlt
        cases e1
        replace hx0 := (HB.out.cell (wb_ w _ hx0)).trans hx0; replace hx1 := (HB.out.cell (wb_ w _ hx1)).trans hx1; replace hx2 := (HB.out.cell (wb_ w _ hx2)).trans hx2; replace hx3 := (HB.out.cell (wb_ w _ hx3)).trans hx3; replace hx4 := (HB.out.cell (wb_ w _ hx4)).trans hx4; replace hx5 := (HB.out.cell (wb_ w _ hx5)).trans hx5
        obtain ⟨hd1, hmem⟩ := dropFreeL l1 i hi0 hlt
        have hsz := HS.out.2.2 _ hmem
        generalize rd_T62 l1 i = x at hx0 hx1 hx2 hx3 hx4 hx5 hd1 hmem hsz
        obtain ⟨f0, f1, f2, f3, f4, f5⟩ := x
        simp only at hx0 hx1 hx2 hx3 hx4 hx5 hsz
        obtain ⟨b1, h1⟩ : ∃ b, boundB f0 f1 f2 f3 f4 f5 f2 a2 = b := ⟨_, rfl⟩
        have CB := am_ (fun (g : Nat) W (bk : W.heap[g]? = some (.cells #[.int .i64 f0, .int .i64 f1, .string f2, .int .i64 f3, .string f4, .bool f5] 62)) => lease_Bound.calls g f0 f1 f2 f3 f4 f5 f2 a2 b1 W bk (by omega) h1)
        have hheld : heldBy a3 a2 ⟨f0, f1, f2, f3, f4, f5⟩ = (f5 && (decide (f2.toList ≠ a3.toList) && b1)) := by unfold heldBy; rw [h1]
        clear h1
        have hkey := WideMaps.keyOf_string_mk Tryd.underlying9 (fullB_size (a0 := a0_0) (a1 := a0_1) (l2 := l0_2) (l3 := l0_3) (a4 := a0_4) (z := a0_5) (l6 := l0_6) hsz HS.out.1.1.2.2.1)
        have CFo := am_ (fun W => CF.out f4 W hsz)
        have HIN := am_ (fun e => takenL_in (fullB a0_0 a0_1 l0_2 l0_3 a0_4 a0_5 l0_6) a3 a2 (l1.take i.toNat) ⟨f0, f1, f2, f3, f4, f5⟩ e)
        have HOUT := am_ (fun e => takenL_out (fullB a0_0 a0_1 l0_2 l0_3 a0_4 a0_5 l0_6) a3 a2 (l1.take i.toNat) ⟨f0, f1, f2, f3, f4, f5⟩ e)
        have HD := am_ hd1
        clear hd1 hmem
        rw [hheld] at HIN HOUT
        clear hheld
        simp only at HIN
        generalize fullB a0_0 a0_1 l0_2 l0_3 a0_4 a0_5 l0_6 f4 = FK at hkey CFo HIN
        have u0 := bc_ BK.out 0; have u1 := bc_ BK.out 1; have u2 := bc_ BK.out 2; have u3 := bc_ BK.out 3; have u4 := bc_ BK.out 4; have u5 := bc_ BK.out 5; have u6 := bc_ BK.out 6
        cases f5 with
        | false =>
         clear CB CF CFo HIN
         go_wp2
         go_roundg (l1.length - (i.toNat + 1))
         case measure => first | omega | (simp; omega)
         case rel =>
          have e2 : (i + 1).toNat = i.toNat + 1 := by omega
          refine ⟨i + 1, n, by omega, by omega, by go_num, by omega, ⟨?_⟩, ⟨(by repeat (with_reducible first | exact HB.out | apply p3_ | apply p1_ | apply p2_))⟩, ⟨(by (with_reducible repeat (first | exact BK.out | refine k2_ ?_ _ | refine k3_ ?_ | refine k1_ ?_ _)))⟩⟩
          rw [e2, HD.out, HOUT.out (by simp)]
          exact HM.out.alloc (.cells #[.int .i64 f0, .int .i64 f1, .string f2, .int .i64 f3, .string f4, .bool false] 62)
        | true =>
         by_cases hc : f2.toList = a3.toList
         ·clear CB CF CFo HIN
          go_wp2
          go_roundg (l1.length - (i.toNat + 1))
          case measure => first | omega | (simp; omega)
          case rel =>
           have e2 : (i + 1).toNat = i.toNat + 1 := by omega
           refine ⟨i + 1, n, by omega, by omega, by go_num, by omega, ⟨?_⟩, ⟨(by repeat (with_reducible first | exact HB.out | apply p3_ | apply p1_ | apply p2_))⟩, ⟨(by (with_reducible repeat (first | exact BK.out | refine k2_ ?_ _ | refine k3_ ?_ | refine k1_ ?_ _)))⟩⟩
           rw [e2, HD.out, HOUT.out (by simp [hc])]
           exact HM.out.alloc (.cells #[.int .i64 f0, .int .i64 f1, .string f2, .int .i64 f3, .string f4, .bool true] 62)
         cases b1 with
         | false =>
          clear CF CFo HIN u0 u1 u2 u3 u4 u5 u6
          go_wp2_with (first
           | (go_at_call 55; (with_reducible refine (CB.out _ _ (blk_new wr (.cells #[.int .i64 f0, .int .i64 f1, .string f2, .int .i64 f3, .string f4, .bool true] 62))).mono ?_); rintro e w5 ⟨rfl, hb2⟩; replace HM := am_ (owns_below (HM.out.alloc (.cells #[.int .i64 f0, .int .i64 f1, .string f2, .int .i64 f3, .string f4, .bool true] 62)) hb2); replace BK := am_ (kb_ (k1_ BK.out (.cells #[.int .i64 f0, .int .i64 f1, .string f2, .int .i64 f3, .string f4, .bool true] 62)) hb2); replace HB := am_ (bt_ (p3_ HB.out (.cells #[.int .i64 f0, .int .i64 f1, .string f2, .int .i64 f3, .string f4, .bool true] 62)) hb2); clear hb2; have u0 := bc_ BK.out 0; have u1 := bc_ BK.out 1; have u2 := bc_ BK.out 2; have u3 := bc_ BK.out 3; have u4 := bc_ BK.out 4; have u5 := bc_ BK.out 5; have u6 := bc_ BK.out 6)
           | go_in)
          go_roundg (l1.length - (i.toNat + 1))
          case measure => first | omega | (simp; omega)
          case rel =>
           have e2 : (i + 1).toNat = i.toNat + 1 := by omega
           refine ⟨i + 1, n, by omega, by omega, by go_num, by omega, ⟨?_⟩, HB, BK⟩
           rw [e2, HD.out, HOUT.out (by simp)]
           exact HM.out
         | true =>
          clear u0 u1 u2 u3 u4 u5 u6
          have hne : (!f2.toList == a3.toList) = true := by simp [hc]
          go_wp2_with (first
           | (go_at_call 55; (with_reducible refine (CB.out _ _ (blk_new wr (.cells #[.int .i64 f0, .int .i64 f1, .string f2, .int .i64 f3, .string f4, .bool true] 62))).mono ?_); rintro e w5 ⟨rfl, hb2⟩; have hbx := hb2; replace HM := am_ (owns_below (HM.out.alloc (.cells #[.int .i64 f0, .int .i64 f1, .string f2, .int .i64 f3, .string f4, .bool true] 62)) hb2); replace BK := am_ (kb_ (k1_ BK.out (.cells #[.int .i64 f0, .int .i64 f1, .string f2, .int .i64 f3, .string f4, .bool true] 62)) hb2); replace HB := am_ (bt_ (p3_ HB.out (.cells #[.int .i64 f0, .int .i64 f1, .string f2, .int .i64 f3, .string f4, .bool true] 62)) hb2); clear hb2; have u0 := bc_ BK.out 0; have u1 := bc_ BK.out 1; have u2 := bc_ BK.out 2; have u3 := bc_ BK.out 3; have u4 := bc_ BK.out 4; have u5 := bc_ BK.out 5; have u6 := bc_ BK.out 6; have x4 := bc_ (kb_ (blk_new wr (.cells #[.int .i64 f0, .int .i64 f1, .string f2, .int .i64 f3, .string f4, .bool true] 62)) hbx) 4)
           | (go_at_call 33; (with_reducible refine (CFo.out _ (by repeat (with_reducible first | exact HB.out | apply p3_ | apply p1_ | apply p2_))).mono ?_); rintro e w6 ⟨rfl, hb2⟩; replace HM := am_ (owns_below HM.out hb2); replace BK := am_ (kb_ (show _ from (by (with_reducible repeat (first | exact BK.out | refine k2_ ?_ _ | refine k3_ ?_ | refine k1_ ?_ _)))) hb2); replace HB := am_ (bt_ (show Below w.heap.size w _ from (by repeat (with_reducible first | exact HB.out | apply p3_ | apply p1_ | apply p2_))) hb2); clear hb2)
           | (at_mapUpdate; refine wpList_mapUpdate_own _ rfl _ _ _ 81 rfl 9 4 (Maps.string_keyed Tryd.underlying9) Tryd.underlying81 _ w2.heap.size n _ rfl HM.out (by unfold maxLen; omega) _ _ _ rfl rfl hkey _ [] (plainElem_bool Tryd.underlying4 true) ?_; intro w7 hown1 hgrow1; have HM1 := am_ hown1; have HB1 := am_ (free_grown hgrow1 (by repeat (with_reducible first | exact HB.out | apply p3_ | apply p1_ | apply p2_)) (Nat.le_of_lt hlt2)); have BK1 := am_ (show w7.heap[w.heap.size]? = some (.cells #[.int .i64 a0_0, .int .i64 a0_1, .slice A0_2 l0_2.length c0_2, .slice A0_3 l0_3.length c0_3, .int .i64 a0_4, .string a0_5, .slice A0_6 l0_6.length c0_6] 26) from blk_grown (by (with_reducible repeat (first | exact BK.out | refine k2_ ?_ _ | refine k3_ ?_ | refine k1_ ?_ _))) hgrow1 (fun e => absurd (e5_ e) (Nat.ne_of_lt hlt2))); clear hown1 hgrow1)
           | go_in)
          go_roundg (l1.length - (i.toNat + 1))
          case measure => first | omega | (simp; omega)
          case rel =>
           have e2 : (i + 1).toNat = i.toNat + 1 := by omega
           refine ⟨i + 1, n + 1, by omega, by omega, by go_num, by omega, ⟨?_⟩, HB1, BK1⟩
           rw [e2, HD.out, HIN.out (by simp [hc])]
           rw [← List.append_assoc, mapD_snoc]; exact HM1.out
       ·have e3 : l1.take i.toNat = l1 := List.take_of_length_le (by omega)
        have HM' := HM.out
        rw [e3] at HM'
        replace HM := am_ HM'
        clear HM' e3
        have u0 := bc_ BK.out 0; have u1 := bc_ BK.out 1; have u2 := bc_ BK.out 2; have u3 := bc_ BK.out 3; have u4 := bc_ BK.out 4; have u5 := bc_ BK.out 5; have u6 := bc_ BK.out 6
        have hkey := WideMaps.keyOf_string_mk Tryd.underlying9 (fullB_size (a0 := a0_0) (a1 := a0_1) (l2 := l0_2) (l3 := l0_3) (a4 := a0_4) (z := a0_5) (l6 := l0_6) HS.out.1.2 HS.out.1.1.2.2.1)
        have HRo := HR.out
        have CFo := am_ (fun W => CF.out a4 W HS.out.1.2)
        generalize fullB a0_0 a0_1 l0_2 l0_3 a0_4 a0_5 l0_6 a4 = FK at hkey HRo CFo
        obtain ⟨b3, hb3⟩ : ∃ b3 : Bool, (b3 = true ↔ FK.data.toList ∈ [] :: takenS l0_6 ++ takenL (fullB a0_0 a0_1 l0_2 l0_3 a0_4 a0_5 l0_6) a3 a2 l1) := ⟨decide _, decide_eq_true_iff⟩
        have hbr : (!b3) = r1 := by rw [← HRo, Bool.eq_iff_iff, decide_eq_true_iff, ← hb3]; cases b3 <;> simp
        clear HRo HR CF HK6 HK1
        subst hbr
        have HL : ∀ W, (W.ownsMap Tryd.prog 9 (plainElem (H := Unit) Tryd.prog 4) w2.heap.size n (mapD .string ([] :: takenS l0_6 ++ takenL (fullB a0_0 a0_1 l0_2 l0_3 a0_4 a0_5 l0_6) a3 a2 l1))) → (Instr.lookup 81 (.map (some w2.heap.size)) (.string FK) false).run Tryd.prog W = .ok (.bool b3) W := fun W h => setLook Lit.string (fun _ => trivial) (fun _ _ e => by injection e) (Maps.string_keyed Tryd.underlying9) Tryd.underlying81 Tryd.underlying4 (by kernel_rfl) h hkey hb3
        replace HL := am_ HL
        clear hb3 hkey
        go_wp2_with (first
         | (go_at_call 33; (with_reducible refine (CFo.out _ (by repeat (with_reducible first | exact HB.out | apply p3_ | apply p1_ | apply p2_))).mono ?_); rintro e w6 ⟨rfl, hb2⟩; have hlook := HL.out _ (owns_below HM.out hb2); replace BK := am_ (kb_ (show _ from (by (with_reducible repeat (first | exact BK.out | refine k2_ ?_ _ | refine k3_ ?_ | refine k1_ ?_ _)))) hb2); replace HB := am_ (bt_ (show Below w.heap.size w _ from (by repeat (with_reducible first | exact HB.out | apply p3_ | apply p1_ | apply p2_))) hb2); clear hb2)
         | go_in)
        go_ret2
        exact ⟨rfl, (by repeat (with_reducible first | exact HB.out | apply p3_ | apply p1_ | apply p2_))⟩

/-! ### pinfoldref1_parts: function 66 -/
def pinfoldref1_parts.l0 : Nat → ByteArray → List ByteArray → Int → Int → Option (List ByteArray)
 | 0, _, _, _, _ => none
 | k + 1, x0, x3, x4, x5 => if x5 ≤ (x0.size : Int) then (if x5 = (x0.size : Int) then (if 0 ≤ x4 then (if x4 ≤ x5 then (if x3.length < 8796093022208 then (pinfoldref1_parts.l0 k x0 (x3 ++ [x0.extract (x4 : Int).toNat (x5 : Int).toNat]) (wrap64 (x5 + 1)) (wrap64 (x5 + 1))) else (none)) else (none)) else (none)) else (if 0 ≤ x5 then (if x5 < (x0.size : Int) then (if (bt x0 x5) = 46 then (if 0 ≤ x4 then (if x4 ≤ x5 then (if x3.length < 8796093022208 then (pinfoldref1_parts.l0 k x0 (x3 ++ [x0.extract (x4 : Int).toNat (x5 : Int).toNat]) (wrap64 (x5 + 1)) (wrap64 (x5 + 1))) else (none)) else (none)) else (none)) else (pinfoldref1_parts.l0 k x0 x3 x4 (wrap64 (x5 + 1)))) else (none)) else (none))) else (some x3)
def pinfoldref1_parts.f (k : Nat) (a0 : ByteArray) : Option (List ByteArray) := pinfoldref1_parts.l0 k a0 ([] : List ByteArray) 0 0
theorem pinfoldref1_parts.mono_l : ∀ k, (∀ y0 y1 y2 y3, LeO (pinfoldref1_parts.l0 k y0 y1 y2 y3) (pinfoldref1_parts.l0 (k + 1) y0 y1 y2 y3))
 | 0 => fun _ _ _ _ r h => by simp [pinfoldref1_parts.l0] at h
 | k + 1 => by
  have ih0 := pinfoldref1_parts.mono_l k
  ·intro y0 y1 y2 y3
   unfold pinfoldref1_parts.l0
   repeat' first
   | (with_reducible exact ih0 _ _ _ _)
   | (with_reducible exact LeO.refl _)
   | (with_reducible exact LeO.none _)
   | (with_reducible refine LeO.ite ?_ ?_)
   | (with_reducible refine LeO.bind ?_ (fun _ => ?_))
   | exact ih0 _ _ _ _
   | exact LeO.none _
   | refine LeO.ite ?_ ?_
   | refine LeO.bind ?_ (fun _ => ?_)
theorem pinfoldref1_parts.mono : ∀ a0 k, LeO (pinfoldref1_parts.f k a0) (pinfoldref1_parts.f (k + 1) a0) := by
 intro a0 k
 have ih0 := pinfoldref1_parts.mono_l k
 unfold pinfoldref1_parts.f
 repeat' first
   | (with_reducible exact ih0 _ _ _ _)
   | (with_reducible exact LeO.refl _)
   | (with_reducible exact LeO.none _)
   | (with_reducible refine LeO.ite ?_ ?_)
   | (with_reducible refine LeO.bind ?_ (fun _ => ?_))
   | exact ih0 _ _ _ _
   | exact LeO.none _
   | refine LeO.ite ?_ ?_
   | refine LeO.bind ?_ (fun _ => ?_)
set_option maxHeartbeats 8000000 in
set_option maxRecDepth 100000 in
theorem pinfoldref1_parts.calls (k : Nat) (a0 : ByteArray) (r : List ByteArray) (w : World) (h : pinfoldref1_parts.f k a0 = some r) :
  Calls Tryd.prog 66 #[.string a0] w fun e w' => ∃ v0_ : Value, e = .returned (v0_) ∧ Kd.R Kd.string 9 w' w.heap.size (fun _ => True) v0_ r ∧ Below w.heap.size w w' := by
 have HB := am_ (Below.refl w.heap.size w)
 have H : (pinfoldref1_parts.l0 k a0 ([] : List ByteArray) 0 0) = some r := h
 clear h
 have H' := am_ H
 clear H
 go_enter Tryd.func66, Tryd.ntmps66
 go_wp2
 go_loopg [3, 4, 5] k (fun kq v3 v4 v5 w' => ∃ (x3_1 : List ByteArray) (x4_1 : Int) (x5_1 : Int), v4 = .int .i64 x4_1 ∧ v5 = .int .i64 x5_1 ∧ Aside0 (pinfoldref1_parts.l0 kq a0 x3_1 x4_1 x5_1 = some r) ∧ Aside0 (kq ≤ k) ∧ Aside0 (Kd.R Kd.string 9 w' w.heap.size (fun _ => True) v3 x3_1) ∧ Aside0 (Below w.heap.size w w'))
 case atStart => exact ⟨(([] : List ByteArray)), (0), (0), (by first | rfl | (simp; done) | (simp [*]; done)), (by first | rfl | (simp; done) | (simp [*]; done)), H', ⟨Nat.le_refl _⟩, ⟨by first | exact Kd.R_nil _ _ _ _ _ | exact Kd.N_nil _ _ _ _ _ | exact Kd.V_nil _ _ _ _ _ | exact Kd.Q_nil _ _ _ _ _ | exact Kd.S_nil _ _ _ _ _⟩, ⟨by repeat (with_reducible first | exact HB.out | apply p3_ | apply p1_ | apply p2_)⟩⟩
 case round =>
  clear H'
  obtain ⟨x3_1, x4_1, x5_1, rfl, rfl, HA, HK1, HO_3, HB⟩ := hrel
  cases gk with
  | zero => exact absurd HA.out (by simp [pinfoldref1_parts.l0])
  | succ k1 =>
   have H := HA.out
   clear HA
   simp only [pinfoldref1_parts.l0] at H
   by_cases c2 : x5_1 ≤ (a0.size : Int)
   ·rw [if_pos c2] at H
    have c2b0 : decide (x5_1 ≤ (a0.size : Int)) = true := decide_eq_true c2
    clear c2
    by_cases c3 : x5_1 = (a0.size : Int)
    ·rw [if_pos c3] at H
     have c3b0 : (x5_1 == (a0.size : Int)) = true := beq_iff_eq.mpr c3
     have c3b1 : (x5_1 != (a0.size : Int)) = false := e1_ c3
     clear c3
     by_cases c4 : 0 ≤ x4_1
     rotate_left
     ·rw [if_neg c4] at H
      exact absurd H (by simp)
     rw [if_pos c4] at H
     have c4b0 := eq_true c4
     have c4b1 : decide (0 ≤ x4_1) = true := decide_eq_true c4
     clear c4
     by_cases c5 : x4_1 ≤ x5_1
     rotate_left
     ·rw [if_neg c5] at H
      exact absurd H (by simp)
     rw [if_pos c5] at H
     have c5b0 := eq_true c5
     have c5b1 : decide (x4_1 ≤ x5_1) = true := decide_eq_true c5
     clear c5
     have c6b0 := eq_true (of_decide_eq_true (by first | (with_reducible assumption) | assumption) : x5_1 ≤ (a0.size : Int))
     by_cases c7 : x3_1.length < 8796093022208
     rotate_left
     ·rw [if_neg c7] at H
      exact absurd H (by simp)
     rw [if_pos c7] at H
     have LMc7 := am_ c7
     clear c7
     obtain ⟨y163, hy163⟩ : ∃ y_ : List ByteArray, y_ = (x3_1 ++ [a0.extract (x4_1 : Int).toNat (x5_1 : Int).toNat]) := ⟨_, rfl⟩
     replace H : (pinfoldref1_parts.l0 k1 a0 y163 (wrap64 (x5_1 + 1)) (wrap64 (x5_1 + 1))) = some r := by first | (rw [hy163]; with_reducible exact H) | (have H2_ := (Option.bind_some _ _).symm.trans H; rw [hy163]; with_reducible exact H2_) | (have H2_ := (Option.bind_some _ _).symm.trans H; with_reducible exact H2_) | with_reducible exact H | (rw [hy163]; exact H) | exact H
     have Ny163 := am_ hy163
     clear hy163
     have H' := am_ H
     clear H
     go_wp2_with (first | ((with_reducible refine gate_builtin (b := .append) (xs := #[.tmp 22, .tmp 27]) rfl ?_); at_builtin; refine Kd.R_append Kd.string (w0 := w) w.heap.size rfl (.tmp 22) (.tmp 27) 63 9 (.string ⟨#[]⟩) 16 rfl Tryd.underlying63 info9 rfl (by decide) (by omega) u3 x3_1 (a0.extract (x4_1 : Int).toNat (x5_1 : Int).toNat) [.string (a0.extract (x4_1 : Int).toNat (x5_1 : Int).toNat)] (fun _ => True) (fun _ => False) rfl rfl ?aP (fun _ hk => hk.elim) ?aF ?aO ?aB ?aS ?aL ?_; (case aP => exact rfl); (case aB => exact (by repeat (with_reducible first | exact HB.out | apply p3_ | apply p1_ | apply p2_))); (case aF => exact (fun _ _ => trivial)); (case aO => exact (by (with_reducible repeat (first | apply r1_ | apply r2_ | apply r3_)); exact HO_3.out)); (case aS => exact (bz_ (by repeat (with_reducible first | exact HB.out | apply p3_ | apply p1_ | apply p2_)))); (case aL => have := LMc7.out; omega); intro v164 w8 ho hb hg hat; rw [← Ny163.out] at ho; have n0_ := am_ (hb); have n1_ := am_ (ho); clear HB; clear HO_3; have HB := n0_; have HO165 := n1_; clear n0_ n1_; clear ho hb hg hat))
     go_roundg k1
     case measure => have := HK1.out; omega
     case rel => exact ⟨(y163), (wrap64 (x5_1 + 1)), (wrap64 (x5_1 + 1)), (by first | rfl | (simp; done) | (simp [*]; done)), (by first | rfl | (simp; done) | (simp [*]; done)), H', ⟨by have := HK1.out; omega⟩, ⟨by (with_reducible repeat (first | apply r1_ | apply r2_ | apply r3_)); exact HO165.out⟩, ⟨by repeat (with_reducible first | exact HB.out | apply p3_ | apply p1_ | apply p2_)⟩⟩
    rw [if_neg c3] at H
    have c3b0 : (x5_1 == (a0.size : Int)) = false := e2_ c3
    have c3b1 : (x5_1 != (a0.size : Int)) = true := bne_iff_ne.mpr c3
    by_cases c9 : 0 ≤ x5_1
    rotate_left
    ·rw [if_neg c9] at H
     exact absurd H (by simp)
    rw [if_pos c9] at H
    have c9b0 : decide (0 ≤ x5_1) = true := decide_eq_true c9
    clear c9
    by_cases c10 : x5_1 < (a0.size : Int)
    rotate_left
    ·rw [if_neg c10] at H
     exact absurd H (by simp)
    rw [if_pos c10] at H
    have c10b0 : decide (x5_1 < (a0.size : Int)) = true := decide_eq_true c10
    clear c10
    by_cases c12 : (bt a0 x5_1) = 46
    ·rw [if_pos c12] at H
     have c12b0 : ((bt a0 x5_1) == 46) = true := beq_iff_eq.mpr c12
     have c12b1 : ((bt a0 x5_1) != 46) = false := e1_ c12
     clear c12
     by_cases c13 : 0 ≤ x4_1
     rotate_left
     ·rw [if_neg c13] at H
      exact absurd H (by simp)
     rw [if_pos c13] at H
     have c13b0 := eq_true c13
     have c13b1 : decide (0 ≤ x4_1) = true := decide_eq_true c13
     clear c13
     by_cases c14 : x4_1 ≤ x5_1
     rotate_left
     ·rw [if_neg c14] at H
      exact absurd H (by simp)
     rw [if_pos c14] at H
     have c14b0 := eq_true c14
     have c14b1 : decide (x4_1 ≤ x5_1) = true := decide_eq_true c14
     clear c14
     have c15b0 := eq_true (of_decide_eq_true (by first | (with_reducible assumption) | assumption) : x5_1 ≤ (a0.size : Int))
     by_cases c16 : x3_1.length < 8796093022208
     rotate_left
     ·rw [if_neg c16] at H
      exact absurd H (by simp)
     rw [if_pos c16] at H
     have LMc16 := am_ c16
     clear c16
     obtain ⟨y166, hy166⟩ : ∃ y_ : List ByteArray, y_ = (x3_1 ++ [a0.extract (x4_1 : Int).toNat (x5_1 : Int).toNat]) := ⟨_, rfl⟩
     replace H : (pinfoldref1_parts.l0 k1 a0 y166 (wrap64 (x5_1 + 1)) (wrap64 (x5_1 + 1))) = some r := by first | (rw [hy166]; with_reducible exact H) | (have H2_ := (Option.bind_some _ _).symm.trans H; rw [hy166]; with_reducible exact H2_) | (have H2_ := (Option.bind_some _ _).symm.trans H; with_reducible exact H2_) | with_reducible exact H | (rw [hy166]; exact H) | exact H
     have Ny166 := am_ hy166
     clear hy166
     have H' := am_ H
     clear H
     have p11 : 0 ≤ (x5_1 : Int) := of_decide_eq_true (by first | (with_reducible assumption) | assumption)
     have q11 : x5_1 < (a0.size : Int) := of_decide_eq_true (by first | (with_reducible assumption) | assumption)
     have hx11 := bt_at a0 x5_1
     replace p11 := eq_true p11
     replace q11 := eq_true q11
     go_wp2_with (first | ((with_reducible refine gate_builtin (b := .append) (xs := #[.tmp 22, .tmp 27]) rfl ?_); at_builtin; refine Kd.R_append Kd.string (w0 := w) w.heap.size rfl (.tmp 22) (.tmp 27) 63 9 (.string ⟨#[]⟩) 16 rfl Tryd.underlying63 info9 rfl (by decide) (by omega) u3 x3_1 (a0.extract (x4_1 : Int).toNat (x5_1 : Int).toNat) [.string (a0.extract (x4_1 : Int).toNat (x5_1 : Int).toNat)] (fun _ => True) (fun _ => False) rfl rfl ?aP (fun _ hk => hk.elim) ?aF ?aO ?aB ?aS ?aL ?_; (case aP => exact rfl); (case aB => exact (by repeat (with_reducible first | exact HB.out | apply p3_ | apply p1_ | apply p2_))); (case aF => exact (fun _ _ => trivial)); (case aO => exact (by (with_reducible repeat (first | apply r1_ | apply r2_ | apply r3_)); exact HO_3.out)); (case aS => exact (bz_ (by repeat (with_reducible first | exact HB.out | apply p3_ | apply p1_ | apply p2_)))); (case aL => have := LMc16.out; omega); intro v167 w17 ho hb hg hat; rw [← Ny166.out] at ho; have n0_ := am_ (hb); have n1_ := am_ (ho); clear HB; clear HO_3; have HB := n0_; have HO168 := n1_; clear n0_ n1_; clear ho hb hg hat))
     go_roundg k1
     case measure => have := HK1.out; omega
     case rel => exact ⟨(y166), (wrap64 (x5_1 + 1)), (wrap64 (x5_1 + 1)), (by first | rfl | (simp; done) | (simp [*]; done)), (by first | rfl | (simp; done) | (simp [*]; done)), H', ⟨by have := HK1.out; omega⟩, ⟨by (with_reducible repeat (first | apply r1_ | apply r2_ | apply r3_)); exact HO168.out⟩, ⟨by repeat (with_reducible first | exact HB.out | apply p3_ | apply p1_ | apply p2_)⟩⟩
    rw [if_neg c12] at H
    have c12b0 : ((bt a0 x5_1) == 46) = false := e2_ c12
    have c12b1 : ((bt a0 x5_1) != 46) = true := bne_iff_ne.mpr c12
    have H' := am_ H
    clear H
    have p11 : 0 ≤ (x5_1 : Int) := of_decide_eq_true (by first | (with_reducible assumption) | assumption)
    have q11 : x5_1 < (a0.size : Int) := of_decide_eq_true (by first | (with_reducible assumption) | assumption)
    have hx11 := bt_at a0 x5_1
    replace p11 := eq_true p11
    replace q11 := eq_true q11
    go_wp2
    go_roundg k1
    case measure => have := HK1.out; omega
    case rel => exact ⟨(x3_1), (x4_1), (wrap64 (x5_1 + 1)), (by first | rfl | (simp; done) | (simp [*]; done)), (by first | rfl | (simp; done) | (simp [*]; done)), H', ⟨by have := HK1.out; omega⟩, ⟨by (with_reducible repeat (first | apply r1_ | apply r2_ | apply r3_)); exact HO_3.out⟩, ⟨by repeat (with_reducible first | exact HB.out | apply p3_ | apply p1_ | apply p2_)⟩⟩
   rw [if_neg c2] at H
   have c2b0 : decide (x5_1 ≤ (a0.size : Int)) = false := decide_eq_false c2
   clear c2
   obtain rfl := e5_ H
   go_wp2
   go_ret
   exact ⟨_, by first | rfl | (simp [errW_none, errW_some] <;> rfl) | (simp [*, errW_none, errW_some] <;> rfl), by (with_reducible repeat (first | apply r1_ | apply r2_ | apply r3_)); exact HO_3.out, by repeat (with_reducible first | exact HB.out | apply p3_ | apply p1_ | apply p2_)⟩

end Go.Proofs.YtnjnfpnkcapilaaDoor.PRegises
