-- Made by wip/pr.py out of the translation (a turned copy of the kit's print; contracts by hand where said).
import Derived.Test.YtibalpbkmgegnaaDoorPJx0
import Derived.Test.YtibalpbkmgegnaaDoorPJx2
import Derived.Test.YtibalpbkmgegnaaDoorPJx4
import Derived.Test.YtibalpbkmgegnaaDoorPJx6
import Derived.Test.YtibalpbkmgegnaaDoorPJx7
import Derived.Test.YtibalpbkmgegnaaDoorPJx9
namespace Go.Proofs.YtibalpbkmgegnaaDoor.PJ
open Go.RowKit Go.Proofs.YtibalpbkmgegnaaDoorW.PrintWords Go.Proofs.YtibalpbkmgegnaaDoorW.PrintLast Go.Proofs.YtibalpbkmgegnaaDoorW.PrintMore
-- shrunk
attribute [local go_sem] max2_int min2_int max_two min_two max_three min_three max_four min_four   -- for this text's walks alone
set_option linter.unusedVariables false
set_option linter.unusedSimpArgs false

/-! ### regis_Free: function 52 -/
-- BY HAND
-- 37 38 41 45 69
theorem owns_below {H : Type} {P : Program} {k : TypeId} {R : Value → Option (DataW H × List MemPlace)} {b n : Nat} {D : DataW H} {w w' : World} (h : w.ownsMap P k R b n D) (hb : Below w.heap.size w w') : w'.ownsMap P k R b n D := by
 have hlt := h.lt
 obtain ⟨es, clock, hb0, F, hs, hD⟩ := h
 exact ⟨es, clock, (hb.block b hlt).trans hb0, F, hs, hD⟩
/-- a pair of a map's literal, at the operation. -/
theorem wpList_pair_own {H : Type} {P : Program} (w : World) {ops : Array Oper} {rest : List Oper} {o : Oper} {a : Act} {Q : Exit → Act → World → Prop}
  (hg : o.guard = none) (m x v : Operand) (t : TypeId) (hop : o.op = Op.insert t m x v)
  (k e : TypeId) (K : Maps.Keyed P k) (ht : P.underlying t = some (.map k e)) (R : Value → Option (DataW H × List MemPlace)) (b n : Nat) (D : DataW H)
  (hm : a.eval m = .map (some b)) (hown : w.ownsMap P k R b n D) (hn : n < maxLen) (key val : Value) (kl : Lit) (hx : a.eval x = key) (hv : a.eval v = val) (hkey : keyOf P k key = some kl)
  (d : DataW H) (ps : List MemPlace) (hval : R val = some (d, ps))
  (hK : ∀ w', w'.ownsMap P k R b (n + 1) (D.put kl d) → w.grownBy w' (some b) → wpList P ops Q rest (a.put o.dst undef) w') :
  wpList P ops Q (o :: rest) a w := by
 refine wpList_plain hg fun K' hK' => ?_
 obtain ⟨w', hrun, r1, r2⟩ := hown.update K ht hn hkey hval
 unfold Oper.wp
 simp [execOp, hop, hm, hx, hv, hrun, Result.andThen]
 exact hK' _ _ (hK w' r1 r2)
/-- behind a write into a map of the call's own. -/
theorem free_grown {w W w4 : World} {b : Nat} (hg : W.grownBy w4 (some b)) (h : Below w.heap.size w W) (hb : w.heap.size ≤ b) : Below w.heap.size w w4 := h.grown hg h.size (fun k hk => by cases hk; exact hb)
theorem dropFreeS (l0 : List S74) (i : Int) (h0 : 0 ≤ i) (h1 : i < l0.length) : l0.take (i.toNat + 1) = l0.take i.toNat ++ [rd_T74 l0 i] ∧ rd_T74 l0 i ∈ l0 := by
 have h : i.toNat < l0.length := by omega
 have e : rd_T74 l0 i = l0[i.toNat] := by
  unfold rd_T74
  rw [List.getD_eq_getElem?_getD, List.getElem?_eq_getElem h]
  rfl
 rw [e, List.take_succ_eq_append_getElem h]
 exact ⟨rfl, List.getElem_mem h⟩
theorem dropFreeL (l0 : List S36) (i : Int) (h0 : 0 ≤ i) (h1 : i < l0.length) : l0.take (i.toNat + 1) = l0.take i.toNat ++ [rd_T36 l0 i] ∧ rd_T36 l0 i ∈ l0 := by
 have h : i.toNat < l0.length := by omega
 have e : rd_T36 l0 i = l0[i.toNat] := by
  unfold rd_T36
  rw [List.getD_eq_getElem?_getD, List.getElem?_eq_getElem h]
  rfl
 rw [e, List.take_succ_eq_append_getElem h]
 exact ⟨rfl, List.getElem_mem h⟩
theorem takenS_snoc (l : List S74) (x : S74) : takenS (l ++ [x]) = takenS l ++ [x.f0.data.toList] := by unfold takenS; rw [List.map_append]; rfl
theorem takenL_zero (F : ByteArray → ByteArray) (c : ByteArray) (now : Int) (l : List S36) (p : List (List UInt8)) : p ++ takenL F c now (l.take 0) = p := by unfold takenL; simp
theorem takenL_in (F : ByteArray → ByteArray) (c : ByteArray) (now : Int) (l : List S36) (x : S36) (h : heldBy c now x = true) : takenL F c now (l ++ [x]) = takenL F c now l ++ [(F x.f4).data.toList] := by unfold takenL; rw [List.filter_append, List.map_append]; simp [h]
theorem takenL_out (F : ByteArray → ByteArray) (c : ByteArray) (now : Int) (l : List S36) (x : S36) (h : heldBy c now x = false) : takenL F c now (l ++ [x]) = takenL F c now l := by unfold takenL; rw [List.filter_append, List.map_append]; simp [h]
def regis_Free.f (a0_0 : Int) (a0_1 : Int) (l0_2 : List Int) (l0_3 : List S72) (a0_4 : Int) (a0_5 : ByteArray) (l0_6 : List S74) (l1 : List S36) (a2 : Int) (a3 a4 : ByteArray) : Option (Bool × Int) := if freeFit l0_2 l0_3 a0_5 l0_6 l1 a4 then some (freeB a0_0 a0_1 l0_2 l0_3 a0_4 a0_5 l0_6 l1 a2 a3 a4, if mayFree a0_0 a0_1 l0_2 l0_3 a0_4 a0_5 l0_6 l1 a4 then 0 else 1600) else none
set_option maxHeartbeats 8000000 in
set_option maxRecDepth 100000 in
theorem regis_Free.calls (a0_0 : Int) (a0_1 : Int) (A0_2 : Option Addr) (c0_2 : Nat) (l0_2 : List Int) (A0_3 : Option Addr) (c0_3 : Nat) (l0_3 : List S72) (a0_4 : Int) (a0_5 : ByteArray) (A0_6 : Option Addr) (c0_6 : Nat) (l0_6 : List S74) (A1 : Option Addr) (c1 : Nat) (l1 : List S36) (a2 : Int) (a3 : ByteArray) (a4 : ByteArray) (r1 : Bool) (r2 : Int) (w : World) (hr0_2 : Kd.C (Kd.int .i64) w A0_2 l0_2.length l0_2) (hc0_2 : l0_2.length ≤ c0_2) (hr0_3 : Kd.C k72 w A0_3 l0_3.length l0_3) (hc0_3 : l0_3.length ≤ c0_3) (hr0_6 : Kd.C k74 w A0_6 l0_6.length l0_6) (hc0_6 : l0_6.length ≤ c0_6) (hr1 : Kd.C k36 w A1 l1.length l1) (hc1 : l1.length ≤ c1) (h : regis_Free.f a0_0 a0_1 l0_2 l0_3 a0_4 a0_5 l0_6 l1 a2 a3 a4 = some (r1, r2)) :
  Calls Tryd.prog 52 #[.agg #[.int .i64 a0_0, .int .i64 a0_1, .slice A0_2 l0_2.length c0_2, .slice A0_3 l0_3.length c0_3, .int .i64 a0_4, .string a0_5, .slice A0_6 l0_6.length c0_6], .slice A1 l1.length c1, .int .i64 a2, .string a3, .string a4] w fun e w' => e = .returned (.tuple #[.bool r1, .int .i64 r2]) ∧ Below w.heap.size w w' := by
 unfold regis_Free.f at h
 by_cases hs : freeFit l0_2 l0_3 a0_5 l0_6 l1 a4
 rotate_left
 ·rw [if_neg hs] at h
  cases h
 rw [if_pos hs] at h
 have h' := e5_ h
 have HR1 := (Prod.mk.inj h').1
 have HR2 := (Prod.mk.inj h').2
 clear h h'
 obtain ⟨b1, h1⟩ : ∃ b, confB a0_0 a0_1 l0_2 l0_3 a0_4 a0_5 l0_6 = b := ⟨_, rfl⟩
 obtain ⟨b2, h2⟩ : ∃ b, tableB l1 = b := ⟨_, rfl⟩
 obtain ⟨b3, h3⟩ : ∃ b, nameB (bytesOf a4) = b := ⟨_, rfl⟩
 have hn6 : b1 = true → l0_6.length ≤ 8 := fun e => conf_len6 (h1.trans e)
 have hn1 : b2 = true → l1.length ≤ 8 := fun e => table_len (h2.trans e)
 unfold freeB at HR1
 have hmay : mayFree a0_0 a0_1 l0_2 l0_3 a0_4 a0_5 l0_6 l1 a4 = (b1 && (b2 && b3)) := by unfold mayFree; rw [h1, h2, h3]
 rw [hmay] at HR1 HR2
 clear hmay
 have C1 := am_ (fun W (hb : Below w.heap.size w W) => conf_May.calls a0_0 a0_1 A0_2 c0_2 l0_2 A0_3 c0_3 l0_3 a0_4 a0_5 A0_6 c0_6 l0_6 b1 W (c4_ hr0_2 hb) hc0_2 (c4_ hr0_3 hb) hc0_3 (c4_ hr0_6 hb) hc0_6 (by unfold conf_May.f; rw [if_pos hs.1.1, h1]))
 have C2 := am_ (fun W (hb : Below w.heap.size w W) => table_May_c.calls A1 c1 l1 b2 W (c4_ hr1 hb) hc1 (by unfold table_May_c.f; rw [if_pos hs.2, h2]))
 have C3 := am_ (fun W => name_May_c.calls a4 b3 W (by unfold name_May_c.f; rw [if_pos (by have := hs.1.2; omega), h3]))
 have CF := am_ (fun (x : ByteArray) W (hx : x.size ≤ 140737488351232) (hb : Below w.heap.size w W) => regis_Full_c.calls a0_0 a0_1 A0_2 c0_2 l0_2 A0_3 c0_3 l0_3 a0_4 a0_5 A0_6 c0_6 l0_6 x (fullB a0_0 a0_1 l0_2 l0_3 a0_4 a0_5 l0_6 x) W (c4_ hr0_2 hb) hc0_2 (c4_ hr0_3 hb) hc0_3 (c4_ hr0_6 hb) hc0_6 (by unfold regis_Full_c.f; rw [if_pos ⟨hs.1.1, hx⟩]))
 have HS := am_ hs
 have HK6 := am_ hr0_6
 have HK1 := am_ hr1
 have HB := am_ (Below.refl w.heap.size w)
 have BK := am_ (blk_new w (.cells #[.int .i64 a0_0, .int .i64 a0_1, .slice A0_2 l0_2.length c0_2, .slice A0_3 l0_3.length c0_3, .int .i64 a0_4, .string a0_5, .slice A0_6 l0_6.length c0_6] 26))
 clear hs hr0_2 hr0_3 hr0_6 hc0_2 hc0_3 hc0_6 hr1 hc1 h1 h2 h3
 have hmm := @run_makeMap Tryd.prog
 replace HR1 := am_ HR1
 replace HR2 := am_ HR2
 cases b1 with
 | false =>
  have e1 : r1 = false := by rw [← HR1.out]; simp
  have e2 : r2 = 1600 := by rw [← HR2.out]; simp
  clear HR1 HR2 CF HK6 HK1 hmm hn6 hn1
  subst e1 e2
  go_enter Tryd.func52, Tryd.ntmps52
  go_wp2_with (first
   | (go_at_call 37; (with_reducible refine (C1.out _ (by repeat (with_reducible first | exact HB.out | apply p3_ | apply p1_ | apply p2_))).mono ?_); rintro e w1 ⟨rfl, hb2⟩; replace BK := am_ (kb_ (show _ from (by (with_reducible repeat (first | exact BK.out | refine k2_ ?_ _ | refine k3_ ?_ | refine k1_ ?_ _)))) hb2); replace HB := am_ (bt_ (show Below w.heap.size w _ from (by repeat (with_reducible first | exact HB.out | apply p3_ | apply p1_ | apply p2_))) hb2); clear hb2))
  go_ret2
  exact ⟨rfl, (by repeat (with_reducible first | exact HB.out | apply p3_ | apply p1_ | apply p2_))⟩
   | true =>
  cases b2 with
  | false =>
   have e1 : r1 = false := by rw [← HR1.out]; simp
   have e2 : r2 = 1600 := by rw [← HR2.out]; simp
   clear HR1 HR2 CF HK6 HK1 hmm hn6 hn1
   subst e1 e2
   go_enter Tryd.func52, Tryd.ntmps52
   go_wp2_with (first
    | (go_at_call 37; (with_reducible refine (C1.out _ (by repeat (with_reducible first | exact HB.out | apply p3_ | apply p1_ | apply p2_))).mono ?_); rintro e w1 ⟨rfl, hb2⟩; replace BK := am_ (kb_ (show _ from (by (with_reducible repeat (first | exact BK.out | refine k2_ ?_ _ | refine k3_ ?_ | refine k1_ ?_ _)))) hb2); replace HB := am_ (bt_ (show Below w.heap.size w _ from (by repeat (with_reducible first | exact HB.out | apply p3_ | apply p1_ | apply p2_))) hb2); clear hb2)
    | (go_at_call 38; (with_reducible refine (C2.out _ (by repeat (with_reducible first | exact HB.out | apply p3_ | apply p1_ | apply p2_))).mono ?_); rintro e w2 ⟨rfl, hb2⟩; replace BK := am_ (kb_ (show _ from (by (with_reducible repeat (first | exact BK.out | refine k2_ ?_ _ | refine k3_ ?_ | refine k1_ ?_ _)))) hb2); replace HB := am_ (bt_ (show Below w.heap.size w _ from (by repeat (with_reducible first | exact HB.out | apply p3_ | apply p1_ | apply p2_))) hb2); clear hb2))
   go_ret2
   exact ⟨rfl, (by repeat (with_reducible first | exact HB.out | apply p3_ | apply p1_ | apply p2_))⟩
     | true =>
   cases b3 with
   | false =>
    have e1 : r1 = false := by rw [← HR1.out]; simp
    have e2 : r2 = 1600 := by rw [← HR2.out]; simp
    clear HR1 HR2 CF HK6 HK1 hmm hn6 hn1
    subst e1 e2
    go_enter Tryd.func52, Tryd.ntmps52
    go_wp2_with (first
     | (go_at_call 37; (with_reducible refine (C1.out _ (by repeat (with_reducible first | exact HB.out | apply p3_ | apply p1_ | apply p2_))).mono ?_); rintro e w1 ⟨rfl, hb2⟩; replace BK := am_ (kb_ (show _ from (by (with_reducible repeat (first | exact BK.out | refine k2_ ?_ _ | refine k3_ ?_ | refine k1_ ?_ _)))) hb2); replace HB := am_ (bt_ (show Below w.heap.size w _ from (by repeat (with_reducible first | exact HB.out | apply p3_ | apply p1_ | apply p2_))) hb2); clear hb2)
     | (go_at_call 38; (with_reducible refine (C2.out _ (by repeat (with_reducible first | exact HB.out | apply p3_ | apply p1_ | apply p2_))).mono ?_); rintro e w2 ⟨rfl, hb2⟩; replace BK := am_ (kb_ (show _ from (by (with_reducible repeat (first | exact BK.out | refine k2_ ?_ _ | refine k3_ ?_ | refine k1_ ?_ _)))) hb2); replace HB := am_ (bt_ (show Below w.heap.size w _ from (by repeat (with_reducible first | exact HB.out | apply p3_ | apply p1_ | apply p2_))) hb2); clear hb2)
     | (go_at_call 41; (with_reducible refine (C3.out _).mono ?_); rintro e w3 ⟨rfl, ⟨nd, rfl⟩⟩))
    go_ret2
    exact ⟨rfl, (by repeat (with_reducible first | exact HB.out | apply p3_ | apply p1_ | apply p2_))⟩
       | true =>
    have e2 : r2 = 0 := by rw [← HR2.out]; simp
    have HR := am_ (show decide ((fullB a0_0 a0_1 l0_2 l0_3 a0_4 a0_5 l0_6 a4).data.toList ∉ [] :: takenS l0_6 ++ takenL (fullB a0_0 a0_1 l0_2 l0_3 a0_4 a0_5 l0_6) a3 a2 l1) = r1 by rw [← HR1.out]; simp)
    clear HR1 HR2
    subst e2
    replace hn6 := hn6 rfl
    replace hn1 := hn1 rfl
    have hk0 := WideMaps.keyOf_string_mk Tryd.underlying9 (s := ⟨#[]⟩) (by unfold maxLen; exact Nat.zero_le _)
    go_enter Tryd.func52, Tryd.ntmps52
    go_wp2_with (first
     | (go_at_call 37; (with_reducible refine (C1.out _ (by repeat (with_reducible first | exact HB.out | apply p3_ | apply p1_ | apply p2_))).mono ?_); rintro e w1 ⟨rfl, hb2⟩; replace BK := am_ (kb_ (show _ from (by (with_reducible repeat (first | exact BK.out | refine k2_ ?_ _ | refine k3_ ?_ | refine k1_ ?_ _)))) hb2); replace HB := am_ (bt_ (show Below w.heap.size w _ from (by repeat (with_reducible first | exact HB.out | apply p3_ | apply p1_ | apply p2_))) hb2); clear hb2)
     | (go_at_call 38; (with_reducible refine (C2.out _ (by repeat (with_reducible first | exact HB.out | apply p3_ | apply p1_ | apply p2_))).mono ?_); rintro e w2 ⟨rfl, hb2⟩; replace BK := am_ (kb_ (show _ from (by (with_reducible repeat (first | exact BK.out | refine k2_ ?_ _ | refine k3_ ?_ | refine k1_ ?_ _)))) hb2); replace HB := am_ (bt_ (show Below w.heap.size w _ from (by repeat (with_reducible first | exact HB.out | apply p3_ | apply p1_ | apply p2_))) hb2); clear hb2)
     | (go_at_call 41; (with_reducible refine (C3.out _).mono ?_); rintro e w3 ⟨rfl, ⟨nd, rfl⟩⟩)
     | (refine wpList_pair_own _ rfl _ _ _ 99 rfl 9 4 (Maps.string_keyed Tryd.underlying9) Tryd.underlying99 (plainElem (H := Unit) Tryd.prog 4) _ 0 _ rfl (World.ownsMap_made _ _ _ _) (by unfold maxLen; omega) _ _ _ rfl rfl hk0 _ [] (plainElem_bool Tryd.underlying4 true) ?_; intro w4 hown1 hgrow1; have HM := am_ (show w4.ownsMap Tryd.prog 9 (plainElem (H := Unit) Tryd.prog 4) w2.heap.size (0 + 1) (mapD .string ([] :: takenS (l0_6.take 0))) from hown1); have hlt2 : w.heap.size < w2.heap.size := blk_lt BK.out; replace HB := am_ (free_grown hgrow1 (by repeat (with_reducible first | exact HB.out | apply p3_ | apply p1_ | apply p2_)) (Nat.le_of_lt hlt2)); replace BK := am_ (show w4.heap[w.heap.size]? = some (.cells #[.int .i64 a0_0, .int .i64 a0_1, .slice A0_2 l0_2.length c0_2, .slice A0_3 l0_3.length c0_3, .int .i64 a0_4, .string a0_5, .slice A0_6 l0_6.length c0_6] 26) from blk_grown (by (with_reducible repeat (first | exact BK.out | refine k2_ ?_ _ | refine k3_ ?_ | refine k1_ ?_ _))) hgrow1 (fun e => absurd (e5_ e) (Nat.ne_of_lt hlt2))); clear hown1 hgrow1; have u0 := bc_ BK.out 0; have u1 := bc_ BK.out 1; have u2 := bc_ BK.out 2; have u3 := bc_ BK.out 3; have u4 := bc_ BK.out 4; have u5 := bc_ BK.out 5; have u6 := bc_ BK.out 6)
     | go_in)
    clear hmm hk0 C1 C2 C3 u0 u1 u2 u3 u4 u5 u6
    go_loopg [35] l0_6.length (fun d v35 w' => ∃ i : Int, 0 ≤ i ∧ i.toNat + d = l0_6.length ∧ v35 = .int .i64 i ∧ Aside0 (w'.ownsMap Tryd.prog 9 (plainElem (H := Unit) Tryd.prog 4) w2.heap.size (i.toNat + 1) (mapD .string ([] :: takenS (l0_6.take i.toNat)))) ∧ Aside0 (Below w.heap.size w w') ∧ Aside0 (w'.heap[w.heap.size]? = some (.cells #[.int .i64 a0_0, .int .i64 a0_1, .slice A0_2 l0_2.length c0_2, .slice A0_3 l0_3.length c0_3, .int .i64 a0_4, .string a0_5, .slice A0_6 l0_6.length c0_6] 26)))
    case atStart => exact ⟨0, by omega, by simp, rfl, HM, HB, BK⟩
    case round =>
     clear HM HB BK
     obtain ⟨i, hi0, hd, rfl, HM, HB, BK⟩ := hrel
     by_cases hlt : i < (l0_6.length : Int)
     ·obtain ⟨ad, e1, hx0, hx1, hx2, hx3, hx4, hx5, hx6⟩ := at_T74 HK6.out i hi0 hlt
      cases e1
      replace hx0 := (HB.out.cell (wb_ w _ hx0)).trans hx0; replace hx1 := (HB.out.cell (wb_ w _ hx1)).trans hx1; replace hx2 := (HB.out.cell (wb_ w _ hx2)).trans hx2; replace hx3 := (HB.out.cell (wb_ w _ hx3)).trans hx3; replace hx4 := (HB.out.cell (wb_ w _ hx4)).trans hx4; replace hx5 := (HB.out.cell (wb_ w _ hx5)).trans hx5; replace hx6 := (HB.out.cell (wb_ w _ hx6)).trans hx6
      obtain ⟨hd1, hmem⟩ := dropFreeS l0_6 i hi0 hlt
      have hsz := HS.out.1.1.2.2.2.2 _ hmem
      generalize rd_T74 l0_6 i = x at hx0 hx1 hx2 hx3 hx4 hx5 hx6 hd1 hmem hsz
      obtain ⟨f0, f1, f2, f3, f4, f5, f6⟩ := x
      simp only at hx0 hx1 hx2 hx3 hx4 hx5 hx6 hsz
      have hkey := WideMaps.keyOf_string_mk Tryd.underlying9 (s := f0) (by unfold maxLen; omega)
      have HD := am_ hd1
      clear hd1 hmem hsz
      go_wp2_with (first
       | (at_mapUpdate; refine wpList_mapUpdate_own _ rfl _ _ _ 99 rfl 9 4 (Maps.string_keyed Tryd.underlying9) Tryd.underlying99 _ w2.heap.size (i.toNat + 1) _ rfl (HM.out.alloc (.cells #[.string f0, .int .i64 f1, .int .i64 f2, .int .i64 f3, .string f4, .string f5, .int .i64 f6] 74)) (by unfold maxLen; omega) _ _ _ rfl rfl hkey _ [] (plainElem_bool Tryd.underlying4 true) ?_; intro w5 hown1 hgrow1; have HM1 := am_ hown1; have HB1 := am_ (free_grown hgrow1 (by repeat (with_reducible first | exact HB.out | apply p3_ | apply p1_ | apply p2_)) (Nat.le_of_lt hlt2)); have BK1 := am_ (show w5.heap[w.heap.size]? = some (.cells #[.int .i64 a0_0, .int .i64 a0_1, .slice A0_2 l0_2.length c0_2, .slice A0_3 l0_3.length c0_3, .int .i64 a0_4, .string a0_5, .slice (some ad) l0_6.length c0_6] 26) from blk_grown (by (with_reducible repeat (first | exact BK.out | refine k2_ ?_ _ | refine k3_ ?_ | refine k1_ ?_ _))) hgrow1 (fun e => absurd (e5_ e) (Nat.ne_of_lt hlt2))); clear hown1 hgrow1)
       | go_in)
      go_roundg (l0_6.length - (i.toNat + 1))
      case measure => first | omega | (simp; omega)
      case rel =>
       have e2 : (i + 1).toNat = i.toNat + 1 := by omega
       refine ⟨i + 1, by omega, by omega, by go_num, ⟨?_⟩, HB1, BK1⟩
       rw [e2, HD.out, takenS_snoc, ← List.cons_append, mapD_snoc]
       exact HM1.out
     ·have e3 : l0_6.take i.toNat = l0_6 := List.take_of_length_le (by omega)
      have hin : i.toNat = l0_6.length := by omega
      have HM' := HM.out
      rw [e3, hin] at HM'
      replace HM := am_ (show wr.ownsMap Tryd.prog 9 (plainElem (H := Unit) Tryd.prog 4) w2.heap.size (l0_6.length + 1) (mapD .string (([] :: takenS l0_6) ++ takenL (fullB a0_0 a0_1 l0_2 l0_3 a0_4 a0_5 l0_6) a3 a2 (l1.take 0))) by rw [takenL_zero]; exact HM')
      clear HM' e3 hin
      have u0 := bc_ BK.out 0; have u1 := bc_ BK.out 1; have u2 := bc_ BK.out 2; have u3 := bc_ BK.out 3; have u4 := bc_ BK.out 4; have u5 := bc_ BK.out 5; have u6 := bc_ BK.out 6
      go_wp2
      clear u0 u1 u2 u3 u4 u5 u6
      go_loopg [45] l1.length (fun d v45 w' => ∃ i : Int, ∃ n : Nat, 0 ≤ i ∧ i.toNat + d = l1.length ∧ v45 = .int .i64 i ∧ n ≤ l0_6.length + 1 + i.toNat ∧ Aside0 (w'.ownsMap Tryd.prog 9 (plainElem (H := Unit) Tryd.prog 4) w2.heap.size (n) (mapD .string (([] :: takenS l0_6) ++ takenL (fullB a0_0 a0_1 l0_2 l0_3 a0_4 a0_5 l0_6) a3 a2 (l1.take i.toNat)))) ∧ Aside0 (Below w.heap.size w w') ∧ Aside0 (w'.heap[w.heap.size]? = some (.cells #[.int .i64 a0_0, .int .i64 a0_1, .slice A0_2 l0_2.length c0_2, .slice A0_3 l0_3.length c0_3, .int .i64 a0_4, .string a0_5, .slice A0_6 l0_6.length c0_6] 26)))
      case atStart => exact ⟨0, _, by omega, by simp, rfl, by simp, HM, HB, BK⟩
      case round =>
       clear HM HB BK
       obtain ⟨i, n, hi0, hd, rfl, hn, HM, HB, BK⟩ := hrel
       by_cases hlt : i < (l1.length : Int)
       ·obtain ⟨ad, e1, hx0, hx1, hx2, hx3, hx4, hx5⟩ := at_T36 HK1.out i hi0 hlt
        cases e1
        replace hx0 := (HB.out.cell (wb_ w _ hx0)).trans hx0; replace hx1 := (HB.out.cell (wb_ w _ hx1)).trans hx1; replace hx2 := (HB.out.cell (wb_ w _ hx2)).trans hx2; replace hx3 := (HB.out.cell (wb_ w _ hx3)).trans hx3; replace hx4 := (HB.out.cell (wb_ w _ hx4)).trans hx4; replace hx5 := (HB.out.cell (wb_ w _ hx5)).trans hx5
        obtain ⟨hd1, hmem⟩ := dropFreeL l1 i hi0 hlt
        have hsz := HS.out.2.2 _ hmem
        generalize rd_T36 l1 i = x at hx0 hx1 hx2 hx3 hx4 hx5 hd1 hmem hsz
        obtain ⟨f0, f1, f2, f3, f4, f5⟩ := x
        simp only at hx0 hx1 hx2 hx3 hx4 hx5 hsz
        obtain ⟨b1, h1⟩ : ∃ b, boundB f0 f1 f2 f3 f4 f5 f2 a2 = b := ⟨_, rfl⟩
        have CB := am_ (fun (g : Nat) W (bk : W.heap[g]? = some (.cells #[.int .i64 f0, .int .i64 f1, .string f2, .int .i64 f3, .string f4, .bool f5] 36)) => lease_Bound.calls g f0 f1 f2 f3 f4 f5 f2 a2 b1 W bk (by omega) h1)
        have hheld : heldBy a3 a2 ⟨f0, f1, f2, f3, f4, f5⟩ = (f5 && (decide (f2.toList ≠ a3.toList) && b1)) := by unfold heldBy; rw [h1]
        clear h1
        have hkey := WideMaps.keyOf_string_mk Tryd.underlying9 (fullB_size (a0 := a0_0) (a1 := a0_1) (l2 := l0_2) (l3 := l0_3) (a4 := a0_4) (z := a0_5) (l6 := l0_6) hsz HS.out.1.1.2.2.1)
        have CFo := am_ (fun W => CF.out f4 W hsz)
        have HIN := am_ (fun e => takenL_in (fullB a0_0 a0_1 l0_2 l0_3 a0_4 a0_5 l0_6) a3 a2 (l1.take i.toNat) ⟨f0, f1, f2, f3, f4, f5⟩ e)
        have HOUT := am_ (fun e => takenL_out (fullB a0_0 a0_1 l0_2 l0_3 a0_4 a0_5 l0_6) a3 a2 (l1.take i.toNat) ⟨f0, f1, f2, f3, f4, f5⟩ e)
        have HD := am_ hd1
        clear hd1 hmem
        rw [hheld] at HIN HOUT
        clear hheld
        simp only at HIN
        generalize fullB a0_0 a0_1 l0_2 l0_3 a0_4 a0_5 l0_6 f4 = FK at hkey CFo HIN
        have u0 := bc_ BK.out 0; have u1 := bc_ BK.out 1; have u2 := bc_ BK.out 2; have u3 := bc_ BK.out 3; have u4 := bc_ BK.out 4; have u5 := bc_ BK.out 5; have u6 := bc_ BK.out 6
        cases f5 with
        | false =>
         clear CB CF CFo HIN
         go_wp2
         go_roundg (l1.length - (i.toNat + 1))
         case measure => first | omega | (simp; omega)
         case rel =>
          have e2 : (i + 1).toNat = i.toNat + 1 := by omega
          refine ⟨i + 1, n, by omega, by omega, by go_num, by omega, ⟨?_⟩, ⟨(by repeat (with_reducible first | exact HB.out | apply p3_ | apply p1_ | apply p2_))⟩, ⟨(by (with_reducible repeat (first | exact BK.out | refine k2_ ?_ _ | refine k3_ ?_ | refine k1_ ?_ _)))⟩⟩
          rw [e2, HD.out, HOUT.out (by simp)]
          exact HM.out.alloc (.cells #[.int .i64 f0, .int .i64 f1, .string f2, .int .i64 f3, .string f4, .bool false] 36)
        | true =>
         by_cases hc : f2.toList = a3.toList
         ·clear CB CF CFo HIN
          go_wp2
          go_roundg (l1.length - (i.toNat + 1))
          case measure => first | omega | (simp; omega)
          case rel =>
           have e2 : (i + 1).toNat = i.toNat + 1 := by omega
           refine ⟨i + 1, n, by omega, by omega, by go_num, by omega, ⟨?_⟩, ⟨(by repeat (with_reducible first | exact HB.out | apply p3_ | apply p1_ | apply p2_))⟩, ⟨(by (with_reducible repeat (first | exact BK.out | refine k2_ ?_ _ | refine k3_ ?_ | refine k1_ ?_ _)))⟩⟩
           rw [e2, HD.out, HOUT.out (by simp [hc])]
           exact HM.out.alloc (.cells #[.int .i64 f0, .int .i64 f1, .string f2, .int .i64 f3, .string f4, .bool true] 36)
         cases b1 with
         | false =>
          clear CF CFo HIN u0 u1 u2 u3 u4 u5 u6
          go_wp2_with (first
           | (go_at_call 45; (with_reducible refine (CB.out _ _ (blk_new wr (.cells #[.int .i64 f0, .int .i64 f1, .string f2, .int .i64 f3, .string f4, .bool true] 36))).mono ?_); rintro e w5 ⟨rfl, hb2⟩; replace HM := am_ (owns_below (HM.out.alloc (.cells #[.int .i64 f0, .int .i64 f1, .string f2, .int .i64 f3, .string f4, .bool true] 36)) hb2); replace BK := am_ (kb_ (k1_ BK.out (.cells #[.int .i64 f0, .int .i64 f1, .string f2, .int .i64 f3, .string f4, .bool true] 36)) hb2); replace HB := am_ (bt_ (p3_ HB.out (.cells #[.int .i64 f0, .int .i64 f1, .string f2, .int .i64 f3, .string f4, .bool true] 36)) hb2); clear hb2; have u0 := bc_ BK.out 0; have u1 := bc_ BK.out 1; have u2 := bc_ BK.out 2; have u3 := bc_ BK.out 3; have u4 := bc_ BK.out 4; have u5 := bc_ BK.out 5; have u6 := bc_ BK.out 6)
           | go_in)
          go_roundg (l1.length - (i.toNat + 1))
          case measure => first | omega | (simp; omega)
          case rel =>
           have e2 : (i + 1).toNat = i.toNat + 1 := by omega
           refine ⟨i + 1, n, by omega, by omega, by go_num, by omega, ⟨?_⟩, HB, BK⟩
           rw [e2, HD.out, HOUT.out (by simp)]
           exact HM.out
         | true =>
          clear u0 u1 u2 u3 u4 u5 u6
          have hne : (!f2.toList == a3.toList) = true := by simp [hc]
          go_wp2_with (first
           | (go_at_call 45; (with_reducible refine (CB.out _ _ (blk_new wr (.cells #[.int .i64 f0, .int .i64 f1, .string f2, .int .i64 f3, .string f4, .bool true] 36))).mono ?_); rintro e w5 ⟨rfl, hb2⟩; have hbx := hb2; replace HM := am_ (owns_below (HM.out.alloc (.cells #[.int .i64 f0, .int .i64 f1, .string f2, .int .i64 f3, .string f4, .bool true] 36)) hb2); replace BK := am_ (kb_ (k1_ BK.out (.cells #[.int .i64 f0, .int .i64 f1, .string f2, .int .i64 f3, .string f4, .bool true] 36)) hb2); replace HB := am_ (bt_ (p3_ HB.out (.cells #[.int .i64 f0, .int .i64 f1, .string f2, .int .i64 f3, .string f4, .bool true] 36)) hb2); clear hb2; have u0 := bc_ BK.out 0; have u1 := bc_ BK.out 1; have u2 := bc_ BK.out 2; have u3 := bc_ BK.out 3; have u4 := bc_ BK.out 4; have u5 := bc_ BK.out 5; have u6 := bc_ BK.out 6; have x4 := bc_ (kb_ (blk_new wr (.cells #[.int .i64 f0, .int .i64 f1, .string f2, .int .i64 f3, .string f4, .bool true] 36)) hbx) 4)
           | (go_at_call 69; (with_reducible refine (CFo.out _ (by repeat (with_reducible first | exact HB.out | apply p3_ | apply p1_ | apply p2_))).mono ?_); rintro e w6 ⟨rfl, hb2⟩; replace HM := am_ (owns_below HM.out hb2); replace BK := am_ (kb_ (show _ from (by (with_reducible repeat (first | exact BK.out | refine k2_ ?_ _ | refine k3_ ?_ | refine k1_ ?_ _)))) hb2); replace HB := am_ (bt_ (show Below w.heap.size w _ from (by repeat (with_reducible first | exact HB.out | apply p3_ | apply p1_ | apply p2_))) hb2); clear hb2)
           | (at_mapUpdate; refine wpList_mapUpdate_own _ rfl _ _ _ 99 rfl 9 4 (Maps.string_keyed Tryd.underlying9) Tryd.underlying99 _ w2.heap.size n _ rfl HM.out (by unfold maxLen; omega) _ _ _ rfl rfl hkey _ [] (plainElem_bool Tryd.underlying4 true) ?_; intro w7 hown1 hgrow1; have HM1 := am_ hown1; have HB1 := am_ (free_grown hgrow1 (by repeat (with_reducible first | exact HB.out | apply p3_ | apply p1_ | apply p2_)) (Nat.le_of_lt hlt2)); have BK1 := am_ (show w7.heap[w.heap.size]? = some (.cells #[.int .i64 a0_0, .int .i64 a0_1, .slice A0_2 l0_2.length c0_2, .slice A0_3 l0_3.length c0_3, .int .i64 a0_4, .string a0_5, .slice A0_6 l0_6.length c0_6] 26) from blk_grown (by (with_reducible repeat (first | exact BK.out | refine k2_ ?_ _ | refine k3_ ?_ | refine k1_ ?_ _))) hgrow1 (fun e => absurd (e5_ e) (Nat.ne_of_lt hlt2))); clear hown1 hgrow1)
           | go_in)
          go_roundg (l1.length - (i.toNat + 1))
          case measure => first | omega | (simp; omega)
          case rel =>
           have e2 : (i + 1).toNat = i.toNat + 1 := by omega
           refine ⟨i + 1, n + 1, by omega, by omega, by go_num, by omega, ⟨?_⟩, HB1, BK1⟩
           rw [e2, HD.out, HIN.out (by simp [hc])]
           rw [← List.append_assoc, mapD_snoc]; exact HM1.out
       ·have e3 : l1.take i.toNat = l1 := List.take_of_length_le (by omega)
        have HM' := HM.out
        rw [e3] at HM'
        replace HM := am_ HM'
        clear HM' e3
        have u0 := bc_ BK.out 0; have u1 := bc_ BK.out 1; have u2 := bc_ BK.out 2; have u3 := bc_ BK.out 3; have u4 := bc_ BK.out 4; have u5 := bc_ BK.out 5; have u6 := bc_ BK.out 6
        have hkey := WideMaps.keyOf_string_mk Tryd.underlying9 (fullB_size (a0 := a0_0) (a1 := a0_1) (l2 := l0_2) (l3 := l0_3) (a4 := a0_4) (z := a0_5) (l6 := l0_6) HS.out.1.2 HS.out.1.1.2.2.1)
        have HRo := HR.out
        have CFo := am_ (fun W => CF.out a4 W HS.out.1.2)
        generalize fullB a0_0 a0_1 l0_2 l0_3 a0_4 a0_5 l0_6 a4 = FK at hkey HRo CFo
        obtain ⟨b3, hb3⟩ : ∃ b3 : Bool, (b3 = true ↔ FK.data.toList ∈ [] :: takenS l0_6 ++ takenL (fullB a0_0 a0_1 l0_2 l0_3 a0_4 a0_5 l0_6) a3 a2 l1) := ⟨decide _, decide_eq_true_iff⟩
        have hbr : (!b3) = r1 := by rw [← HRo, Bool.eq_iff_iff, decide_eq_true_iff, ← hb3]; cases b3 <;> simp
        clear HRo HR CF HK6 HK1
        subst hbr
        have HL : ∀ W, (W.ownsMap Tryd.prog 9 (plainElem (H := Unit) Tryd.prog 4) w2.heap.size n (mapD .string ([] :: takenS l0_6 ++ takenL (fullB a0_0 a0_1 l0_2 l0_3 a0_4 a0_5 l0_6) a3 a2 l1))) → (Instr.lookup 99 (.map (some w2.heap.size)) (.string FK) false).run Tryd.prog W = .ok (.bool b3) W := fun W h => setLook Lit.string (fun _ => trivial) (fun _ _ e => by injection e) (Maps.string_keyed Tryd.underlying9) Tryd.underlying99 Tryd.underlying4 (by kernel_rfl) h hkey hb3
        replace HL := am_ HL
        clear hb3 hkey
        go_wp2_with (first
         | (go_at_call 69; (with_reducible refine (CFo.out _ (by repeat (with_reducible first | exact HB.out | apply p3_ | apply p1_ | apply p2_))).mono ?_); rintro e w6 ⟨rfl, hb2⟩; have hlook := HL.out _ (owns_below HM.out hb2); replace BK := am_ (kb_ (show _ from (by (with_reducible repeat (first | exact BK.out | refine k2_ ?_ _ | refine k3_ ?_ | refine k1_ ?_ _)))) hb2); replace HB := am_ (bt_ (show Below w.heap.size w _ from (by repeat (with_reducible first | exact HB.out | apply p3_ | apply p1_ | apply p2_))) hb2); clear hb2)
         | go_in)
        go_ret2
        exact ⟨rfl, (by repeat (with_reducible first | exact HB.out | apply p3_ | apply p1_ | apply p2_))⟩

/-! ### claim_bound: function 29 -/
-- BY HAND
-- 52
def claim_bound.S (gc go : Nat) (a0_0 : Int) (a0_1 : Int) (A0_2 : Option Addr) (c0_2 : Nat) (l0_2 : List Int) (A0_3 : Option Addr) (c0_3 : Nat) (l0_3 : List S72) (a0_4 : Int) (a0_5 : ByteArray) (A0_6 : Option Addr) (c0_6 : Nat) (l0_6 : List S74) (K : ByteArray) (w' : World) : Prop := w'.cell? ⟨gc, 0, none⟩ = some (.int .i64 a0_0) ∧ w'.cell? ⟨gc, 1, none⟩ = some (.int .i64 a0_1) ∧ w'.cell? ⟨gc, 2, none⟩ = some (.slice A0_2 l0_2.length c0_2) ∧ w'.cell? ⟨gc, 3, none⟩ = some (.slice A0_3 l0_3.length c0_3) ∧ w'.cell? ⟨gc, 4, none⟩ = some (.int .i64 a0_4) ∧ w'.cell? ⟨gc, 5, none⟩ = some (.string a0_5) ∧ w'.cell? ⟨gc, 6, none⟩ = some (.slice A0_6 l0_6.length c0_6) ∧ w'.cell? ⟨go, 4, none⟩ = some (.string K)

theorem claim_bound.S_below {w w2 : World} {gc go : Nat} {a0_0 : Int} {a0_1 : Int} {A0_2 : Option Addr} {c0_2 : Nat} {l0_2 : List Int} {A0_3 : Option Addr} {c0_3 : Nat} {l0_3 : List S72} {a0_4 : Int} {a0_5 : ByteArray} {A0_6 : Option Addr} {c0_6 : Nat} {l0_6 : List S74} {K : ByteArray} (h : claim_bound.S gc go a0_0 a0_1 A0_2 c0_2 l0_2 A0_3 c0_3 l0_3 a0_4 a0_5 A0_6 c0_6 l0_6 K w) (hb : Below w.heap.size w w2) : claim_bound.S gc go a0_0 a0_1 A0_2 c0_2 l0_2 A0_3 c0_3 l0_3 a0_4 a0_5 A0_6 c0_6 l0_6 K w2 := by
 obtain ⟨s0, s1, s2, s3, s4, s5, s6, s7⟩ := h
 exact ⟨(hb.cell (wb_ _ _ s0)).trans s0, (hb.cell (wb_ _ _ s1)).trans s1, (hb.cell (wb_ _ _ s2)).trans s2, (hb.cell (wb_ _ _ s3)).trans s3, (hb.cell (wb_ _ _ s4)).trans s4, (hb.cell (wb_ _ _ s5)).trans s5, (hb.cell (wb_ _ _ s6)).trans s6, (hb.cell (wb_ _ _ s7)).trans s7⟩

set_option maxHeartbeats 8000000 in
set_option maxRecDepth 100000 in
theorem claim_bound.calls (gc gq gx : Nat) (a0_0 : Int) (a0_1 : Int) (A0_2 : Option Addr) (c0_2 : Nat) (l0_2 : List Int) (A0_3 : Option Addr) (c0_3 : Nat) (l0_3 : List S72) (a0_4 : Int) (a0_5 : ByteArray) (A0_6 : Option Addr) (c0_6 : Nat) (l0_6 : List S74) (A1 : Option Addr) (c1 : Nat) (l1 : List S36) (a2 : Int) (a3 : ByteArray) (q0 : Bool) (q1 q2 q3 : Int) (q4 : ByteArray) (x0 x1 : Int) (x2 : ByteArray) (x3 : Int) (x4 : ByteArray) (x5 : Bool) (hto : Int) (w : World) (bc : w.heap[gc]? = some (.cells #[.int .i64 a0_0, .int .i64 a0_1, .slice A0_2 l0_2.length c0_2, .slice A0_3 l0_3.length c0_3, .int .i64 a0_4, .string a0_5, .slice A0_6 l0_6.length c0_6] 26)) (bq : w.heap[gq]? = some (.cells #[.bool q0, .int .i64 q1, .int .i64 q2, .int .i64 q3, .string q4] 29)) (bx : w.heap[gx]? = some (.cells #[.int .i64 x0, .int .i64 x1, .string x2, .int .i64 x3, .string x4, .bool x5] 36)) (hr0_2 : Kd.C (Kd.int .i64) w A0_2 l0_2.length l0_2) (hc0_2 : l0_2.length ≤ c0_2) (hr0_3 : Kd.C k72 w A0_3 l0_3.length l0_3) (hc0_3 : l0_3.length ≤ c0_3) (hr0_6 : Kd.C k74 w A0_6 l0_6.length l0_6) (hc0_6 : l0_6.length ≤ c0_6) (hr1 : Kd.C k36 w A1 l1.length l1) (hc1 : l1.length ≤ c1) (hs : freeFit l0_2 l0_3 a0_5 l0_6 l1 (keptN q4 ⟨x0, x1, x2, x3, x4, x5⟩ a3)) (hn : 0 ≤ a2 ∧ a2 ≤ 1099510579200) (h4 : 1 ≤ a0_4 ∧ a0_4 ≤ 1048576) :
  Calls Tryd.prog 29 #[.pointer (some ⟨gc, 0, none⟩), .slice A1 l1.length c1, .int .i64 a2, .string a3, .pointer (some ⟨gq, 0, none⟩), .pointer (some ⟨gx, 0, none⟩), .int .i64 hto] w fun e w' => e = .returned (.agg #[.int .i64 hto, .int .i64 2, .string a3, .int .i64 (a2 + a0_4), .string (keptN q4 ⟨x0, x1, x2, x3, x4, x5⟩ a3), .bool (freeB a0_0 a0_1 l0_2 l0_3 a0_4 a0_5 l0_6 l1 a2 a3 (keptN q4 ⟨x0, x1, x2, x3, x4, x5⟩ a3) && decide ((keptN q4 ⟨x0, x1, x2, x3, x4, x5⟩ a3).toList ≠ []))]) ∧ Below w.heap.size w w' := by
 have hw : IntKind.i64.wrap (a2 + a0_4) = a2 + a0_4 := (i64_w _).trans (by unfold wrap64; omega)
 obtain ⟨K, hK⟩ : ∃ K, keptN q4 ⟨x0, x1, x2, x3, x4, x5⟩ a3 = K := ⟨_, rfl⟩
 rw [hK] at hs ⊢
 obtain ⟨fr, hfr⟩ : ∃ b, freeB a0_0 a0_1 l0_2 l0_3 a0_4 a0_5 l0_6 l1 a2 a3 K = b := ⟨_, rfl⟩
 obtain ⟨er, her⟩ : ∃ b : Int, (if mayFree a0_0 a0_1 l0_2 l0_3 a0_4 a0_5 l0_6 l1 K then 0 else 1600) = b := ⟨_, rfl⟩
 have CF := am_ (fun W (hb : Below w.heap.size w W) => regis_Free.calls a0_0 a0_1 A0_2 c0_2 l0_2 A0_3 c0_3 l0_3 a0_4 a0_5 A0_6 c0_6 l0_6 A1 c1 l1 a2 a3 K fr er W (c4_ hr0_2 hb) hc0_2 (c4_ hr0_3 hb) hc0_3 (c4_ hr0_6 hb) hc0_6 (c4_ hr1 hb) hc1 (by unfold regis_Free.f; rw [if_pos hs, hfr, her]))
 rw [hfr]
 obtain ⟨nb, hnb⟩ : ∃ b, decide (K.toList ≠ []) = b := ⟨_, rfl⟩
 have k1 : (K.toList == []) = !nb := by rw [← hnb]; cases K.toList <;> simp
 have k2 : K.toList.isEmpty = !nb := by rw [← hnb]; cases K.toList <;> simp
 have k3 : (K.toList != []) = nb := by rw [← hnb]; cases K.toList <;> simp
 rw [hnb]
 obtain ⟨w1, hw1⟩ : ∃ w1, ((w.alloc (.cells #[.int .i64 0, .int .i64 0, .string ⟨#[]⟩, .int .i64 0, .string ⟨#[]⟩, .bool false] 36)).alloc (.cells #[.int .i64 hto, .int .i64 2, .string a3, .int .i64 (a2 + a0_4), .string q4, .bool false] 36)).drew = w1 := ⟨_, rfl⟩
 have HB := am_ (show Below w.heap.size w w1 from by rw [← hw1]; repeat (first | exact Below.refl _ _ | apply p3_ | apply p2_))
 have BC := am_ (show w1.heap[gc]? = some (.cells #[.int .i64 a0_0, .int .i64 a0_1, .slice A0_2 l0_2.length c0_2, .slice A0_3 l0_3.length c0_3, .int .i64 a0_4, .string a0_5, .slice A0_6 l0_6.length c0_6] 26) from by rw [← hw1]; exact k3_ (k1_ (k1_ bc _) _))
 have BQ := am_ (show w1.heap[gq]? = some (.cells #[.bool q0, .int .i64 q1, .int .i64 q2, .int .i64 q3, .string q4] 29) from by rw [← hw1]; exact k3_ (k1_ (k1_ bq _) _))
 have BX := am_ (show w1.heap[gx]? = some (.cells #[.int .i64 x0, .int .i64 x1, .string x2, .int .i64 x3, .string x4, .bool x5] 36) from by rw [← hw1]; exact k3_ (k1_ (k1_ bx _) _))
 have BR := am_ (show w1.heap[w.heap.size]? = some (.cells #[.int .i64 0, .int .i64 0, .string ⟨#[]⟩, .int .i64 0, .string ⟨#[]⟩, .bool false] 36) from by rw [← hw1]; exact k3_ (k1_ (blk_new w _) _))
 have BO := am_ (show w1.heap[w.heap.size + 1]? = some (.cells #[.int .i64 hto, .int .i64 2, .string a3, .int .i64 (a2 + a0_4), .string q4, .bool false] 36) from by
  rw [← hw1]
  have := k3_ (blk_new (w.alloc (.cells #[.int .i64 0, .int .i64 0, .string ⟨#[]⟩, .int .i64 0, .string ⟨#[]⟩, .bool false] 36)) (.cells #[.int .i64 hto, .int .i64 2, .string a3, .int .i64 (a2 + a0_4), .string q4, .bool false] 36))
  simpa using this)
 have GC := am_ (blk_lt bc)
 have gg1 := bc_ (k1_ bc (.cells #[.int .i64 0, .int .i64 0, .string ⟨#[]⟩, .int .i64 0, .string ⟨#[]⟩, .bool false] 36)) 4
 have gg2 := bc_ (k1_ (k1_ bc (.cells #[.int .i64 0, .int .i64 0, .string ⟨#[]⟩, .int .i64 0, .string ⟨#[]⟩, .bool false] 36)) (.cells #[.int .i64 0, .int .i64 0, .string ⟨#[]⟩, .int .i64 0, .string ⟨#[]⟩, .bool false] 36)) 4
 have gg3 := bc_ (k1_ bq (.cells #[.int .i64 0, .int .i64 0, .string ⟨#[]⟩, .int .i64 0, .string ⟨#[]⟩, .bool false] 36)) 4
 have gg4 := bc_ (k1_ (k1_ bq (.cells #[.int .i64 0, .int .i64 0, .string ⟨#[]⟩, .int .i64 0, .string ⟨#[]⟩, .bool false] 36)) (.cells #[.int .i64 0, .int .i64 0, .string ⟨#[]⟩, .int .i64 0, .string ⟨#[]⟩, .bool false] 36)) 4
 unfold keptN at hK
 dsimp only at hK
 replace hw1 := am_ hw1
 clear hs hfr her hr0_2 hr0_3 hr0_6 hc0_2 hc0_3 hc0_6 hr1 hc1 bc bq bx h4 hn hnb
 go_enter Tryd.func29, Tryd.ntmps29
 go_wp2_with (fail)
 go_region
 rw [hw1.out]
 clear hw1 gg1 gg2 gg3 gg4
 have u0 := bc_ BC.out 0; have u1 := bc_ BC.out 1; have u2 := bc_ BC.out 2; have u3 := bc_ BC.out 3; have u4 := bc_ BC.out 4; have u5 := bc_ BC.out 5; have u6 := bc_ BC.out 6
 have v0 := bc_ BQ.out 0; have v1 := bc_ BQ.out 1; have v2 := bc_ BQ.out 2; have v3 := bc_ BQ.out 3; have v4 := bc_ BQ.out 4
 have z0 := bc_ BX.out 0; have z1 := bc_ BX.out 1; have z2 := bc_ BX.out 2; have z3 := bc_ BX.out 3; have z4 := bc_ BX.out 4; have z5 := bc_ BX.out 5
 have o0 := bc_ BO.out 0; have o1 := bc_ BO.out 1; have o2 := bc_ BO.out 2; have o3 := bc_ BO.out 3; have o4 := bc_ BO.out 4; have o5 := bc_ BO.out 5; have fo0 := bf_ BO.out 0; have fo1 := bf_ BO.out 1; have fo2 := bf_ BO.out 2; have fo3 := bf_ BO.out 3; have fo4 := bf_ BO.out 4; have fo5 := bf_ BO.out 5
 have r0 := bc_ BR.out 0; have r1 := bc_ BR.out 1; have r2 := bc_ BR.out 2; have r3 := bc_ BR.out 3; have r4 := bc_ BR.out 4; have r5 := bc_ BR.out 5; have fr0 := bf_ BR.out 0; have fr1 := bf_ BR.out 1; have fr2 := bf_ BR.out 2; have fr3 := bf_ BR.out 3; have fr4 := bf_ BR.out 4; have fr5 := bf_ BR.out 5
 by_cases e1 : q4.toList = []
 rotate_left
 ·rw [if_neg (fun h => e1 h.1)] at hK
  subst hK
  have f1 : (q4.toList == []) = false := by simpa using e1
  have f2 : q4.toList.isEmpty = false := by simpa using e1
  clear e1
  cases nb with
  | false => rw [f1] at k1; cases k1
  | true =>
  go_wp2_with (fail)
  refine seqS (S := claim_bound.S gc (w.heap.size + 1) a0_0 a0_1 A0_2 c0_2 l0_2 A0_3 c0_3 l0_3 a0_4 a0_5 A0_6 c0_6 l0_6 q4) 14 (by kernel_rfl) rfl rfl (by unfold claim_bound.S; go_simp) ?_
  intro hHeld
  iterate 8 first | (refine seqP (v := ?_) (a' := ?_) rfl rfl (by kernel_rfl) (fun _ _ _ h => h) (Or.inl ⟨by kernel_rfl, ?_⟩) ?_ ?_; rotate_left; (intro w'; go_simp; with_reducible rfl); rotate_left; (simp only [Act.put, sa_, sb_, sc_, i64_w, i32_w]; rfl)) | (refine seqL (v := ?_) (a' := ?_) rfl rfl (by kernel_rfl) (fun _ _ _ h => h) (Or.inl ⟨by kernel_rfl, ?_⟩) hHeld ?_ ?_; rotate_left; (rintro w' ⟨s0, s1, s2, s3, s4, s5, s6, s7⟩; go_simp; with_reducible rfl); rotate_left; (simp only [Act.put, sa_, sb_, sc_, i64_w, i32_w]; rfl))
  refine seqG (fn := Tryd.f52) rfl rfl (by kernel_rfl) rfl Tryd.func52 (by kernel_rfl) (by kernel_rfl) #[.agg #[.int .i64 a0_0, .int .i64 a0_1, .slice A0_2 l0_2.length c0_2, .slice A0_3 l0_3.length c0_3, .int .i64 a0_4, .string a0_5, .slice A0_6 l0_6.length c0_6], .slice A1 l1.length c1, .int .i64 a2, .string a3, .string q4] (by kernel_rfl) (by (try simp only [List.map_toArray, List.map_cons, List.map_nil]); first | done | rfl) ?_
  with_reducible refine (CF.out _ (by repeat (with_reducible first | exact HB.out | apply p3_ | apply p1_ | apply p2_))).mono ?_
  rintro e wg ⟨rfl, hb2⟩
  replace BR := am_ (kb_ (k3_ BR.out) hb2)
  replace BO := am_ (kb_ (k3_ BO.out) hb2)
  replace HB := am_ (bt_ (p2_ HB.out) hb2)
  clear u0 u1 u2 u3 u4 u5 u6 v0 v1 v2 v3 v4 z0 r0 fr0 o0 fo0 z1 r1 fr1 o1 fo1 z2 r2 fr2 o2 fo2 z3 r3 fr3 o3 fo3 z4 r4 fr4 o4 fo4 z5 r5 fr5 o5 fo5
  refine ⟨_, rfl, (claim_bound.S_below hHeld hb2), fun hHeld => ⟨?_, ?_, ?_⟩⟩
  rotate_left
  ·simp only [Act.put, sa_, sb_, sc_, i64_w, i32_w]
   rfl
  iterate 5 first | (refine seqP (v := ?_) (a' := ?_) rfl rfl (by kernel_rfl) (fun _ _ _ h => h) (Or.inl ⟨by kernel_rfl, ?_⟩) ?_ ?_; rotate_left; (intro w'; go_simp; with_reducible rfl); rotate_left; (simp only [Act.put, sa_, sb_, sc_, i64_w, i32_w]; rfl)) | (refine seqL (v := ?_) (a' := ?_) rfl rfl (by kernel_rfl) (fun _ _ _ h => h) (Or.inl ⟨by kernel_rfl, ?_⟩) hHeld ?_ ?_; rotate_left; (rintro w' ⟨s0, s1, s2, s3, s4, s5, s6, s7⟩; go_simp; with_reducible rfl); rotate_left; (simp only [Act.put, sa_, sb_, sc_, i64_w, i32_w]; rfl))
  refine seqE (by kernel_rfl) ?_
  clear hHeld CF
  have o0 := bc_ BO.out 0
  have o1 := bc_ BO.out 1
  have o2 := bc_ BO.out 2
  have o3 := bc_ BO.out 3
  have o4 := bc_ BO.out 4
  have o5 := bc_ BO.out 5
  have fo0 := bf_ BO.out 0
  have fo1 := bf_ BO.out 1
  have fo2 := bf_ BO.out 2
  have fo3 := bf_ BO.out 3
  have fo4 := bf_ BO.out 4
  have fo5 := bf_ BO.out 5
  have r0 := bc_ BR.out 0
  have r1 := bc_ BR.out 1
  have r2 := bc_ BR.out 2
  have r3 := bc_ BR.out 3
  have r4 := bc_ BR.out 4
  have r5 := bc_ BR.out 5
  have fr0 := bf_ BR.out 0
  have fr1 := bf_ BR.out 1
  have fr2 := bf_ BR.out 2
  have fr3 := bf_ BR.out 3
  have fr4 := bf_ BR.out 4
  have fr5 := bf_ BR.out 5
  cases fr with
  | false =>
   go_wp2
   have SZ := am_ (Nat.le_refl w.heap.size)
   refine bodyPost_ret (results_cell_row rfl _ _ w.heap.size 36 #[.int .i64 hto, .int .i64 2, .string a3, .int .i64 (a2 + a0_4), .string q4, .bool false] (0, 0) _ rfl (by refine blk_put (cs := #[.int .i64 hto, .int .i64 2, .string a3, .int .i64 (a2 + a0_4), .string q4, .bool false]) ?_ 5 _ rfl; refine blk_put (cs := #[.int .i64 hto, .int .i64 2, .string a3, .int .i64 (a2 + a0_4), .string (⟨#[]⟩ : ByteArray), .bool false]) ?_ 4 _ rfl; refine blk_put (cs := #[.int .i64 hto, .int .i64 2, .string a3, .int .i64 0, .string (⟨#[]⟩ : ByteArray), .bool false]) ?_ 3 _ rfl; refine blk_put (cs := #[.int .i64 hto, .int .i64 2, .string (⟨#[]⟩ : ByteArray), .int .i64 0, .string (⟨#[]⟩ : ByteArray), .bool false]) ?_ 2 _ rfl; refine blk_put (cs := #[.int .i64 hto, .int .i64 0, .string (⟨#[]⟩ : ByteArray), .int .i64 0, .string (⟨#[]⟩ : ByteArray), .bool false]) ?_ 1 _ rfl; refine blk_put (cs := #[.int .i64 0, .int .i64 0, .string (⟨#[]⟩ : ByteArray), .int .i64 0, .string (⟨#[]⟩ : ByteArray), .bool false]) ?_ 0 _ rfl; exact blk_far BR.out (by show w.heap.size ≠ w.heap.size + 1; omega) _) Tryd.underlying36 rfl (by kernel_rfl)) rfl ?_
   exact ⟨rfl, by repeat (with_reducible first | exact HB.out | refine bs_ ?_ (by first | exact SZ.out | exact Nat.le_succ_of_le SZ.out))⟩
  | true =>
   go_wp2
   have SZ := am_ (Nat.le_refl w.heap.size)
   refine bodyPost_ret (results_cell_row rfl _ _ w.heap.size 36 #[.int .i64 hto, .int .i64 2, .string a3, .int .i64 (a2 + a0_4), .string q4, .bool true] (0, 0) _ rfl (by refine blk_put (cs := #[.int .i64 hto, .int .i64 2, .string a3, .int .i64 (a2 + a0_4), .string q4, .bool false]) ?_ 5 _ rfl; refine blk_put (cs := #[.int .i64 hto, .int .i64 2, .string a3, .int .i64 (a2 + a0_4), .string (⟨#[]⟩ : ByteArray), .bool false]) ?_ 4 _ rfl; refine blk_put (cs := #[.int .i64 hto, .int .i64 2, .string a3, .int .i64 0, .string (⟨#[]⟩ : ByteArray), .bool false]) ?_ 3 _ rfl; refine blk_put (cs := #[.int .i64 hto, .int .i64 2, .string (⟨#[]⟩ : ByteArray), .int .i64 0, .string (⟨#[]⟩ : ByteArray), .bool false]) ?_ 2 _ rfl; refine blk_put (cs := #[.int .i64 hto, .int .i64 0, .string (⟨#[]⟩ : ByteArray), .int .i64 0, .string (⟨#[]⟩ : ByteArray), .bool false]) ?_ 1 _ rfl; refine blk_put (cs := #[.int .i64 0, .int .i64 0, .string (⟨#[]⟩ : ByteArray), .int .i64 0, .string (⟨#[]⟩ : ByteArray), .bool false]) ?_ 0 _ rfl; exact blk_far BR.out (by show w.heap.size ≠ w.heap.size + 1; omega) _) Tryd.underlying36 rfl (by kernel_rfl)) rfl ?_
   exact ⟨rfl, by repeat (with_reducible first | exact HB.out | refine bs_ ?_ (by first | exact SZ.out | exact Nat.le_succ_of_le SZ.out))⟩
 by_cases e2 : x1 = 2
 rotate_left
 ·rw [if_neg (fun h => e2 h.2.1)] at hK
  subst hK
  have f1 : (q4.toList == []) = true := by simpa using e1
  have f2 : q4.toList.isEmpty = true := by simpa using e1
  have f3 : (x1 == 2) = false := by simpa using e2
  clear e1 e2
  cases nb with
  | true => rw [f1] at k1; cases k1
  | false =>
  go_wp2_with (fail)
  refine seqS (S := claim_bound.S gc (w.heap.size + 1) a0_0 a0_1 A0_2 c0_2 l0_2 A0_3 c0_3 l0_3 a0_4 a0_5 A0_6 c0_6 l0_6 q4) 14 (by kernel_rfl) rfl rfl (by unfold claim_bound.S; go_simp) ?_
  intro hHeld
  iterate 8 first | (refine seqP (v := ?_) (a' := ?_) rfl rfl (by kernel_rfl) (fun _ _ _ h => h) (Or.inl ⟨by kernel_rfl, ?_⟩) ?_ ?_; rotate_left; (intro w'; go_simp; with_reducible rfl); rotate_left; (simp only [Act.put, sa_, sb_, sc_, i64_w, i32_w]; rfl)) | (refine seqL (v := ?_) (a' := ?_) rfl rfl (by kernel_rfl) (fun _ _ _ h => h) (Or.inl ⟨by kernel_rfl, ?_⟩) hHeld ?_ ?_; rotate_left; (rintro w' ⟨s0, s1, s2, s3, s4, s5, s6, s7⟩; go_simp; with_reducible rfl); rotate_left; (simp only [Act.put, sa_, sb_, sc_, i64_w, i32_w]; rfl))
  refine seqG (fn := Tryd.f52) rfl rfl (by kernel_rfl) rfl Tryd.func52 (by kernel_rfl) (by kernel_rfl) #[.agg #[.int .i64 a0_0, .int .i64 a0_1, .slice A0_2 l0_2.length c0_2, .slice A0_3 l0_3.length c0_3, .int .i64 a0_4, .string a0_5, .slice A0_6 l0_6.length c0_6], .slice A1 l1.length c1, .int .i64 a2, .string a3, .string q4] (by kernel_rfl) (by (try simp only [List.map_toArray, List.map_cons, List.map_nil]); first | done | rfl) ?_
  with_reducible refine (CF.out _ (by repeat (with_reducible first | exact HB.out | apply p3_ | apply p1_ | apply p2_))).mono ?_
  rintro e wg ⟨rfl, hb2⟩
  replace BR := am_ (kb_ (k3_ BR.out) hb2)
  replace BO := am_ (kb_ (k3_ BO.out) hb2)
  replace HB := am_ (bt_ (p2_ HB.out) hb2)
  clear u0 u1 u2 u3 u4 u5 u6 v0 v1 v2 v3 v4 z0 r0 fr0 o0 fo0 z1 r1 fr1 o1 fo1 z2 r2 fr2 o2 fo2 z3 r3 fr3 o3 fo3 z4 r4 fr4 o4 fo4 z5 r5 fr5 o5 fo5
  refine ⟨_, rfl, (claim_bound.S_below hHeld hb2), fun hHeld => ⟨?_, ?_, ?_⟩⟩
  rotate_left
  ·simp only [Act.put, sa_, sb_, sc_, i64_w, i32_w]
   rfl
  iterate 5 first | (refine seqP (v := ?_) (a' := ?_) rfl rfl (by kernel_rfl) (fun _ _ _ h => h) (Or.inl ⟨by kernel_rfl, ?_⟩) ?_ ?_; rotate_left; (intro w'; go_simp; with_reducible rfl); rotate_left; (simp only [Act.put, sa_, sb_, sc_, i64_w, i32_w]; rfl)) | (refine seqL (v := ?_) (a' := ?_) rfl rfl (by kernel_rfl) (fun _ _ _ h => h) (Or.inl ⟨by kernel_rfl, ?_⟩) hHeld ?_ ?_; rotate_left; (rintro w' ⟨s0, s1, s2, s3, s4, s5, s6, s7⟩; go_simp; with_reducible rfl); rotate_left; (simp only [Act.put, sa_, sb_, sc_, i64_w, i32_w]; rfl))
  refine seqE (by kernel_rfl) ?_
  clear hHeld CF
  have o0 := bc_ BO.out 0
  have o1 := bc_ BO.out 1
  have o2 := bc_ BO.out 2
  have o3 := bc_ BO.out 3
  have o4 := bc_ BO.out 4
  have o5 := bc_ BO.out 5
  have fo0 := bf_ BO.out 0
  have fo1 := bf_ BO.out 1
  have fo2 := bf_ BO.out 2
  have fo3 := bf_ BO.out 3
  have fo4 := bf_ BO.out 4
  have fo5 := bf_ BO.out 5
  have r0 := bc_ BR.out 0
  have r1 := bc_ BR.out 1
  have r2 := bc_ BR.out 2
  have r3 := bc_ BR.out 3
  have r4 := bc_ BR.out 4
  have r5 := bc_ BR.out 5
  have fr0 := bf_ BR.out 0
  have fr1 := bf_ BR.out 1
  have fr2 := bf_ BR.out 2
  have fr3 := bf_ BR.out 3
  have fr4 := bf_ BR.out 4
  have fr5 := bf_ BR.out 5
  cases fr with
  | false =>
   go_wp2
   have SZ := am_ (Nat.le_refl w.heap.size)
   refine bodyPost_ret (results_cell_row rfl _ _ w.heap.size 36 #[.int .i64 hto, .int .i64 2, .string a3, .int .i64 (a2 + a0_4), .string q4, .bool false] (0, 0) _ rfl (by refine blk_put (cs := #[.int .i64 hto, .int .i64 2, .string a3, .int .i64 (a2 + a0_4), .string q4, .bool false]) ?_ 5 _ rfl; refine blk_put (cs := #[.int .i64 hto, .int .i64 2, .string a3, .int .i64 (a2 + a0_4), .string (⟨#[]⟩ : ByteArray), .bool false]) ?_ 4 _ rfl; refine blk_put (cs := #[.int .i64 hto, .int .i64 2, .string a3, .int .i64 0, .string (⟨#[]⟩ : ByteArray), .bool false]) ?_ 3 _ rfl; refine blk_put (cs := #[.int .i64 hto, .int .i64 2, .string (⟨#[]⟩ : ByteArray), .int .i64 0, .string (⟨#[]⟩ : ByteArray), .bool false]) ?_ 2 _ rfl; refine blk_put (cs := #[.int .i64 hto, .int .i64 0, .string (⟨#[]⟩ : ByteArray), .int .i64 0, .string (⟨#[]⟩ : ByteArray), .bool false]) ?_ 1 _ rfl; refine blk_put (cs := #[.int .i64 0, .int .i64 0, .string (⟨#[]⟩ : ByteArray), .int .i64 0, .string (⟨#[]⟩ : ByteArray), .bool false]) ?_ 0 _ rfl; exact blk_far BR.out (by show w.heap.size ≠ w.heap.size + 1; omega) _) Tryd.underlying36 rfl (by kernel_rfl)) rfl ?_
   exact ⟨rfl, by repeat (with_reducible first | exact HB.out | refine bs_ ?_ (by first | exact SZ.out | exact Nat.le_succ_of_le SZ.out))⟩
  | true =>
   go_wp2
   have SZ := am_ (Nat.le_refl w.heap.size)
   refine bodyPost_ret (results_cell_row rfl _ _ w.heap.size 36 #[.int .i64 hto, .int .i64 2, .string a3, .int .i64 (a2 + a0_4), .string q4, .bool false] (0, 0) _ rfl (by refine blk_put (cs := #[.int .i64 hto, .int .i64 2, .string a3, .int .i64 (a2 + a0_4), .string q4, .bool false]) ?_ 5 _ rfl; refine blk_put (cs := #[.int .i64 hto, .int .i64 2, .string a3, .int .i64 (a2 + a0_4), .string (⟨#[]⟩ : ByteArray), .bool false]) ?_ 4 _ rfl; refine blk_put (cs := #[.int .i64 hto, .int .i64 2, .string a3, .int .i64 0, .string (⟨#[]⟩ : ByteArray), .bool false]) ?_ 3 _ rfl; refine blk_put (cs := #[.int .i64 hto, .int .i64 2, .string (⟨#[]⟩ : ByteArray), .int .i64 0, .string (⟨#[]⟩ : ByteArray), .bool false]) ?_ 2 _ rfl; refine blk_put (cs := #[.int .i64 hto, .int .i64 0, .string (⟨#[]⟩ : ByteArray), .int .i64 0, .string (⟨#[]⟩ : ByteArray), .bool false]) ?_ 1 _ rfl; refine blk_put (cs := #[.int .i64 0, .int .i64 0, .string (⟨#[]⟩ : ByteArray), .int .i64 0, .string (⟨#[]⟩ : ByteArray), .bool false]) ?_ 0 _ rfl; exact blk_far BR.out (by show w.heap.size ≠ w.heap.size + 1; omega) _) Tryd.underlying36 rfl (by kernel_rfl)) rfl ?_
   exact ⟨rfl, by repeat (with_reducible first | exact HB.out | refine bs_ ?_ (by first | exact SZ.out | exact Nat.le_succ_of_le SZ.out))⟩
 subst e2
 by_cases e3 : x2.toList = a3.toList
 rotate_left
 ·rw [if_neg (fun h => e3 h.2.2)] at hK
  subst hK
  have f1 : (q4.toList == []) = true := by simpa using e1
  have f2 : q4.toList.isEmpty = true := by simpa using e1
  have f3 : (x2.toList == a3.toList) = false := by simpa using e3
  clear e1 e3
  cases nb with
  | true => rw [f1] at k1; cases k1
  | false =>
  go_wp2_with (fail)
  refine seqS (S := claim_bound.S gc (w.heap.size + 1) a0_0 a0_1 A0_2 c0_2 l0_2 A0_3 c0_3 l0_3 a0_4 a0_5 A0_6 c0_6 l0_6 q4) 14 (by kernel_rfl) rfl rfl (by unfold claim_bound.S; go_simp) ?_
  intro hHeld
  iterate 8 first | (refine seqP (v := ?_) (a' := ?_) rfl rfl (by kernel_rfl) (fun _ _ _ h => h) (Or.inl ⟨by kernel_rfl, ?_⟩) ?_ ?_; rotate_left; (intro w'; go_simp; with_reducible rfl); rotate_left; (simp only [Act.put, sa_, sb_, sc_, i64_w, i32_w]; rfl)) | (refine seqL (v := ?_) (a' := ?_) rfl rfl (by kernel_rfl) (fun _ _ _ h => h) (Or.inl ⟨by kernel_rfl, ?_⟩) hHeld ?_ ?_; rotate_left; (rintro w' ⟨s0, s1, s2, s3, s4, s5, s6, s7⟩; go_simp; with_reducible rfl); rotate_left; (simp only [Act.put, sa_, sb_, sc_, i64_w, i32_w]; rfl))
  refine seqG (fn := Tryd.f52) rfl rfl (by kernel_rfl) rfl Tryd.func52 (by kernel_rfl) (by kernel_rfl) #[.agg #[.int .i64 a0_0, .int .i64 a0_1, .slice A0_2 l0_2.length c0_2, .slice A0_3 l0_3.length c0_3, .int .i64 a0_4, .string a0_5, .slice A0_6 l0_6.length c0_6], .slice A1 l1.length c1, .int .i64 a2, .string a3, .string q4] (by kernel_rfl) (by (try simp only [List.map_toArray, List.map_cons, List.map_nil]); first | done | rfl) ?_
  with_reducible refine (CF.out _ (by repeat (with_reducible first | exact HB.out | apply p3_ | apply p1_ | apply p2_))).mono ?_
  rintro e wg ⟨rfl, hb2⟩
  replace BR := am_ (kb_ (k3_ BR.out) hb2)
  replace BO := am_ (kb_ (k3_ BO.out) hb2)
  replace HB := am_ (bt_ (p2_ HB.out) hb2)
  clear u0 u1 u2 u3 u4 u5 u6 v0 v1 v2 v3 v4 z0 r0 fr0 o0 fo0 z1 r1 fr1 o1 fo1 z2 r2 fr2 o2 fo2 z3 r3 fr3 o3 fo3 z4 r4 fr4 o4 fo4 z5 r5 fr5 o5 fo5
  refine ⟨_, rfl, (claim_bound.S_below hHeld hb2), fun hHeld => ⟨?_, ?_, ?_⟩⟩
  rotate_left
  ·simp only [Act.put, sa_, sb_, sc_, i64_w, i32_w]
   rfl
  iterate 5 first | (refine seqP (v := ?_) (a' := ?_) rfl rfl (by kernel_rfl) (fun _ _ _ h => h) (Or.inl ⟨by kernel_rfl, ?_⟩) ?_ ?_; rotate_left; (intro w'; go_simp; with_reducible rfl); rotate_left; (simp only [Act.put, sa_, sb_, sc_, i64_w, i32_w]; rfl)) | (refine seqL (v := ?_) (a' := ?_) rfl rfl (by kernel_rfl) (fun _ _ _ h => h) (Or.inl ⟨by kernel_rfl, ?_⟩) hHeld ?_ ?_; rotate_left; (rintro w' ⟨s0, s1, s2, s3, s4, s5, s6, s7⟩; go_simp; with_reducible rfl); rotate_left; (simp only [Act.put, sa_, sb_, sc_, i64_w, i32_w]; rfl))
  refine seqE (by kernel_rfl) ?_
  clear hHeld CF
  have o0 := bc_ BO.out 0
  have o1 := bc_ BO.out 1
  have o2 := bc_ BO.out 2
  have o3 := bc_ BO.out 3
  have o4 := bc_ BO.out 4
  have o5 := bc_ BO.out 5
  have fo0 := bf_ BO.out 0
  have fo1 := bf_ BO.out 1
  have fo2 := bf_ BO.out 2
  have fo3 := bf_ BO.out 3
  have fo4 := bf_ BO.out 4
  have fo5 := bf_ BO.out 5
  have r0 := bc_ BR.out 0
  have r1 := bc_ BR.out 1
  have r2 := bc_ BR.out 2
  have r3 := bc_ BR.out 3
  have r4 := bc_ BR.out 4
  have r5 := bc_ BR.out 5
  have fr0 := bf_ BR.out 0
  have fr1 := bf_ BR.out 1
  have fr2 := bf_ BR.out 2
  have fr3 := bf_ BR.out 3
  have fr4 := bf_ BR.out 4
  have fr5 := bf_ BR.out 5
  cases fr with
  | false =>
   go_wp2
   have SZ := am_ (Nat.le_refl w.heap.size)
   refine bodyPost_ret (results_cell_row rfl _ _ w.heap.size 36 #[.int .i64 hto, .int .i64 2, .string a3, .int .i64 (a2 + a0_4), .string q4, .bool false] (0, 0) _ rfl (by refine blk_put (cs := #[.int .i64 hto, .int .i64 2, .string a3, .int .i64 (a2 + a0_4), .string q4, .bool false]) ?_ 5 _ rfl; refine blk_put (cs := #[.int .i64 hto, .int .i64 2, .string a3, .int .i64 (a2 + a0_4), .string (⟨#[]⟩ : ByteArray), .bool false]) ?_ 4 _ rfl; refine blk_put (cs := #[.int .i64 hto, .int .i64 2, .string a3, .int .i64 0, .string (⟨#[]⟩ : ByteArray), .bool false]) ?_ 3 _ rfl; refine blk_put (cs := #[.int .i64 hto, .int .i64 2, .string (⟨#[]⟩ : ByteArray), .int .i64 0, .string (⟨#[]⟩ : ByteArray), .bool false]) ?_ 2 _ rfl; refine blk_put (cs := #[.int .i64 hto, .int .i64 0, .string (⟨#[]⟩ : ByteArray), .int .i64 0, .string (⟨#[]⟩ : ByteArray), .bool false]) ?_ 1 _ rfl; refine blk_put (cs := #[.int .i64 0, .int .i64 0, .string (⟨#[]⟩ : ByteArray), .int .i64 0, .string (⟨#[]⟩ : ByteArray), .bool false]) ?_ 0 _ rfl; exact blk_far BR.out (by show w.heap.size ≠ w.heap.size + 1; omega) _) Tryd.underlying36 rfl (by kernel_rfl)) rfl ?_
   exact ⟨rfl, by repeat (with_reducible first | exact HB.out | refine bs_ ?_ (by first | exact SZ.out | exact Nat.le_succ_of_le SZ.out))⟩
  | true =>
   go_wp2
   have SZ := am_ (Nat.le_refl w.heap.size)
   refine bodyPost_ret (results_cell_row rfl _ _ w.heap.size 36 #[.int .i64 hto, .int .i64 2, .string a3, .int .i64 (a2 + a0_4), .string q4, .bool false] (0, 0) _ rfl (by refine blk_put (cs := #[.int .i64 hto, .int .i64 2, .string a3, .int .i64 (a2 + a0_4), .string q4, .bool false]) ?_ 5 _ rfl; refine blk_put (cs := #[.int .i64 hto, .int .i64 2, .string a3, .int .i64 (a2 + a0_4), .string (⟨#[]⟩ : ByteArray), .bool false]) ?_ 4 _ rfl; refine blk_put (cs := #[.int .i64 hto, .int .i64 2, .string a3, .int .i64 0, .string (⟨#[]⟩ : ByteArray), .bool false]) ?_ 3 _ rfl; refine blk_put (cs := #[.int .i64 hto, .int .i64 2, .string (⟨#[]⟩ : ByteArray), .int .i64 0, .string (⟨#[]⟩ : ByteArray), .bool false]) ?_ 2 _ rfl; refine blk_put (cs := #[.int .i64 hto, .int .i64 0, .string (⟨#[]⟩ : ByteArray), .int .i64 0, .string (⟨#[]⟩ : ByteArray), .bool false]) ?_ 1 _ rfl; refine blk_put (cs := #[.int .i64 0, .int .i64 0, .string (⟨#[]⟩ : ByteArray), .int .i64 0, .string (⟨#[]⟩ : ByteArray), .bool false]) ?_ 0 _ rfl; exact blk_far BR.out (by show w.heap.size ≠ w.heap.size + 1; omega) _) Tryd.underlying36 rfl (by kernel_rfl)) rfl ?_
   exact ⟨rfl, by repeat (with_reducible first | exact HB.out | refine bs_ ?_ (by first | exact SZ.out | exact Nat.le_succ_of_le SZ.out))⟩
 rw [if_pos ⟨e1, rfl, e3⟩] at hK
 subst hK
 have f1 : (q4.toList == []) = true := by simpa using e1
 have f2 : q4.toList.isEmpty = true := by simpa using e1
 have f3 : (x2.toList == a3.toList) = true := by simpa using e3
 clear e1 e3
 obtain ⟨w2, hw2⟩ : ∃ w2, w1.setCell ⟨w.heap.size + 1, 4, none⟩ (.string x4) = w2 := ⟨_, rfl⟩
 have HB2 := am_ (show Below w.heap.size w w2 from by rw [← hw2]; exact bs_ HB.out (Nat.le_succ _))
 have BC2 := am_ (show w2.heap[gc]? = some (.cells #[.int .i64 a0_0, .int .i64 a0_1, .slice A0_2 l0_2.length c0_2, .slice A0_3 l0_3.length c0_3, .int .i64 a0_4, .string a0_5, .slice A0_6 l0_6.length c0_6] 26) from by rw [← hw2]; exact blk_far BC.out (by have := GC.out; show gc ≠ w.heap.size + 1; omega) _)
 have BR2 := am_ (show w2.heap[w.heap.size]? = some (.cells #[.int .i64 0, .int .i64 0, .string ⟨#[]⟩, .int .i64 0, .string ⟨#[]⟩, .bool false] 36) from by rw [← hw2]; exact blk_far BR.out (by show w.heap.size ≠ w.heap.size + 1; omega) _)
 have BO2 := am_ (show w2.heap[w.heap.size + 1]? = some (.cells #[.int .i64 hto, .int .i64 2, .string a3, .int .i64 (a2 + a0_4), .string x4, .bool false] 36) from by rw [← hw2]; exact blk_put (cs := #[.int .i64 hto, .int .i64 2, .string a3, .int .i64 (a2 + a0_4), .string q4, .bool false]) BO.out 4 _ rfl)
 replace hw2 := am_ hw2
 go_wp2_with (fail)
 rw [hw2.out]
 clear hw2 HB BC BR BO
 clear u0 u1 u2 u3 u4 u5 u6 v0 v1 v2 v3 v4 z0 r0 fr0 o0 fo0 z1 r1 fr1 o1 fo1 z2 r2 fr2 o2 fo2 z3 r3 fr3 o3 fo3 z4 r4 fr4 o4 fo4 z5 r5 fr5 o5 fo5
 have HB := HB2
 have BC := BC2
 have BR := BR2
 have BO := BO2
 clear HB2 BC2 BR2 BO2
 have u0 := bc_ BC.out 0; have u1 := bc_ BC.out 1; have u2 := bc_ BC.out 2; have u3 := bc_ BC.out 3; have u4 := bc_ BC.out 4; have u5 := bc_ BC.out 5; have u6 := bc_ BC.out 6
 have o0 := bc_ BO.out 0; have o1 := bc_ BO.out 1; have o2 := bc_ BO.out 2; have o3 := bc_ BO.out 3; have o4 := bc_ BO.out 4; have o5 := bc_ BO.out 5; have fo0 := bf_ BO.out 0; have fo1 := bf_ BO.out 1; have fo2 := bf_ BO.out 2; have fo3 := bf_ BO.out 3; have fo4 := bf_ BO.out 4; have fo5 := bf_ BO.out 5
 have r0 := bc_ BR.out 0; have r1 := bc_ BR.out 1; have r2 := bc_ BR.out 2; have r3 := bc_ BR.out 3; have r4 := bc_ BR.out 4; have r5 := bc_ BR.out 5; have fr0 := bf_ BR.out 0; have fr1 := bf_ BR.out 1; have fr2 := bf_ BR.out 2; have fr3 := bf_ BR.out 3; have fr4 := bf_ BR.out 4; have fr5 := bf_ BR.out 5
 cases nb with
 | true =>
  refine seqS (S := claim_bound.S gc (w.heap.size + 1) a0_0 a0_1 A0_2 c0_2 l0_2 A0_3 c0_3 l0_3 a0_4 a0_5 A0_6 c0_6 l0_6 x4) 14 (by kernel_rfl) rfl rfl (by unfold claim_bound.S; go_simp) ?_
  intro hHeld
  iterate 8 first | (refine seqP (v := ?_) (a' := ?_) rfl rfl (by kernel_rfl) (fun _ _ _ h => h) (Or.inl ⟨by kernel_rfl, ?_⟩) ?_ ?_; rotate_left; (intro w'; go_simp; with_reducible rfl); rotate_left; (simp only [Act.put, sa_, sb_, sc_, i64_w, i32_w]; rfl)) | (refine seqL (v := ?_) (a' := ?_) rfl rfl (by kernel_rfl) (fun _ _ _ h => h) (Or.inl ⟨by kernel_rfl, ?_⟩) hHeld ?_ ?_; rotate_left; (rintro w' ⟨s0, s1, s2, s3, s4, s5, s6, s7⟩; go_simp; with_reducible rfl); rotate_left; (simp only [Act.put, sa_, sb_, sc_, i64_w, i32_w]; rfl))
  refine seqG (fn := Tryd.f52) rfl rfl (by kernel_rfl) rfl Tryd.func52 (by kernel_rfl) (by kernel_rfl) #[.agg #[.int .i64 a0_0, .int .i64 a0_1, .slice A0_2 l0_2.length c0_2, .slice A0_3 l0_3.length c0_3, .int .i64 a0_4, .string a0_5, .slice A0_6 l0_6.length c0_6], .slice A1 l1.length c1, .int .i64 a2, .string a3, .string x4] (by kernel_rfl) (by (try simp only [List.map_toArray, List.map_cons, List.map_nil]); first | done | rfl) ?_
  with_reducible refine (CF.out _ (by repeat (with_reducible first | exact HB.out | apply p3_ | apply p1_ | apply p2_))).mono ?_
  rintro e wg ⟨rfl, hb2⟩
  replace BR := am_ (kb_ (k3_ BR.out) hb2)
  replace BO := am_ (kb_ (k3_ BO.out) hb2)
  replace HB := am_ (bt_ (p2_ HB.out) hb2)
  clear u0 u1 u2 u3 u4 u5 u6 r0 fr0 o0 fo0 r1 fr1 o1 fo1 r2 fr2 o2 fo2 r3 fr3 o3 fo3 r4 fr4 o4 fo4 r5 fr5 o5 fo5
  refine ⟨_, rfl, (claim_bound.S_below hHeld hb2), fun hHeld => ⟨?_, ?_, ?_⟩⟩
  rotate_left
  ·simp only [Act.put, sa_, sb_, sc_, i64_w, i32_w]
   rfl
  iterate 5 first | (refine seqP (v := ?_) (a' := ?_) rfl rfl (by kernel_rfl) (fun _ _ _ h => h) (Or.inl ⟨by kernel_rfl, ?_⟩) ?_ ?_; rotate_left; (intro w'; go_simp; with_reducible rfl); rotate_left; (simp only [Act.put, sa_, sb_, sc_, i64_w, i32_w]; rfl)) | (refine seqL (v := ?_) (a' := ?_) rfl rfl (by kernel_rfl) (fun _ _ _ h => h) (Or.inl ⟨by kernel_rfl, ?_⟩) hHeld ?_ ?_; rotate_left; (rintro w' ⟨s0, s1, s2, s3, s4, s5, s6, s7⟩; go_simp; with_reducible rfl); rotate_left; (simp only [Act.put, sa_, sb_, sc_, i64_w, i32_w]; rfl))
  refine seqE (by kernel_rfl) ?_
  clear hHeld CF
  have o0 := bc_ BO.out 0
  have o1 := bc_ BO.out 1
  have o2 := bc_ BO.out 2
  have o3 := bc_ BO.out 3
  have o4 := bc_ BO.out 4
  have o5 := bc_ BO.out 5
  have fo0 := bf_ BO.out 0
  have fo1 := bf_ BO.out 1
  have fo2 := bf_ BO.out 2
  have fo3 := bf_ BO.out 3
  have fo4 := bf_ BO.out 4
  have fo5 := bf_ BO.out 5
  have r0 := bc_ BR.out 0
  have r1 := bc_ BR.out 1
  have r2 := bc_ BR.out 2
  have r3 := bc_ BR.out 3
  have r4 := bc_ BR.out 4
  have r5 := bc_ BR.out 5
  have fr0 := bf_ BR.out 0
  have fr1 := bf_ BR.out 1
  have fr2 := bf_ BR.out 2
  have fr3 := bf_ BR.out 3
  have fr4 := bf_ BR.out 4
  have fr5 := bf_ BR.out 5
  cases fr with
  | false =>
   go_wp2
   have SZ := am_ (Nat.le_refl w.heap.size)
   refine bodyPost_ret (results_cell_row rfl _ _ w.heap.size 36 #[.int .i64 hto, .int .i64 2, .string a3, .int .i64 (a2 + a0_4), .string x4, .bool false] (0, 0) _ rfl (by refine blk_put (cs := #[.int .i64 hto, .int .i64 2, .string a3, .int .i64 (a2 + a0_4), .string x4, .bool false]) ?_ 5 _ rfl; refine blk_put (cs := #[.int .i64 hto, .int .i64 2, .string a3, .int .i64 (a2 + a0_4), .string (⟨#[]⟩ : ByteArray), .bool false]) ?_ 4 _ rfl; refine blk_put (cs := #[.int .i64 hto, .int .i64 2, .string a3, .int .i64 0, .string (⟨#[]⟩ : ByteArray), .bool false]) ?_ 3 _ rfl; refine blk_put (cs := #[.int .i64 hto, .int .i64 2, .string (⟨#[]⟩ : ByteArray), .int .i64 0, .string (⟨#[]⟩ : ByteArray), .bool false]) ?_ 2 _ rfl; refine blk_put (cs := #[.int .i64 hto, .int .i64 0, .string (⟨#[]⟩ : ByteArray), .int .i64 0, .string (⟨#[]⟩ : ByteArray), .bool false]) ?_ 1 _ rfl; refine blk_put (cs := #[.int .i64 0, .int .i64 0, .string (⟨#[]⟩ : ByteArray), .int .i64 0, .string (⟨#[]⟩ : ByteArray), .bool false]) ?_ 0 _ rfl; exact blk_far BR.out (by show w.heap.size ≠ w.heap.size + 1; omega) _) Tryd.underlying36 rfl (by kernel_rfl)) rfl ?_
   exact ⟨rfl, by repeat (with_reducible first | exact HB.out | refine bs_ ?_ (by first | exact SZ.out | exact Nat.le_succ_of_le SZ.out))⟩
  | true =>
   go_wp2
   have SZ := am_ (Nat.le_refl w.heap.size)
   refine bodyPost_ret (results_cell_row rfl _ _ w.heap.size 36 #[.int .i64 hto, .int .i64 2, .string a3, .int .i64 (a2 + a0_4), .string x4, .bool true] (0, 0) _ rfl (by refine blk_put (cs := #[.int .i64 hto, .int .i64 2, .string a3, .int .i64 (a2 + a0_4), .string x4, .bool false]) ?_ 5 _ rfl; refine blk_put (cs := #[.int .i64 hto, .int .i64 2, .string a3, .int .i64 (a2 + a0_4), .string (⟨#[]⟩ : ByteArray), .bool false]) ?_ 4 _ rfl; refine blk_put (cs := #[.int .i64 hto, .int .i64 2, .string a3, .int .i64 0, .string (⟨#[]⟩ : ByteArray), .bool false]) ?_ 3 _ rfl; refine blk_put (cs := #[.int .i64 hto, .int .i64 2, .string (⟨#[]⟩ : ByteArray), .int .i64 0, .string (⟨#[]⟩ : ByteArray), .bool false]) ?_ 2 _ rfl; refine blk_put (cs := #[.int .i64 hto, .int .i64 0, .string (⟨#[]⟩ : ByteArray), .int .i64 0, .string (⟨#[]⟩ : ByteArray), .bool false]) ?_ 1 _ rfl; refine blk_put (cs := #[.int .i64 0, .int .i64 0, .string (⟨#[]⟩ : ByteArray), .int .i64 0, .string (⟨#[]⟩ : ByteArray), .bool false]) ?_ 0 _ rfl; exact blk_far BR.out (by show w.heap.size ≠ w.heap.size + 1; omega) _) Tryd.underlying36 rfl (by kernel_rfl)) rfl ?_
   exact ⟨rfl, by repeat (with_reducible first | exact HB.out | refine bs_ ?_ (by first | exact SZ.out | exact Nat.le_succ_of_le SZ.out))⟩
 | false =>
  refine seqS (S := claim_bound.S gc (w.heap.size + 1) a0_0 a0_1 A0_2 c0_2 l0_2 A0_3 c0_3 l0_3 a0_4 a0_5 A0_6 c0_6 l0_6 x4) 14 (by kernel_rfl) rfl rfl (by unfold claim_bound.S; go_simp) ?_
  intro hHeld
  iterate 8 first | (refine seqP (v := ?_) (a' := ?_) rfl rfl (by kernel_rfl) (fun _ _ _ h => h) (Or.inl ⟨by kernel_rfl, ?_⟩) ?_ ?_; rotate_left; (intro w'; go_simp; with_reducible rfl); rotate_left; (simp only [Act.put, sa_, sb_, sc_, i64_w, i32_w]; rfl)) | (refine seqL (v := ?_) (a' := ?_) rfl rfl (by kernel_rfl) (fun _ _ _ h => h) (Or.inl ⟨by kernel_rfl, ?_⟩) hHeld ?_ ?_; rotate_left; (rintro w' ⟨s0, s1, s2, s3, s4, s5, s6, s7⟩; go_simp; with_reducible rfl); rotate_left; (simp only [Act.put, sa_, sb_, sc_, i64_w, i32_w]; rfl))
  refine seqG (fn := Tryd.f52) rfl rfl (by kernel_rfl) rfl Tryd.func52 (by kernel_rfl) (by kernel_rfl) #[.agg #[.int .i64 a0_0, .int .i64 a0_1, .slice A0_2 l0_2.length c0_2, .slice A0_3 l0_3.length c0_3, .int .i64 a0_4, .string a0_5, .slice A0_6 l0_6.length c0_6], .slice A1 l1.length c1, .int .i64 a2, .string a3, .string x4] (by kernel_rfl) (by (try simp only [List.map_toArray, List.map_cons, List.map_nil]); first | done | rfl) ?_
  with_reducible refine (CF.out _ (by repeat (with_reducible first | exact HB.out | apply p3_ | apply p1_ | apply p2_))).mono ?_
  rintro e wg ⟨rfl, hb2⟩
  replace BR := am_ (kb_ (k3_ BR.out) hb2)
  replace BO := am_ (kb_ (k3_ BO.out) hb2)
  replace HB := am_ (bt_ (p2_ HB.out) hb2)
  clear u0 u1 u2 u3 u4 u5 u6 r0 fr0 o0 fo0 r1 fr1 o1 fo1 r2 fr2 o2 fo2 r3 fr3 o3 fo3 r4 fr4 o4 fo4 r5 fr5 o5 fo5
  refine ⟨_, rfl, (claim_bound.S_below hHeld hb2), fun hHeld => ⟨?_, ?_, ?_⟩⟩
  rotate_left
  ·simp only [Act.put, sa_, sb_, sc_, i64_w, i32_w]
   rfl
  iterate 5 first | (refine seqP (v := ?_) (a' := ?_) rfl rfl (by kernel_rfl) (fun _ _ _ h => h) (Or.inl ⟨by kernel_rfl, ?_⟩) ?_ ?_; rotate_left; (intro w'; go_simp; with_reducible rfl); rotate_left; (simp only [Act.put, sa_, sb_, sc_, i64_w, i32_w]; rfl)) | (refine seqL (v := ?_) (a' := ?_) rfl rfl (by kernel_rfl) (fun _ _ _ h => h) (Or.inl ⟨by kernel_rfl, ?_⟩) hHeld ?_ ?_; rotate_left; (rintro w' ⟨s0, s1, s2, s3, s4, s5, s6, s7⟩; go_simp; with_reducible rfl); rotate_left; (simp only [Act.put, sa_, sb_, sc_, i64_w, i32_w]; rfl))
  refine seqE (by kernel_rfl) ?_
  clear hHeld CF
  have o0 := bc_ BO.out 0
  have o1 := bc_ BO.out 1
  have o2 := bc_ BO.out 2
  have o3 := bc_ BO.out 3
  have o4 := bc_ BO.out 4
  have o5 := bc_ BO.out 5
  have fo0 := bf_ BO.out 0
  have fo1 := bf_ BO.out 1
  have fo2 := bf_ BO.out 2
  have fo3 := bf_ BO.out 3
  have fo4 := bf_ BO.out 4
  have fo5 := bf_ BO.out 5
  have r0 := bc_ BR.out 0
  have r1 := bc_ BR.out 1
  have r2 := bc_ BR.out 2
  have r3 := bc_ BR.out 3
  have r4 := bc_ BR.out 4
  have r5 := bc_ BR.out 5
  have fr0 := bf_ BR.out 0
  have fr1 := bf_ BR.out 1
  have fr2 := bf_ BR.out 2
  have fr3 := bf_ BR.out 3
  have fr4 := bf_ BR.out 4
  have fr5 := bf_ BR.out 5
  cases fr with
  | false =>
   go_wp2
   have SZ := am_ (Nat.le_refl w.heap.size)
   refine bodyPost_ret (results_cell_row rfl _ _ w.heap.size 36 #[.int .i64 hto, .int .i64 2, .string a3, .int .i64 (a2 + a0_4), .string x4, .bool false] (0, 0) _ rfl (by refine blk_put (cs := #[.int .i64 hto, .int .i64 2, .string a3, .int .i64 (a2 + a0_4), .string x4, .bool false]) ?_ 5 _ rfl; refine blk_put (cs := #[.int .i64 hto, .int .i64 2, .string a3, .int .i64 (a2 + a0_4), .string (⟨#[]⟩ : ByteArray), .bool false]) ?_ 4 _ rfl; refine blk_put (cs := #[.int .i64 hto, .int .i64 2, .string a3, .int .i64 0, .string (⟨#[]⟩ : ByteArray), .bool false]) ?_ 3 _ rfl; refine blk_put (cs := #[.int .i64 hto, .int .i64 2, .string (⟨#[]⟩ : ByteArray), .int .i64 0, .string (⟨#[]⟩ : ByteArray), .bool false]) ?_ 2 _ rfl; refine blk_put (cs := #[.int .i64 hto, .int .i64 0, .string (⟨#[]⟩ : ByteArray), .int .i64 0, .string (⟨#[]⟩ : ByteArray), .bool false]) ?_ 1 _ rfl; refine blk_put (cs := #[.int .i64 0, .int .i64 0, .string (⟨#[]⟩ : ByteArray), .int .i64 0, .string (⟨#[]⟩ : ByteArray), .bool false]) ?_ 0 _ rfl; exact blk_far BR.out (by show w.heap.size ≠ w.heap.size + 1; omega) _) Tryd.underlying36 rfl (by kernel_rfl)) rfl ?_
   exact ⟨rfl, by repeat (with_reducible first | exact HB.out | refine bs_ ?_ (by first | exact SZ.out | exact Nat.le_succ_of_le SZ.out))⟩
  | true =>
   go_wp2
   have SZ := am_ (Nat.le_refl w.heap.size)
   refine bodyPost_ret (results_cell_row rfl _ _ w.heap.size 36 #[.int .i64 hto, .int .i64 2, .string a3, .int .i64 (a2 + a0_4), .string x4, .bool false] (0, 0) _ rfl (by refine blk_put (cs := #[.int .i64 hto, .int .i64 2, .string a3, .int .i64 (a2 + a0_4), .string x4, .bool false]) ?_ 5 _ rfl; refine blk_put (cs := #[.int .i64 hto, .int .i64 2, .string a3, .int .i64 (a2 + a0_4), .string (⟨#[]⟩ : ByteArray), .bool false]) ?_ 4 _ rfl; refine blk_put (cs := #[.int .i64 hto, .int .i64 2, .string a3, .int .i64 0, .string (⟨#[]⟩ : ByteArray), .bool false]) ?_ 3 _ rfl; refine blk_put (cs := #[.int .i64 hto, .int .i64 2, .string (⟨#[]⟩ : ByteArray), .int .i64 0, .string (⟨#[]⟩ : ByteArray), .bool false]) ?_ 2 _ rfl; refine blk_put (cs := #[.int .i64 hto, .int .i64 0, .string (⟨#[]⟩ : ByteArray), .int .i64 0, .string (⟨#[]⟩ : ByteArray), .bool false]) ?_ 1 _ rfl; refine blk_put (cs := #[.int .i64 0, .int .i64 0, .string (⟨#[]⟩ : ByteArray), .int .i64 0, .string (⟨#[]⟩ : ByteArray), .bool false]) ?_ 0 _ rfl; exact blk_far BR.out (by show w.heap.size ≠ w.heap.size + 1; omega) _) Tryd.underlying36 rfl (by kernel_rfl)) rfl ?_
   exact ⟨rfl, by repeat (with_reducible first | exact HB.out | refine bs_ ?_ (by first | exact SZ.out | exact Nat.le_succ_of_le SZ.out))⟩

/-! ### offer_Offered: function 30 -/
def offer_Offered.f (s0_0 : Int) (s0_1 : Int) (s0_2 : ByteArray) (s0_3 : Int) (s0_4 : ByteArray) (s0_5 : Bool) : Option (Bool × Int × Int × ByteArray × Int × ByteArray × Bool) := some ((s0_1 == 1), s0_0, s0_1, s0_2, s0_3, s0_4, s0_5)
set_option maxHeartbeats 8000000 in
set_option maxRecDepth 100000 in
theorem offer_Offered.calls (g : Nat) (s0_0 : Int) (s0_1 : Int) (s0_2 : ByteArray) (s0_3 : Int) (s0_4 : ByteArray) (s0_5 : Bool) (r1 : Bool) (r2 : Int) (r3 : Int) (r4 : ByteArray) (r5 : Int) (r6 : ByteArray) (r7 : Bool) (w0 w : World) (hI : IsS36 w0 w g s0_0 s0_1 s0_2 s0_3 s0_4 s0_5) (hB : Below w0.heap.size w0 w) (h : offer_Offered.f s0_0 s0_1 s0_2 s0_3 s0_4 s0_5 = some (r1, r2, r3, r4, r5, r6, r7)) :
  Calls Tryd.prog 30 #[.pointer (some ⟨g, 0, none⟩)] w fun e w' => e = .returned (.bool r1) ∧ IsS36 w0 w' g r2 r3 r4 r5 r6 r7 ∧ Below w0.heap.size w0 w' ∧ KeepBut w w' g none := by
 have HI0 := am_ hI
 have HK := am_ (KeepBut.refl w g none)
 have HL := am_ hB.size
 clear hI
 have HW0 := am_ hB.size
 have HB := am_ hB
 clear hB
 have H : (some ((s0_1 == 1), s0_0, s0_1, s0_2, s0_3, s0_4, s0_5)) = some (r1, r2, r3, r4, r5, r6, r7) := h
 clear h
 simp only [Option.some.injEq, Prod.mk.injEq] at H
 obtain ⟨rfl, rfl, rfl, rfl, rfl, rfl, rfl⟩ := H
 obtain ⟨HGz2, hgz2⟩ := HI0.out
 have hcz2_0 := cellS36_0 HGz2
 have hcz2_1 := cellS36_1 HGz2
 have hcz2_2 := cellS36_2 HGz2
 have hcz2_3 := cellS36_3 HGz2
 have hcz2_4 := cellS36_4 HGz2
 have hcz2_5 := cellS36_5 HGz2
 have hfz2_0 := bf_ HGz2 0; have hfz2_1 := bf_ HGz2 1; have hfz2_2 := bf_ HGz2 2; have hfz2_3 := bf_ HGz2 3; have hfz2_4 := bf_ HGz2 4; have hfz2_5 := bf_ HGz2 5
 clear HGz2 hgz2
 go_enter Tryd.func30, Tryd.ntmps30
 go_wp2
 go_ret
 exact ⟨by first | rfl | (simp [errW_none, errW_some] <;> rfl) | (simp [*, errW_none, errW_some] <;> rfl), by repeat (with_reducible first | exact HI0.out | apply IsS36.alloc | apply IsS36.drewN | apply IsS36.drew | apply IsS36.set_0 | apply IsS36.set_1 | apply IsS36.set_2 | apply IsS36.set_3 | apply IsS36.set_4 | apply IsS36.set_5), by repeat (first | (with_reducible first | exact HB.out | apply p3_ | apply p1_ | apply p2_ | refine bs_ ?_ (IsS36.ge HI0.out)) | exact HB.out), by repeat (with_reducible first | exact HK.out | apply KeepBut.set_ | apply keep_drewN | apply keep_drew | apply keep_alloc)⟩

end Go.Proofs.YtibalpbkmgegnaaDoor.PJ
