-- Made by wip/pr.py out of the translation (a turned copy of the kit's print; contracts by hand where said).
import Derived.Test.YtmoobaehoccihaaDoorPFx0
import Derived.Test.YtmoobaehoccihaaDoorPFx4
import Derived.Test.YtmoobaehoccihaaDoorPFx7
import Derived.Test.YtmoobaehoccihaaDoorPFx8
import Derived.Test.YtmoobaehoccihaaDoorPFx12
namespace Go.Proofs.YtmoobaehoccihaaDoor.PF
open Go.RowKit Go.Proofs.YtmoobaehoccihaaDoorW.PrintWords Go.Proofs.YtmoobaehoccihaaDoorW.PrintLast Go.Proofs.YtmoobaehoccihaaDoorW.PrintMore
-- shrunk
attribute [local go_sem] max2_int min2_int max_two min_two max_three min_three max_four min_four   -- for this text's walks alone
set_option linter.unusedVariables false
set_option linter.unusedSimpArgs false

/-! ### lease_Early: function 58 -/
def lease_Early.f (a0 : Int) : Option (Bool) := (lease_Time_c.f a0).bind fun t141 => (if t141 = true then (some (decide (a0 ≤ 1099510579200))) else (some false))
set_option maxHeartbeats 8000000 in
set_option maxRecDepth 100000 in
theorem lease_Early.calls (a0 : Int) (r : Bool) (w : World) (h : lease_Early.f a0 = some r) :
  Calls Tryd.prog 58 #[.int .i64 a0] w fun e w' => e = .returned (.bool r) ∧ Drawn0 w w' := by
 have H : ((lease_Time_c.f a0).bind fun t141 => (if t141 = true then (some (decide (a0 ≤ 1099510579200))) else (some false))) = some r := h
 clear h
 replace H := e4_ H
 obtain ⟨t141, A20, H⟩ := H
 replace H : (if t141 = true then (some (decide (a0 ≤ 1099510579200))) else (some false)) = some r := H
 have A2 := am_ A20
 clear A20
 by_cases c3 : t141 = true
 ·subst c3
  have H1 : (some (decide (a0 ≤ 1099510579200))) = some r := by rw [if_pos rfl] at H; exact H
  clear H
  have H := H1
  clear H1
  obtain rfl := e5_ H
  go_enter Tryd.func58, Tryd.ntmps58
  go_wp2_with (first | ((with_reducible refine gate_callee (f := 66) rfl ?_); refine goesL_ (some 4) rfl rfl Tryd.func66 (by kernel_rfl) rfl #[.int .i64 a0] rfl (by (try simp only [List.map_toArray, List.map_cons, List.map_nil]); first | done | rfl | (simp only [List.length_drop, List.length_take]; rfl)) ?_; (with_reducible refine (lease_Time_c.calls a0 true _ A2.out).mono ?_); rintro e w' ⟨rfl, ⟨nd, rfl⟩⟩; refine ⟨_, rfl, ?_⟩))
  go_ret
  exact ⟨by first | rfl | (simp; done) | (simp [*]; done), by repeat (first | exact Drawn0.refl _ | apply Drawn0.step)⟩
 replace c3 := e3_ c3
 subst c3
 have H1 : (some false) = some r := by rw [if_neg (show ¬ (false = true) by decide)] at H; exact H
 clear H
 have H := H1
 clear H1
 obtain rfl := e5_ H
 go_enter Tryd.func58, Tryd.ntmps58
 go_wp2_with (first | ((with_reducible refine gate_callee (f := 66) rfl ?_); refine goesL_ (some 4) rfl rfl Tryd.func66 (by kernel_rfl) rfl #[.int .i64 a0] rfl (by (try simp only [List.map_toArray, List.map_cons, List.map_nil]); first | done | rfl | (simp only [List.length_drop, List.length_take]; rfl)) ?_; (with_reducible refine (lease_Time_c.calls a0 false _ A2.out).mono ?_); rintro e w' ⟨rfl, ⟨nd, rfl⟩⟩; refine ⟨_, rfl, ?_⟩))
 go_ret
 exact ⟨by first | rfl | (simp; done) | (simp [*]; done), by repeat (first | exact Drawn0.refl _ | apply Drawn0.step)⟩

/-! ### lease_Early_c: function 58 -/
def lease_Early_c.f (a0 : Int) : Option Bool := some (decide (0 ≤ a0 ∧ a0 ≤ 1099510579200))
theorem lease_Early_c.calls (a0 : Int) (r : Bool) (w : World) (h : lease_Early_c.f a0 = some r) :
  Calls Tryd.prog 58 #[.int .i64 a0] w fun e w' => e = .returned (.bool r) ∧ Drawn0 w w' := by
 refine lease_Early.calls a0 r w ?_
 rw [← h]
 unfold lease_Early.f lease_Early_c.f lease_Time_c.f
 rw [Option.bind_some]
 by_cases q : 0 ≤ a0 ∧ a0 ≤ 1099511627776
 ·rw [if_pos (decide_eq_true q)]
  congr 1
  rw [Bool.eq_iff_iff, decide_eq_true_eq, decide_eq_true_eq]
  omega
 ·rw [if_neg (by simpa using q)]
  congr 1
  symm
  rw [decide_eq_false_iff_not]
  omega

/-! ### drop_other: function 35 -/
-- BY HAND
-- 48 58 59
def otherV (p : S42 → Bool) (a0_0 : Int) (a0_1 : Int) (l0_2 : List Int) (l0_3 : List S72) (a0_4 : Int) (a0_5 : ByteArray) (l0_6 : List S74) (l1 : List S42) (a2 : Int) (a3 : ByteArray) (a4 : Int) (t : S42) : List S42 × Int := if (pickMayB a0_0 a0_1 l0_2 l0_3 a0_4 a0_5 l0_6 l1 a2 a3 && decide (0 ≤ a2 ∧ a2 ≤ 1099510579200)) = true then (swapL l1 a4 (thenL p l1 a4 t), 0) else ([], 1800)
theorem swap_step (l : List S42) (host : Int) (y : S42) (i : Nat) (h : i < l.length) : ∀ x, l[i]? = some x → ((swapL (l.take i) host y ++ l.drop i).set i (if x.f0 = host then y else x)) = swapL (l.take (i + 1)) host y ++ l.drop (i + 1) := by
 intro x hx
 have e : l[i] = x := by rw [List.getElem?_eq_getElem h] at hx; exact e5_ hx
 have hl : (swapL (l.take i) host y).length = i := by unfold swapL; rw [List.length_map, List.length_take]; omega
 rw [List.drop_eq_getElem_cons h, List.set_append_right _ _ (by omega), hl, Nat.sub_self, sb_, List.take_succ_eq_append_getElem h, e]
 unfold swapL
 rw [List.map_append, List.append_assoc]
 rfl
theorem swap_keep (l : List S42) (host : Int) (y : S42) (i : Nat) (h : i < l.length) (hn : ¬ l[i].f0 = host) : swapL (l.take i) host y ++ l.drop i = swapL (l.take (i + 1)) host y ++ l.drop (i + 1) := by
 rw [List.drop_eq_getElem_cons h, List.take_succ_eq_append_getElem h]
 unfold swapL
 rw [List.map_append, List.append_assoc, List.map_cons, if_neg hn]
 rfl
theorem swap_len (l : List S42) (host : Int) (y : S42) (i : Nat) : (swapL (l.take i) host y ++ l.drop i).length = l.length := by
 rw [List.length_append]
 unfold swapL
 rw [List.length_map, List.length_take, List.length_drop]
 omega
theorem swap_get (l : List S42) (host : Int) (y : S42) (i : Nat) (h : i < l.length) : (swapL (l.take i) host y ++ l.drop i)[i]? = some l[i] := by
 have hl : (swapL (l.take i) host y).length = i := by unfold swapL; rw [List.length_map, List.length_take]; omega
 rw [List.getElem?_append_right (by omega), hl, Nat.sub_self, List.drop_eq_getElem_cons h]
 rfl
theorem drop_other.info : (Tryd.prog.info? 42).map (fun i => (i.zero, i.size, i.bytes)) = some (some (.agg #[.int .i64 0, .int .i64 0, .string ⟨#[]⟩, .int .i64 0, .string ⟨#[]⟩, .bool false]), 6, 64) := by kernel_rfl
set_option maxHeartbeats 8000000 in
set_option maxRecDepth 100000 in
theorem drop_other.calls (p : S42 → Bool) (G : Nat) (g : Nat) (a0_0 : Int) (a0_1 : Int) (A0_2 : Option Addr) (c0_2 : Nat) (l0_2 : List Int) (A0_3 : Option Addr) (c0_3 : Nat) (l0_3 : List S72) (a0_4 : Int) (a0_5 : ByteArray) (A0_6 : Option Addr) (c0_6 : Nat) (l0_6 : List S74) (A1 : Option Addr) (c1 : Nat) (l1 : List S42) (a2 : Int) (a3 : ByteArray) (a4 : Int) (t0 t1 : Int) (t2 : ByteArray) (t3 : Int) (t4 : ByteArray) (t5 : Bool) (w : World) (bk : w.heap[g]? = some (.cells #[.int .i64 a0_0, .int .i64 a0_1, .slice A0_2 l0_2.length c0_2, .slice A0_3 l0_3.length c0_3, .int .i64 a0_4, .string a0_5, .slice A0_6 l0_6.length c0_6] 26)) (hr0_2 : Kd.C (Kd.int .i64) w A0_2 l0_2.length l0_2) (hc0_2 : l0_2.length ≤ c0_2) (hr0_3 : Kd.C k72 w A0_3 l0_3.length l0_3) (hc0_3 : l0_3.length ≤ c0_3) (hr0_6 : Kd.C k74 w A0_6 l0_6.length l0_6) (hc0_6 : l0_6.length ≤ c0_6) (hr1 : Kd.C k42 w A1 l1.length l1) (hc1 : l1.length ≤ c1) (hs : pickFit l0_2 l0_3 a0_5 l0_6 l1)
  (eg : ∀ args w, (callFunc G args).run Tryd.prog w = .ok (.enter G args) w)
  (hp : ∀ (W : World) (gl : Nat) (x : S42), W.heap[gl]? = some (.cells #[.int .i64 x.f0, .int .i64 x.f1, .string x.f2, .int .i64 x.f3, .string x.f4, .bool x.f5] 42) → x.f4.size ≤ 140737488351232 → Calls Tryd.prog G #[.pointer (some ⟨gl, 0, none⟩), .string a3, .int .i64 a2] W fun e w' => e = .returned (.bool (p x)) ∧ Below W.heap.size W w') :
  Calls Tryd.prog 35 #[.pointer (some ⟨g, 0, none⟩), .slice A1 l1.length c1, .int .i64 a2, .string a3, .int .i64 a4, .func (.func G) #[] #[], .agg #[.int .i64 t0, .int .i64 t1, .string t2, .int .i64 t3, .string t4, .bool t5]] w fun e w' => ∃ v0_ : Value, e = .returned (.tuple #[v0_, .int .i64 (otherV p a0_0 a0_1 l0_2 l0_3 a0_4 a0_5 l0_6 l1 a2 a3 a4 ⟨t0, t1, t2, t3, t4, t5⟩).2]) ∧ Kd.R k42 42 w' w.heap.size (fun _ => True) v0_ (otherV p a0_0 a0_1 l0_2 l0_3 a0_4 a0_5 l0_6 l1 a2 a3 a4 ⟨t0, t1, t2, t3, t4, t5⟩).1 ∧ Below w.heap.size w w' := by
 obtain ⟨b1, h1⟩ : ∃ b, pickMayB a0_0 a0_1 l0_2 l0_3 a0_4 a0_5 l0_6 l1 a2 a3 = b := ⟨_, rfl⟩
 obtain ⟨b2, h2⟩ : ∃ b, decide (0 ≤ a2 ∧ a2 ≤ 1099510579200) = b := ⟨_, rfl⟩
 obtain ⟨V, hV⟩ : ∃ V, otherV p a0_0 a0_1 l0_2 l0_3 a0_4 a0_5 l0_6 l1 a2 a3 a4 ⟨t0, t1, t2, t3, t4, t5⟩ = V := ⟨_, rfl⟩
 rw [hV]
 unfold otherV at hV
 rw [h1, h2] at hV
 have C1 := am_ (fun W (hb : Below w.heap.size w W) => pick_May.calls g a0_0 a0_1 A0_2 c0_2 l0_2 A0_3 c0_3 l0_3 a0_4 a0_5 A0_6 c0_6 l0_6 A1 c1 l1 a2 a3 b1 W (kb_ bk hb) (c4_ hr0_2 hb) hc0_2 (c4_ hr0_3 hb) hc0_3 (c4_ hr0_6 hb) hc0_6 (c4_ hr1 hb) hc1 hs h1)
 have C2 := am_ (fun W => lease_Early_c.calls a2 b2 W (by unfold lease_Early_c.f; rw [h2]))
 have h8 : b1 = true → l1.length ≤ 8 := fun e => by
  have h := h1.trans e
  unfold pickMayB tableB at h
  simp only [Bool.and_eq_true, decide_eq_true_eq] at h
  omega
 have CTg := am_ (fun (o : Option S42) (e : findL l1 a4 = o) W (hb : Below w.heap.size w W) => table_Find_c.calls A1 c1 l1 a4 (gotL o).f0 (gotL o).f1 (gotL o).f2 (gotL o).f3 (gotL o).f4 (gotL o).f5 o.isSome W (c4_ hr1 hb) hc1 (by unfold table_Find_c.f; rw [if_pos hs.2.1, e]))
 have HX := am_ (fun x (hx : x ∈ l1) => hs.2.2 x hx)
 have HP := am_ hp
 have HR1 := am_ hr1
 have HB := am_ (Below.refl w.heap.size w)
 have BT := am_ (blk_new w (.cells #[.int .i64 t0, .int .i64 t1, .string t2, .int .i64 t3, .string t4, .bool t5] 42))
 clear h1 h2 bk hr0_2 hr0_3 hr0_6 hc0_2 hc0_3 hc0_6 hr1 hc1 hs hp
 cases b1 with
 | false =>
  rw [Bool.false_and, if_neg (by decide)] at hV
  subst hV
  clear C2 CTg HP h8
  go_enter Tryd.func35, Tryd.ntmps35
  go_wp2_with (first | (go_at_call 48; (with_reducible refine (C1.out _ (by repeat (with_reducible first | exact HB.out | apply p3_ | apply p1_ | apply p2_))).mono ?_); rintro e w1 ⟨rfl, hb2⟩; replace BT := am_ (kb_ (show _ from (by (with_reducible repeat (first | exact BT.out | refine k2_ ?_ _ | refine k3_ ?_ | refine k1_ ?_ _)))) hb2); replace HB := am_ (bt_ (show Below w.heap.size w _ from (by repeat (with_reducible first | exact HB.out | apply p3_ | apply p1_ | apply p2_))) hb2); clear hb2))
  go_ret2
  exact ⟨_, rfl, Kd.R_nil _ _ _ _ _, (by repeat (with_reducible first | exact HB.out | apply p3_ | apply p1_ | apply p2_))⟩
 | true =>
 cases b2 with
 | false =>
  rw [Bool.and_false, if_neg (by decide)] at hV
  subst hV
  clear CTg HP h8
  go_enter Tryd.func35, Tryd.ntmps35
  go_wp2_with (first | (go_at_call 48; (with_reducible refine (C1.out _ (by repeat (with_reducible first | exact HB.out | apply p3_ | apply p1_ | apply p2_))).mono ?_); rintro e w1 ⟨rfl, hb2⟩; replace BT := am_ (kb_ (show _ from (by (with_reducible repeat (first | exact BT.out | refine k2_ ?_ _ | refine k3_ ?_ | refine k1_ ?_ _)))) hb2); replace HB := am_ (bt_ (show Below w.heap.size w _ from (by repeat (with_reducible first | exact HB.out | apply p3_ | apply p1_ | apply p2_))) hb2); clear hb2) | (go_at_call 58; (with_reducible refine (C2.out _).mono ?_); rintro e wq ⟨rfl, ⟨nd, rfl⟩⟩))
  go_ret2
  exact ⟨_, rfl, Kd.R_nil _ _ _ _ _, (by repeat (with_reducible first | exact HB.out | apply p3_ | apply p1_ | apply p2_))⟩
 | true =>
 rw [Bool.and_self, if_pos rfl] at hV
 have h8' := h8 rfl
 clear h8
 have hn0 : w.heap.size ≠ w.heap.size + 1 := by omega
 cases hf : findL l1 a4 with
 | none =>
  have hT : thenL p l1 a4 ⟨t0, t1, t2, t3, t4, t5⟩ = (⟨0, 0, (⟨#[]⟩ : ByteArray), 0, (⟨#[]⟩ : ByteArray), false⟩ : S42) := by unfold thenL; rw [hf]; rfl
  rw [hT] at hV
  subst hV
  clear hT
  have CT := am_ (show ∀ W, Below w.heap.size w W → Calls Tryd.prog 59 #[.slice A1 l1.length c1, .int .i64 a4] W (fun e w' => e = .returned (.tuple #[.agg #[.int .i64 0, .int .i64 0, .string (⟨#[]⟩ : ByteArray), .int .i64 0, .string (⟨#[]⟩ : ByteArray), .bool false], .bool false]) ∧ Below W.heap.size W w') from fun W hb => CTg.out none hf W hb)
  clear CTg HP HX hf
  go_enter Tryd.func35, Tryd.ntmps35
  go_upto_region 7 with (first | (go_at_call 48; (with_reducible refine (C1.out _ (by repeat (with_reducible first | exact HB.out | apply p3_ | apply p1_ | apply p2_))).mono ?_); rintro e w1 ⟨rfl, hb2⟩; replace BT := am_ (kb_ (show _ from (by (with_reducible repeat (first | exact BT.out | refine k2_ ?_ _ | refine k3_ ?_ | refine k1_ ?_ _)))) hb2); replace HB := am_ (bt_ (show Below w.heap.size w _ from (by repeat (with_reducible first | exact HB.out | apply p3_ | apply p1_ | apply p2_))) hb2); clear hb2; have v0 := bc_ BT.out 0; have fv0 := bf_ BT.out 0) | (go_at_call 58; (with_reducible refine (C2.out _).mono ?_); rintro e wq ⟨rfl, ⟨nd, rfl⟩⟩) | (go_at_call 59; (with_reducible refine (CT.out _ (by repeat (with_reducible first | exact HB.out | apply p3_ | apply p1_ | apply p2_ | refine bs_ ?_ (Nat.le_refl _)))).mono ?_); rintro e w3 ⟨rfl, hb2⟩; replace BT := am_ (kb_ (o := (.cells #[.int .i64 a4, .int .i64 t1, .string t2, .int .i64 t3, .string t4, .bool t5] 42 (0, 0))) (by (with_reducible repeat (first | refine k2_ ?_ _ | refine k3_ ?_)); refine blk_put (cs := #[.int .i64 t0, .int .i64 t1, .string t2, .int .i64 t3, .string t4, .bool t5]) ?_ 0 _ rfl; (with_reducible repeat (first | refine k2_ ?_ _ | refine k3_ ?_)); exact BT.out) hb2); replace HB := am_ (bt_ (show Below w.heap.size w _ from (by repeat (with_reducible first | exact HB.out | apply p3_ | apply p1_ | apply p2_ | refine bs_ ?_ (Nat.le_refl _)))) hb2); clear hb2 v0 fv0; have BTA := am_ (k1_ BT.out (.cells #[.int .i64 0, .int .i64 0, .string (⟨#[]⟩ : ByteArray), .int .i64 0, .string (⟨#[]⟩ : ByteArray), .bool false] 42)); have v0 := bc_ BTA.out 0; have fv0 := bf_ BTA.out 0; have v1 := bc_ BTA.out 1; have fv1 := bf_ BTA.out 1; have v2 := bc_ BTA.out 2; have fv2 := bf_ BTA.out 2; have v3 := bc_ BTA.out 3; have fv3 := bf_ BTA.out 3; have v4 := bc_ BTA.out 4; have fv4 := bf_ BTA.out 4; have v5 := bc_ BTA.out 5; have fv5 := bf_ BTA.out 5))
  have HBW := am_ (show Below w.heap.size w (((((((w3.alloc (.cells #[.int .i64 0, .int .i64 0, .string (⟨#[]⟩ : ByteArray), .int .i64 0, .string (⟨#[]⟩ : ByteArray), .bool false] 42)).setCell ⟨w.heap.size, 0, none⟩ (.int .i64 0)).setCell ⟨w.heap.size, 1, none⟩ (.int .i64 0)).setCell ⟨w.heap.size, 2, none⟩ (.string (⟨#[]⟩ : ByteArray))).setCell ⟨w.heap.size, 3, none⟩ (.int .i64 0)).setCell ⟨w.heap.size, 4, none⟩ (.string (⟨#[]⟩ : ByteArray))).setCell ⟨w.heap.size, 5, none⟩ (.bool false)) from (by repeat (with_reducible first | exact HB.out | apply p3_ | apply p1_ | apply p2_ | refine bs_ ?_ (Nat.le_refl _))))
  have BTW := am_ (show (((((((w3.alloc (.cells #[.int .i64 0, .int .i64 0, .string (⟨#[]⟩ : ByteArray), .int .i64 0, .string (⟨#[]⟩ : ByteArray), .bool false] 42)).setCell ⟨w.heap.size, 0, none⟩ (.int .i64 0)).setCell ⟨w.heap.size, 1, none⟩ (.int .i64 0)).setCell ⟨w.heap.size, 2, none⟩ (.string (⟨#[]⟩ : ByteArray))).setCell ⟨w.heap.size, 3, none⟩ (.int .i64 0)).setCell ⟨w.heap.size, 4, none⟩ (.string (⟨#[]⟩ : ByteArray))).setCell ⟨w.heap.size, 5, none⟩ (.bool false)).heap[w.heap.size]? = some (.cells #[.int .i64 0, .int .i64 0, .string (⟨#[]⟩ : ByteArray), .int .i64 0, .string (⟨#[]⟩ : ByteArray), .bool false] 42) from (by (with_reducible repeat (first | refine k2_ ?_ _ | refine k3_ ?_)); refine blk_put (cs := #[.int .i64 0, .int .i64 0, .string (⟨#[]⟩ : ByteArray), .int .i64 0, .string (⟨#[]⟩ : ByteArray), .bool t5]) ?_ 5 _ rfl; (with_reducible repeat (first | refine k2_ ?_ _ | refine k3_ ?_)); refine blk_put (cs := #[.int .i64 0, .int .i64 0, .string (⟨#[]⟩ : ByteArray), .int .i64 0, .string t4, .bool t5]) ?_ 4 _ rfl; (with_reducible repeat (first | refine k2_ ?_ _ | refine k3_ ?_)); refine blk_put (cs := #[.int .i64 0, .int .i64 0, .string (⟨#[]⟩ : ByteArray), .int .i64 t3, .string t4, .bool t5]) ?_ 3 _ rfl; (with_reducible repeat (first | refine k2_ ?_ _ | refine k3_ ?_)); refine blk_put (cs := #[.int .i64 0, .int .i64 0, .string t2, .int .i64 t3, .string t4, .bool t5]) ?_ 2 _ rfl; (with_reducible repeat (first | refine k2_ ?_ _ | refine k3_ ?_)); refine blk_put (cs := #[.int .i64 0, .int .i64 t1, .string t2, .int .i64 t3, .string t4, .bool t5]) ?_ 1 _ rfl; (with_reducible repeat (first | refine k2_ ?_ _ | refine k3_ ?_)); refine blk_put (cs := #[.int .i64 a4, .int .i64 t1, .string t2, .int .i64 t3, .string t4, .bool t5]) ?_ 0 _ rfl; (with_reducible repeat (first | refine k2_ ?_ _ | refine k3_ ?_)); exact (k1_ BT.out (.cells #[.int .i64 0, .int .i64 0, .string (⟨#[]⟩ : ByteArray), .int .i64 0, .string (⟨#[]⟩ : ByteArray), .bool false] 42))))
  clear HB BT BTA v0 fv0 v1 fv1 v2 fv2 v3 fv3 v4 fv4 v5 fv5
  generalize (((((((w3.alloc (.cells #[.int .i64 0, .int .i64 0, .string (⟨#[]⟩ : ByteArray), .int .i64 0, .string (⟨#[]⟩ : ByteArray), .bool false] 42)).setCell ⟨w.heap.size, 0, none⟩ (.int .i64 0)).setCell ⟨w.heap.size, 1, none⟩ (.int .i64 0)).setCell ⟨w.heap.size, 2, none⟩ (.string (⟨#[]⟩ : ByteArray))).setCell ⟨w.heap.size, 3, none⟩ (.int .i64 0)).setCell ⟨w.heap.size, 4, none⟩ (.string (⟨#[]⟩ : ByteArray))).setCell ⟨w.heap.size, 5, none⟩ (.bool false)) = W6 at HBW BTW ⊢
  have HB := HBW
  have BT := BTW
  clear HBW BTW
  go_wp2_with (first | ((with_reducible refine gate_builtin (b := .append) (xs := #[.const (.slice none 0 0), .tmp 49]) rfl ?_); at_builtin; refine Kd.R_append_rows k42 (w0 := w) w.heap.size rfl (.const (.slice none 0 0)) (.tmp 49) 27 42 (.agg #[.int .i64 0, .int .i64 0, .string ⟨#[]⟩, .int .i64 0, .string ⟨#[]⟩, .bool false]) 64 rfl Tryd.underlying27 drop_other.info rfl (by decide) (by omega) (.slice none 0 0) [] l1 _ _ _ (fun k => k ≠ w.heap.size) (fun _ => False) rfl rfl (Kd.R_nil _ _ _ _ _) ?aR (fun _ _ h => h) (fun _ h => h.elim) ?aF ?aB ?aS ?aL ?_; (case aR => exact c4_ HR1.out (by repeat (with_reducible first | exact HB.out | apply p3_ | apply p1_ | apply p2_ | refine bs_ ?_ (Nat.le_refl _)))); (case aB => exact (by repeat (with_reducible first | exact HB.out | apply p3_ | apply p1_ | apply p2_ | refine bs_ ?_ (Nat.le_refl _)))); (case aF => exact (fun k hk e => absurd (blk_lt (o := (.cells #[.int .i64 0, .int .i64 0, .string (⟨#[]⟩ : ByteArray), .int .i64 0, .string (⟨#[]⟩ : ByteArray), .bool false] 42 (0, 0))) BT.out) (by omega))); (case aS => exact (show Below w.heap.size w _ from (by repeat (with_reducible first | exact HB.out | apply p3_ | apply p1_ | apply p2_ | refine bs_ ?_ (Nat.le_refl _)))).size); (case aL => simp only [List.length_nil, Nat.zero_add]; omega); intro v9 w9 ho hb hg hat; rw [List.nil_append] at ho; have BT9 := am_ (blk_grown (o := (.cells #[.int .i64 0, .int .i64 0, .string (⟨#[]⟩ : ByteArray), .int .i64 0, .string (⟨#[]⟩ : ByteArray), .bool false] 42 (0, 0))) BT.out hg (fun e => by cases e)); replace HB := am_ hb; have HO := am_ ho; clear hg hat hb ho; obtain ⟨Ao, co, eo⟩ := Kd.R_slice HO.out; subst eo))
  clear C1 C2 CT
  go_loopg [53] l1.length (fun d v53 w' => ∃ i : Nat, i + d = l1.length ∧ v53 = .int .i64 (i : Int) ∧ Aside0 (Below w.heap.size w w') ∧ Aside0 (w'.heap[w.heap.size]? = some (.cells #[.int .i64 0, .int .i64 0, .string (⟨#[]⟩ : ByteArray), .int .i64 0, .string (⟨#[]⟩ : ByteArray), .bool false] 42)) ∧ Aside0 (Kd.R k42 42 w' w.heap.size (fun k => k ≠ w.heap.size) (.slice Ao l1.length co) (swapL (l1.take i) a4 (⟨0, 0, (⟨#[]⟩ : ByteArray), 0, (⟨#[]⟩ : ByteArray), false⟩ : S42) ++ l1.drop i)))
  case atStart => exact ⟨0, by omega, rfl, HB, BT9, HO⟩
  case round =>
   clear HB BT9 HO
   obtain ⟨i, hd, rfl, HB, BT, HO⟩ := hrel
   by_cases hlt : i < l1.length
   ·have hlz : (i : Int) < (l1.length : Int) := by omega
    have hsl := swap_len l1 a4 (⟨0, 0, (⟨#[]⟩ : ByteArray), 0, (⟨#[]⟩ : ByteArray), false⟩ : S42) i
    obtain ⟨g9, cap9, e9, hg9, _, _⟩ := Kd.R_form HO.out (by omega)
    injection e9 with ea en ec
    subst ea ec
    clear en
    have hne : g9 ≠ w.heap.size := HO.out.1 g9 rfl
    have hne2 : w.heap.size ≠ g9 := fun e => hne e.symm
    obtain ⟨ce, hcl, hM, hcc, hfr⟩ := Kd.R_elem HO.out z42 (i : Int) (by omega) hlz
    rw [Int.toNat_natCast, List.getD_eq_getElem?_getD, swap_get l1 a4 (⟨0, 0, (⟨#[]⟩ : ByteArray), 0, (⟨#[]⟩ : ByteArray), false⟩ : S42) i hlt] at hM
    obtain rfl := k42_openM hM
    have hS := swap_step l1 a4 (⟨0, 0, (⟨#[]⟩ : ByteArray), 0, (⟨#[]⟩ : ByteArray), false⟩ : S42) i hlt _ (List.getElem?_eq_getElem hlt)
    have hK := swap_keep l1 a4 (⟨0, 0, (⟨#[]⟩ : ByteArray), 0, (⟨#[]⟩ : ByteArray), false⟩ : S42) i hlt
    rw [Int.toNat_natCast] at hcc hfr
    have hR := Kd.R_seg HO.out (i : Int) (by omega) hlz (seg := [.int .i64 0, .int .i64 0, .string (⟨#[]⟩ : ByteArray), .int .i64 0, .string (⟨#[]⟩ : ByteArray), .bool false]) (j := 0) hcl (by rw [Int.toNat_natCast]; exact hcc) (show 6 ≤ 6 from by decide) (x' := (⟨0, 0, (⟨#[]⟩ : ByteArray), 0, (⟨#[]⟩ : ByteArray), false⟩ : S42)) (k42_mkM _ _ _ (⟨0, 0, (⟨#[]⟩ : ByteArray), 0, (⟨#[]⟩ : ByteArray), false⟩ : S42)) (fun _ hk => hk)
    rw [Int.toNat_natCast] at hR
    simp only [Option.getD_some] at hcc
    have xc0 := hcc 0 _ rfl
    have xf0 := hfr 0
    have xc1 := hcc 1 _ rfl
    have xf1 := hfr 1
    have xc2 := hcc 2 _ rfl
    have xf2 := hfr 2
    have xc3 := hcc 3 _ rfl
    have xf3 := hfr 3
    have xc4 := hcc 4 _ rfl
    have xf4 := hfr 4
    have xc5 := hcc 5 _ rfl
    have xf5 := hfr 5
    simp only [show (k42).sz = 6 from rfl, Nat.add_zero] at xc0 xf0 xc1 xf1 xc2 xf2 xc3 xf3 xc4 xf4 xc5 xf5
    clear hcc hfr hM hcl
    generalize l1[i] = x at xc0 xc1 xc2 xc3 xc4 xc5 hS hK
    obtain ⟨x0, x1, x2, x3, x4, x5⟩ := x
    simp only at xc0 xc1 xc2 xc3 xc4 xc5 hS hK
    have v0 := bc_ BT.out 0
    have fv0 := bf_ BT.out 0
    have v1 := bc_ BT.out 1
    have fv1 := bf_ BT.out 1
    have v2 := bc_ BT.out 2
    have fv2 := bf_ BT.out 2
    have v3 := bc_ BT.out 3
    have fv3 := bf_ BT.out 3
    have v4 := bc_ BT.out 4
    have fv4 := bf_ BT.out 4
    have v5 := bc_ BT.out 5
    have fv5 := bf_ BT.out 5
    by_cases e : x0 = a4
    ·rw [if_pos e] at hS
     have eb : (x0 == a4) = true := by simpa using e
     have HS := am_ hS
     have HRr := am_ hR
     clear hS hK hR e
     go_wp2
     go_roundg (l1.length - (i + 1))
     case measure => first | omega | (simp; omega)
     case rel =>
      refine ⟨i + 1, by omega, by go_num, ⟨?_⟩, ⟨?_⟩, ⟨?_⟩⟩
      ·repeat (first | exact HB.out | refine bs_ ?_ hg9)
      ·exact blk_grown BT.out HRr.out.2 (fun e => hne2 (e5_ e))
      ·rw [← HS.out]; exact HRr.out.1
    ·have eb : (x0 == a4) = false := by simpa using e
     have HS := am_ (hK e)
     clear hS hK hR e
     go_wp2
     go_roundg (l1.length - (i + 1))
     case measure => first | omega | (simp; omega)
     case rel =>
      exact ⟨i + 1, by omega, by go_num, HB, BT, ⟨by rw [← HS.out]; exact HO.out⟩⟩
   ·have hlz : ¬ (i : Int) < (l1.length : Int) := by omega
    have HE := am_ (show swapL (l1.take i) a4 (⟨0, 0, (⟨#[]⟩ : ByteArray), 0, (⟨#[]⟩ : ByteArray), false⟩ : S42) ++ l1.drop i = swapL l1 a4 (⟨0, 0, (⟨#[]⟩ : ByteArray), 0, (⟨#[]⟩ : ByteArray), false⟩ : S42) by rw [List.take_of_length_le (by omega), List.drop_eq_nil_of_le (by omega), List.append_nil])
    go_wp2
    go_ret2
    exact ⟨_, rfl, by rw [← HE.out]; exact Kd.R_mono HO.out (fun _ _ => trivial), HB.out⟩
 | some y =>
 have hy4 := HX.out y (List.mem_of_find?_eq_some hf)
 obtain ⟨y0, y1, y2, y3, y4, y5⟩ := y
 simp only at hy4
 cases hq : p ⟨y0, y1, y2, y3, y4, y5⟩ with
 | true =>
  have hT : thenL p l1 a4 ⟨t0, t1, t2, t3, t4, t5⟩ = (⟨a4, t1, t2, t3, t4, t5⟩ : S42) := by unfold thenL; rw [hf]; simp only [hq, if_true]
  rw [hT] at hV
  subst hV
  clear hT
  have CT := am_ (show ∀ W, Below w.heap.size w W → Calls Tryd.prog 59 #[.slice A1 l1.length c1, .int .i64 a4] W (fun e w' => e = .returned (.tuple #[.agg #[.int .i64 y0, .int .i64 y1, .string y2, .int .i64 y3, .string y4, .bool y5], .bool true]) ∧ Below W.heap.size W w') from fun W hb => CTg.out (some ⟨y0, y1, y2, y3, y4, y5⟩) hf W hb)
  have HI := am_ (fun W (gl : Nat) (bk : W.heap[gl]? = some (.cells #[.int .i64 y0, .int .i64 y1, .string y2, .int .i64 y3, .string y4, .bool y5] 42)) => HP.out W gl ⟨y0, y1, y2, y3, y4, y5⟩ bk hy4)
  rw [hq] at HI
  clear hq hy4
  clear CTg HP HX hf
  go_enter Tryd.func35, Tryd.ntmps35
  go_wp2_with (first | (go_at_call 48; (with_reducible refine (C1.out _ (by repeat (with_reducible first | exact HB.out | apply p3_ | apply p1_ | apply p2_))).mono ?_); rintro e w1 ⟨rfl, hb2⟩; replace BT := am_ (kb_ (show _ from (by (with_reducible repeat (first | exact BT.out | refine k2_ ?_ _ | refine k3_ ?_ | refine k1_ ?_ _)))) hb2); replace HB := am_ (bt_ (show Below w.heap.size w _ from (by repeat (with_reducible first | exact HB.out | apply p3_ | apply p1_ | apply p2_))) hb2); clear hb2; have v0 := bc_ BT.out 0; have fv0 := bf_ BT.out 0) | (go_at_call 58; (with_reducible refine (C2.out _).mono ?_); rintro e wq ⟨rfl, ⟨nd, rfl⟩⟩) | (go_at_call 59; (with_reducible refine (CT.out _ (by repeat (with_reducible first | exact HB.out | apply p3_ | apply p1_ | apply p2_ | refine bs_ ?_ (Nat.le_refl _)))).mono ?_); rintro e w3 ⟨rfl, hb2⟩; replace BT := am_ (kb_ (o := (.cells #[.int .i64 a4, .int .i64 t1, .string t2, .int .i64 t3, .string t4, .bool t5] 42 (0, 0))) (by (with_reducible repeat (first | refine k2_ ?_ _ | refine k3_ ?_)); refine blk_put (cs := #[.int .i64 t0, .int .i64 t1, .string t2, .int .i64 t3, .string t4, .bool t5]) ?_ 0 _ rfl; (with_reducible repeat (first | refine k2_ ?_ _ | refine k3_ ?_)); exact BT.out) hb2); replace HB := am_ (bt_ (show Below w.heap.size w _ from (by repeat (with_reducible first | exact HB.out | apply p3_ | apply p1_ | apply p2_ | refine bs_ ?_ (Nat.le_refl _)))) hb2); clear hb2 v0 fv0))
  refine (HI.out _ _ (blk_new w3 (.cells #[.int .i64 y0, .int .i64 y1, .string y2, .int .i64 y3, .string y4, .bool y5] 42))).mono ?_
  rintro e w4 ⟨rfl, hb2⟩
  replace BT := am_ (kb_ (k1_ BT.out (.cells #[.int .i64 y0, .int .i64 y1, .string y2, .int .i64 y3, .string y4, .bool y5] 42)) hb2)
  have BX := am_ (kb_ (blk_new w3 (.cells #[.int .i64 y0, .int .i64 y1, .string y2, .int .i64 y3, .string y4, .bool y5] 42)) hb2)
  replace HB := am_ (bt_ (p3_ HB.out (.cells #[.int .i64 y0, .int .i64 y1, .string y2, .int .i64 y3, .string y4, .bool y5] 42)) hb2)
  clear hb2 HI
  go_wp2_with (first | ((with_reducible refine gate_builtin (b := .append) (xs := #[.const (.slice none 0 0), .tmp 49]) rfl ?_); at_builtin; refine Kd.R_append_rows k42 (w0 := w) w.heap.size rfl (.const (.slice none 0 0)) (.tmp 49) 27 42 (.agg #[.int .i64 0, .int .i64 0, .string ⟨#[]⟩, .int .i64 0, .string ⟨#[]⟩, .bool false]) 64 rfl Tryd.underlying27 drop_other.info rfl (by decide) (by omega) (.slice none 0 0) [] l1 _ _ _ (fun k => k ≠ w.heap.size) (fun _ => False) rfl rfl (Kd.R_nil _ _ _ _ _) ?aR (fun _ _ h => h) (fun _ h => h.elim) ?aF ?aB ?aS ?aL ?_; (case aR => exact c4_ HR1.out (by repeat (with_reducible first | exact HB.out | apply p3_ | apply p1_ | apply p2_ | refine bs_ ?_ (Nat.le_refl _)))); (case aB => exact (by repeat (with_reducible first | exact HB.out | apply p3_ | apply p1_ | apply p2_ | refine bs_ ?_ (Nat.le_refl _)))); (case aF => exact (fun k hk e => absurd (blk_lt (o := (.cells #[.int .i64 a4, .int .i64 t1, .string t2, .int .i64 t3, .string t4, .bool t5] 42 (0, 0))) BT.out) (by omega))); (case aS => exact (show Below w.heap.size w _ from (by repeat (with_reducible first | exact HB.out | apply p3_ | apply p1_ | apply p2_ | refine bs_ ?_ (Nat.le_refl _)))).size); (case aL => simp only [List.length_nil, Nat.zero_add]; omega); intro v9 w9 ho hb hg hat; rw [List.nil_append] at ho; have BT9 := am_ (blk_grown (o := (.cells #[.int .i64 a4, .int .i64 t1, .string t2, .int .i64 t3, .string t4, .bool t5] 42 (0, 0))) BT.out hg (fun e => by cases e)); replace HB := am_ hb; have HO := am_ ho; clear hg hat hb ho; obtain ⟨Ao, co, eo⟩ := Kd.R_slice HO.out; subst eo))
  clear C1 C2 CT
  go_loopg [53] l1.length (fun d v53 w' => ∃ i : Nat, i + d = l1.length ∧ v53 = .int .i64 (i : Int) ∧ Aside0 (Below w.heap.size w w') ∧ Aside0 (w'.heap[w.heap.size]? = some (.cells #[.int .i64 a4, .int .i64 t1, .string t2, .int .i64 t3, .string t4, .bool t5] 42)) ∧ Aside0 (Kd.R k42 42 w' w.heap.size (fun k => k ≠ w.heap.size) (.slice Ao l1.length co) (swapL (l1.take i) a4 (⟨a4, t1, t2, t3, t4, t5⟩ : S42) ++ l1.drop i)))
  case atStart => exact ⟨0, by omega, rfl, HB, BT9, HO⟩
  case round =>
   clear HB BT9 HO
   obtain ⟨i, hd, rfl, HB, BT, HO⟩ := hrel
   by_cases hlt : i < l1.length
   ·have hlz : (i : Int) < (l1.length : Int) := by omega
    have hsl := swap_len l1 a4 (⟨a4, t1, t2, t3, t4, t5⟩ : S42) i
    obtain ⟨g9, cap9, e9, hg9, _, _⟩ := Kd.R_form HO.out (by omega)
    injection e9 with ea en ec
    subst ea ec
    clear en
    have hne : g9 ≠ w.heap.size := HO.out.1 g9 rfl
    have hne2 : w.heap.size ≠ g9 := fun e => hne e.symm
    obtain ⟨ce, hcl, hM, hcc, hfr⟩ := Kd.R_elem HO.out z42 (i : Int) (by omega) hlz
    rw [Int.toNat_natCast, List.getD_eq_getElem?_getD, swap_get l1 a4 (⟨a4, t1, t2, t3, t4, t5⟩ : S42) i hlt] at hM
    obtain rfl := k42_openM hM
    have hS := swap_step l1 a4 (⟨a4, t1, t2, t3, t4, t5⟩ : S42) i hlt _ (List.getElem?_eq_getElem hlt)
    have hK := swap_keep l1 a4 (⟨a4, t1, t2, t3, t4, t5⟩ : S42) i hlt
    rw [Int.toNat_natCast] at hcc hfr
    have hR := Kd.R_seg HO.out (i : Int) (by omega) hlz (seg := [.int .i64 a4, .int .i64 t1, .string t2, .int .i64 t3, .string t4, .bool t5]) (j := 0) hcl (by rw [Int.toNat_natCast]; exact hcc) (show 6 ≤ 6 from by decide) (x' := (⟨a4, t1, t2, t3, t4, t5⟩ : S42)) (k42_mkM _ _ _ (⟨a4, t1, t2, t3, t4, t5⟩ : S42)) (fun _ hk => hk)
    rw [Int.toNat_natCast] at hR
    simp only [Option.getD_some] at hcc
    have xc0 := hcc 0 _ rfl
    have xf0 := hfr 0
    have xc1 := hcc 1 _ rfl
    have xf1 := hfr 1
    have xc2 := hcc 2 _ rfl
    have xf2 := hfr 2
    have xc3 := hcc 3 _ rfl
    have xf3 := hfr 3
    have xc4 := hcc 4 _ rfl
    have xf4 := hfr 4
    have xc5 := hcc 5 _ rfl
    have xf5 := hfr 5
    simp only [show (k42).sz = 6 from rfl, Nat.add_zero] at xc0 xf0 xc1 xf1 xc2 xf2 xc3 xf3 xc4 xf4 xc5 xf5
    clear hcc hfr hM hcl
    generalize l1[i] = x at xc0 xc1 xc2 xc3 xc4 xc5 hS hK
    obtain ⟨x0, x1, x2, x3, x4, x5⟩ := x
    simp only at xc0 xc1 xc2 xc3 xc4 xc5 hS hK
    have v0 := bc_ BT.out 0
    have fv0 := bf_ BT.out 0
    have v1 := bc_ BT.out 1
    have fv1 := bf_ BT.out 1
    have v2 := bc_ BT.out 2
    have fv2 := bf_ BT.out 2
    have v3 := bc_ BT.out 3
    have fv3 := bf_ BT.out 3
    have v4 := bc_ BT.out 4
    have fv4 := bf_ BT.out 4
    have v5 := bc_ BT.out 5
    have fv5 := bf_ BT.out 5
    by_cases e : x0 = a4
    ·rw [if_pos e] at hS
     have eb : (x0 == a4) = true := by simpa using e
     have HS := am_ hS
     have HRr := am_ hR
     clear hS hK hR e
     go_wp2
     go_roundg (l1.length - (i + 1))
     case measure => first | omega | (simp; omega)
     case rel =>
      refine ⟨i + 1, by omega, by go_num, ⟨?_⟩, ⟨?_⟩, ⟨?_⟩⟩
      ·repeat (first | exact HB.out | refine bs_ ?_ hg9)
      ·exact blk_grown BT.out HRr.out.2 (fun e => hne2 (e5_ e))
      ·rw [← HS.out]; exact HRr.out.1
    ·have eb : (x0 == a4) = false := by simpa using e
     have HS := am_ (hK e)
     clear hS hK hR e
     go_wp2
     go_roundg (l1.length - (i + 1))
     case measure => first | omega | (simp; omega)
     case rel =>
      exact ⟨i + 1, by omega, by go_num, HB, BT, ⟨by rw [← HS.out]; exact HO.out⟩⟩
   ·have hlz : ¬ (i : Int) < (l1.length : Int) := by omega
    have HE := am_ (show swapL (l1.take i) a4 (⟨a4, t1, t2, t3, t4, t5⟩ : S42) ++ l1.drop i = swapL l1 a4 (⟨a4, t1, t2, t3, t4, t5⟩ : S42) by rw [List.take_of_length_le (by omega), List.drop_eq_nil_of_le (by omega), List.append_nil])
    go_wp2
    go_ret2
    exact ⟨_, rfl, by rw [← HE.out]; exact Kd.R_mono HO.out (fun _ _ => trivial), HB.out⟩
 | false =>
  have hT : thenL p l1 a4 ⟨t0, t1, t2, t3, t4, t5⟩ = (⟨y0, y1, y2, y3, y4, y5⟩ : S42) := by unfold thenL; rw [hf]; simp only [hq, Bool.false_eq_true, if_false]
  rw [hT] at hV
  subst hV
  clear hT
  have CT := am_ (show ∀ W, Below w.heap.size w W → Calls Tryd.prog 59 #[.slice A1 l1.length c1, .int .i64 a4] W (fun e w' => e = .returned (.tuple #[.agg #[.int .i64 y0, .int .i64 y1, .string y2, .int .i64 y3, .string y4, .bool y5], .bool true]) ∧ Below W.heap.size W w') from fun W hb => CTg.out (some ⟨y0, y1, y2, y3, y4, y5⟩) hf W hb)
  have HI := am_ (fun W (gl : Nat) (bk : W.heap[gl]? = some (.cells #[.int .i64 y0, .int .i64 y1, .string y2, .int .i64 y3, .string y4, .bool y5] 42)) => HP.out W gl ⟨y0, y1, y2, y3, y4, y5⟩ bk hy4)
  rw [hq] at HI
  clear hq hy4
  clear CTg HP HX hf
  go_enter Tryd.func35, Tryd.ntmps35
  go_wp2_with (first | (go_at_call 48; (with_reducible refine (C1.out _ (by repeat (with_reducible first | exact HB.out | apply p3_ | apply p1_ | apply p2_))).mono ?_); rintro e w1 ⟨rfl, hb2⟩; replace BT := am_ (kb_ (show _ from (by (with_reducible repeat (first | exact BT.out | refine k2_ ?_ _ | refine k3_ ?_ | refine k1_ ?_ _)))) hb2); replace HB := am_ (bt_ (show Below w.heap.size w _ from (by repeat (with_reducible first | exact HB.out | apply p3_ | apply p1_ | apply p2_))) hb2); clear hb2; have v0 := bc_ BT.out 0; have fv0 := bf_ BT.out 0) | (go_at_call 58; (with_reducible refine (C2.out _).mono ?_); rintro e wq ⟨rfl, ⟨nd, rfl⟩⟩) | (go_at_call 59; (with_reducible refine (CT.out _ (by repeat (with_reducible first | exact HB.out | apply p3_ | apply p1_ | apply p2_ | refine bs_ ?_ (Nat.le_refl _)))).mono ?_); rintro e w3 ⟨rfl, hb2⟩; replace BT := am_ (kb_ (o := (.cells #[.int .i64 a4, .int .i64 t1, .string t2, .int .i64 t3, .string t4, .bool t5] 42 (0, 0))) (by (with_reducible repeat (first | refine k2_ ?_ _ | refine k3_ ?_)); refine blk_put (cs := #[.int .i64 t0, .int .i64 t1, .string t2, .int .i64 t3, .string t4, .bool t5]) ?_ 0 _ rfl; (with_reducible repeat (first | refine k2_ ?_ _ | refine k3_ ?_)); exact BT.out) hb2); replace HB := am_ (bt_ (show Below w.heap.size w _ from (by repeat (with_reducible first | exact HB.out | apply p3_ | apply p1_ | apply p2_ | refine bs_ ?_ (Nat.le_refl _)))) hb2); clear hb2 v0 fv0))
  refine (HI.out _ _ (blk_new w3 (.cells #[.int .i64 y0, .int .i64 y1, .string y2, .int .i64 y3, .string y4, .bool y5] 42))).mono ?_
  rintro e w4 ⟨rfl, hb2⟩
  replace BT := am_ (kb_ (k1_ BT.out (.cells #[.int .i64 y0, .int .i64 y1, .string y2, .int .i64 y3, .string y4, .bool y5] 42)) hb2)
  have BX := am_ (kb_ (blk_new w3 (.cells #[.int .i64 y0, .int .i64 y1, .string y2, .int .i64 y3, .string y4, .bool y5] 42)) hb2)
  replace HB := am_ (bt_ (p3_ HB.out (.cells #[.int .i64 y0, .int .i64 y1, .string y2, .int .i64 y3, .string y4, .bool y5] 42)) hb2)
  clear hb2 HI
  have v0 := bc_ BT.out 0
  have fv0 := bf_ BT.out 0
  have v1 := bc_ BT.out 1
  have fv1 := bf_ BT.out 1
  have v2 := bc_ BT.out 2
  have fv2 := bf_ BT.out 2
  have v3 := bc_ BT.out 3
  have fv3 := bf_ BT.out 3
  have v4 := bc_ BT.out 4
  have fv4 := bf_ BT.out 4
  have v5 := bc_ BT.out 5
  have fv5 := bf_ BT.out 5
  have x0 := bc_ BX.out 0
  have fx0 := bf_ BX.out 0
  have x1 := bc_ BX.out 1
  have fx1 := bf_ BX.out 1
  have x2 := bc_ BX.out 2
  have fx2 := bf_ BX.out 2
  have x3 := bc_ BX.out 3
  have fx3 := bf_ BX.out 3
  have x4 := bc_ BX.out 4
  have fx4 := bf_ BX.out 4
  have x5 := bc_ BX.out 5
  have fx5 := bf_ BX.out 5
  go_upto_region 7 with (fail)
  have HBW := am_ (show Below w.heap.size w ((((((w4.setCell ⟨w.heap.size, 0, none⟩ (.int .i64 y0)).setCell ⟨w.heap.size, 1, none⟩ (.int .i64 y1)).setCell ⟨w.heap.size, 2, none⟩ (.string y2)).setCell ⟨w.heap.size, 3, none⟩ (.int .i64 y3)).setCell ⟨w.heap.size, 4, none⟩ (.string y4)).setCell ⟨w.heap.size, 5, none⟩ (.bool y5)) from (by repeat (with_reducible first | exact HB.out | apply p3_ | apply p1_ | apply p2_ | refine bs_ ?_ (Nat.le_refl _))))
  have BTW := am_ (show ((((((w4.setCell ⟨w.heap.size, 0, none⟩ (.int .i64 y0)).setCell ⟨w.heap.size, 1, none⟩ (.int .i64 y1)).setCell ⟨w.heap.size, 2, none⟩ (.string y2)).setCell ⟨w.heap.size, 3, none⟩ (.int .i64 y3)).setCell ⟨w.heap.size, 4, none⟩ (.string y4)).setCell ⟨w.heap.size, 5, none⟩ (.bool y5)).heap[w.heap.size]? = some (.cells #[.int .i64 y0, .int .i64 y1, .string y2, .int .i64 y3, .string y4, .bool y5] 42) from (by (with_reducible repeat (first | refine k2_ ?_ _ | refine k3_ ?_)); refine blk_put (cs := #[.int .i64 y0, .int .i64 y1, .string y2, .int .i64 y3, .string y4, .bool t5]) ?_ 5 _ rfl; (with_reducible repeat (first | refine k2_ ?_ _ | refine k3_ ?_)); refine blk_put (cs := #[.int .i64 y0, .int .i64 y1, .string y2, .int .i64 y3, .string t4, .bool t5]) ?_ 4 _ rfl; (with_reducible repeat (first | refine k2_ ?_ _ | refine k3_ ?_)); refine blk_put (cs := #[.int .i64 y0, .int .i64 y1, .string y2, .int .i64 t3, .string t4, .bool t5]) ?_ 3 _ rfl; (with_reducible repeat (first | refine k2_ ?_ _ | refine k3_ ?_)); refine blk_put (cs := #[.int .i64 y0, .int .i64 y1, .string t2, .int .i64 t3, .string t4, .bool t5]) ?_ 2 _ rfl; (with_reducible repeat (first | refine k2_ ?_ _ | refine k3_ ?_)); refine blk_put (cs := #[.int .i64 y0, .int .i64 t1, .string t2, .int .i64 t3, .string t4, .bool t5]) ?_ 1 _ rfl; (with_reducible repeat (first | refine k2_ ?_ _ | refine k3_ ?_)); refine blk_put (cs := #[.int .i64 a4, .int .i64 t1, .string t2, .int .i64 t3, .string t4, .bool t5]) ?_ 0 _ rfl; (with_reducible repeat (first | refine k2_ ?_ _ | refine k3_ ?_)); exact BT.out))
  clear HB BT BX v0 fv0 x0 fx0 v1 fv1 x1 fx1 v2 fv2 x2 fx2 v3 fv3 x3 fx3 v4 fv4 x4 fx4 v5 fv5 x5 fx5
  generalize ((((((w4.setCell ⟨w.heap.size, 0, none⟩ (.int .i64 y0)).setCell ⟨w.heap.size, 1, none⟩ (.int .i64 y1)).setCell ⟨w.heap.size, 2, none⟩ (.string y2)).setCell ⟨w.heap.size, 3, none⟩ (.int .i64 y3)).setCell ⟨w.heap.size, 4, none⟩ (.string y4)).setCell ⟨w.heap.size, 5, none⟩ (.bool y5)) = W6 at HBW BTW ⊢
  have HB := HBW
  have BT := BTW
  clear HBW BTW
  go_wp2_with (first | ((with_reducible refine gate_builtin (b := .append) (xs := #[.const (.slice none 0 0), .tmp 49]) rfl ?_); at_builtin; refine Kd.R_append_rows k42 (w0 := w) w.heap.size rfl (.const (.slice none 0 0)) (.tmp 49) 27 42 (.agg #[.int .i64 0, .int .i64 0, .string ⟨#[]⟩, .int .i64 0, .string ⟨#[]⟩, .bool false]) 64 rfl Tryd.underlying27 drop_other.info rfl (by decide) (by omega) (.slice none 0 0) [] l1 _ _ _ (fun k => k ≠ w.heap.size) (fun _ => False) rfl rfl (Kd.R_nil _ _ _ _ _) ?aR (fun _ _ h => h) (fun _ h => h.elim) ?aF ?aB ?aS ?aL ?_; (case aR => exact c4_ HR1.out (by repeat (with_reducible first | exact HB.out | apply p3_ | apply p1_ | apply p2_ | refine bs_ ?_ (Nat.le_refl _)))); (case aB => exact (by repeat (with_reducible first | exact HB.out | apply p3_ | apply p1_ | apply p2_ | refine bs_ ?_ (Nat.le_refl _)))); (case aF => exact (fun k hk e => absurd (blk_lt (o := (.cells #[.int .i64 y0, .int .i64 y1, .string y2, .int .i64 y3, .string y4, .bool y5] 42 (0, 0))) BT.out) (by omega))); (case aS => exact (show Below w.heap.size w _ from (by repeat (with_reducible first | exact HB.out | apply p3_ | apply p1_ | apply p2_ | refine bs_ ?_ (Nat.le_refl _)))).size); (case aL => simp only [List.length_nil, Nat.zero_add]; omega); intro v9 w9 ho hb hg hat; rw [List.nil_append] at ho; have BT9 := am_ (blk_grown (o := (.cells #[.int .i64 y0, .int .i64 y1, .string y2, .int .i64 y3, .string y4, .bool y5] 42 (0, 0))) BT.out hg (fun e => by cases e)); replace HB := am_ hb; have HO := am_ ho; clear hg hat hb ho; obtain ⟨Ao, co, eo⟩ := Kd.R_slice HO.out; subst eo))
  clear C1 C2 CT
  go_loopg [53] l1.length (fun d v53 w' => ∃ i : Nat, i + d = l1.length ∧ v53 = .int .i64 (i : Int) ∧ Aside0 (Below w.heap.size w w') ∧ Aside0 (w'.heap[w.heap.size]? = some (.cells #[.int .i64 y0, .int .i64 y1, .string y2, .int .i64 y3, .string y4, .bool y5] 42)) ∧ Aside0 (Kd.R k42 42 w' w.heap.size (fun k => k ≠ w.heap.size) (.slice Ao l1.length co) (swapL (l1.take i) a4 (⟨y0, y1, y2, y3, y4, y5⟩ : S42) ++ l1.drop i)))
  case atStart => exact ⟨0, by omega, rfl, HB, BT9, HO⟩
  case round =>
   clear HB BT9 HO
   obtain ⟨i, hd, rfl, HB, BT, HO⟩ := hrel
   by_cases hlt : i < l1.length
   ·have hlz : (i : Int) < (l1.length : Int) := by omega
    have hsl := swap_len l1 a4 (⟨y0, y1, y2, y3, y4, y5⟩ : S42) i
    obtain ⟨g9, cap9, e9, hg9, _, _⟩ := Kd.R_form HO.out (by omega)
    injection e9 with ea en ec
    subst ea ec
    clear en
    have hne : g9 ≠ w.heap.size := HO.out.1 g9 rfl
    have hne2 : w.heap.size ≠ g9 := fun e => hne e.symm
    obtain ⟨ce, hcl, hM, hcc, hfr⟩ := Kd.R_elem HO.out z42 (i : Int) (by omega) hlz
    rw [Int.toNat_natCast, List.getD_eq_getElem?_getD, swap_get l1 a4 (⟨y0, y1, y2, y3, y4, y5⟩ : S42) i hlt] at hM
    obtain rfl := k42_openM hM
    have hS := swap_step l1 a4 (⟨y0, y1, y2, y3, y4, y5⟩ : S42) i hlt _ (List.getElem?_eq_getElem hlt)
    have hK := swap_keep l1 a4 (⟨y0, y1, y2, y3, y4, y5⟩ : S42) i hlt
    rw [Int.toNat_natCast] at hcc hfr
    have hR := Kd.R_seg HO.out (i : Int) (by omega) hlz (seg := [.int .i64 y0, .int .i64 y1, .string y2, .int .i64 y3, .string y4, .bool y5]) (j := 0) hcl (by rw [Int.toNat_natCast]; exact hcc) (show 6 ≤ 6 from by decide) (x' := (⟨y0, y1, y2, y3, y4, y5⟩ : S42)) (k42_mkM _ _ _ (⟨y0, y1, y2, y3, y4, y5⟩ : S42)) (fun _ hk => hk)
    rw [Int.toNat_natCast] at hR
    simp only [Option.getD_some] at hcc
    have xc0 := hcc 0 _ rfl
    have xf0 := hfr 0
    have xc1 := hcc 1 _ rfl
    have xf1 := hfr 1
    have xc2 := hcc 2 _ rfl
    have xf2 := hfr 2
    have xc3 := hcc 3 _ rfl
    have xf3 := hfr 3
    have xc4 := hcc 4 _ rfl
    have xf4 := hfr 4
    have xc5 := hcc 5 _ rfl
    have xf5 := hfr 5
    simp only [show (k42).sz = 6 from rfl, Nat.add_zero] at xc0 xf0 xc1 xf1 xc2 xf2 xc3 xf3 xc4 xf4 xc5 xf5
    clear hcc hfr hM hcl
    generalize l1[i] = x at xc0 xc1 xc2 xc3 xc4 xc5 hS hK
    obtain ⟨x0, x1, x2, x3, x4, x5⟩ := x
    simp only at xc0 xc1 xc2 xc3 xc4 xc5 hS hK
    have v0 := bc_ BT.out 0
    have fv0 := bf_ BT.out 0
    have v1 := bc_ BT.out 1
    have fv1 := bf_ BT.out 1
    have v2 := bc_ BT.out 2
    have fv2 := bf_ BT.out 2
    have v3 := bc_ BT.out 3
    have fv3 := bf_ BT.out 3
    have v4 := bc_ BT.out 4
    have fv4 := bf_ BT.out 4
    have v5 := bc_ BT.out 5
    have fv5 := bf_ BT.out 5
    by_cases e : x0 = a4
    ·rw [if_pos e] at hS
     have eb : (x0 == a4) = true := by simpa using e
     have HS := am_ hS
     have HRr := am_ hR
     clear hS hK hR e
     go_wp2
     go_roundg (l1.length - (i + 1))
     case measure => first | omega | (simp; omega)
     case rel =>
      refine ⟨i + 1, by omega, by go_num, ⟨?_⟩, ⟨?_⟩, ⟨?_⟩⟩
      ·repeat (first | exact HB.out | refine bs_ ?_ hg9)
      ·exact blk_grown BT.out HRr.out.2 (fun e => hne2 (e5_ e))
      ·rw [← HS.out]; exact HRr.out.1
    ·have eb : (x0 == a4) = false := by simpa using e
     have HS := am_ (hK e)
     clear hS hK hR e
     go_wp2
     go_roundg (l1.length - (i + 1))
     case measure => first | omega | (simp; omega)
     case rel =>
      exact ⟨i + 1, by omega, by go_num, HB, BT, ⟨by rw [← HS.out]; exact HO.out⟩⟩
   ·have hlz : ¬ (i : Int) < (l1.length : Int) := by omega
    have HE := am_ (show swapL (l1.take i) a4 (⟨y0, y1, y2, y3, y4, y5⟩ : S42) ++ l1.drop i = swapL l1 a4 (⟨y0, y1, y2, y3, y4, y5⟩ : S42) by rw [List.take_of_length_le (by omega), List.drop_eq_nil_of_le (by omega), List.append_nil])
    go_wp2
    go_ret2
    exact ⟨_, rfl, by rw [← HE.out]; exact Kd.R_mono HO.out (fun _ _ => trivial), HB.out⟩

/-! ### lease_Bound: function 36 -/
-- BY HAND
set_option maxHeartbeats 8000000 in
set_option maxRecDepth 100000 in
theorem lease_Bound.calls (g : Nat) (s0 s1 : Int) (s2 : ByteArray) (s3 : Int) (s4 : ByteArray) (s5 : Bool) (c : ByteArray) (now : Int) (r : Bool) (w : World) (hb : w.heap[g]? = some (.cells #[.int .i64 s0, .int .i64 s1, .string s2, .int .i64 s3, .string s4, .bool s5] 42)) (hs : s4.size ≤ 140737488351232) (h : boundB s0 s1 s2 s3 s4 s5 c now = r) :
  Calls Tryd.prog 36 #[.pointer (some ⟨g, 0, none⟩), .string c, .int .i64 now] w fun e w' => e = .returned (.bool r) ∧ Below w.heap.size w w' := by
 unfold boundB at h
 obtain ⟨b1, h1⟩ : ∃ b, holdsB s0 s1 s2 s3 s4 s5 c now = b := ⟨_, rfl⟩
 rw [h1] at h
 have C1 := am_ (fun W (bk : W.heap[g]? = some (.cells #[.int .i64 s0, .int .i64 s1, .string s2, .int .i64 s3, .string s4, .bool s5] 42)) => lease_Holds.calls g s0 s1 s2 s3 s4 s5 c now b1 W bk hs h1)
 have HR := am_ h
 have HB := am_ (Below.refl w.heap.size w)
 have BK := am_ hb
 have v0 := bc_ hb 0
 have v1 := bc_ hb 1
 have v2 := bc_ hb 2
 have v3 := bc_ hb 3
 have v4 := bc_ hb 4
 have v5 := bc_ hb 5
 clear h hb hs h1
 go_enter Tryd.func36, Tryd.ntmps36
 go_wp2_with (first
  | (go_at_call 40; (with_reducible refine (C1.out _ (by (with_reducible repeat (first | exact BK.out | refine k2_ ?_ _ | refine k3_ ?_ | refine k1_ ?_ _)))).mono ?_); rintro e w1 ⟨rfl, hb2⟩; replace BK := am_ (kb_ (show _ from (by (with_reducible repeat (first | exact BK.out | refine k2_ ?_ _ | refine k3_ ?_ | refine k1_ ?_ _)))) hb2); replace HB := am_ (bt_ (show Below w.heap.size w _ by repeat (with_reducible first | exact HB.out | apply p3_ | apply p1_ | apply p2_)) hb2); clear hb2; have u0 := bc_ BK.out 0; have u1 := bc_ BK.out 1; have u2 := bc_ BK.out 2; have u3 := bc_ BK.out 3; have u4 := bc_ BK.out 4; have u5 := bc_ BK.out 5))
 all_goals (try go_ret)
 all_goals refine ⟨ret_bool ?_, ?_⟩
 all_goals first
  | ((repeat (with_reducible first | exact HB.out | apply p3_ | apply p1_ | apply p2_)); done)
  | (rw [← HR.out]; clear HR HB C1 BK; (try clear v0 v1 v2 v3 v4 v5); (try clear u0 u1 u2 u3 u4 u5); rw [Bool.eq_iff_iff]; (simp_all; done))
  | (rw [← HR.out]; clear HR HB C1 BK; simp_all <;> omega)

/-! ### drop_Release: function 15 -/
-- BY HAND
-- 35 36
def drop_Release.f (a0_0 : Int) (a0_1 : Int) (l0_2 : List Int) (l0_3 : List S72) (a0_4 : Int) (a0_5 : ByteArray) (l0_6 : List S74) (l1 : List S42) (a2 : Int) (a3 : ByteArray) (a4 : Int) : Option (List S42 × Int) := if pickFit l0_2 l0_3 a0_5 l0_6 l1 then some (otherV (boundX a3 a2) a0_0 a0_1 l0_2 l0_3 a0_4 a0_5 l0_6 l1 a2 a3 a4 ⟨0, 0, a3, a2, ⟨#[]⟩, false⟩) else none
set_option maxHeartbeats 8000000 in
set_option maxRecDepth 100000 in
theorem drop_Release.calls (a0_0 : Int) (a0_1 : Int) (A0_2 : Option Addr) (c0_2 : Nat) (l0_2 : List Int) (A0_3 : Option Addr) (c0_3 : Nat) (l0_3 : List S72) (a0_4 : Int) (a0_5 : ByteArray) (A0_6 : Option Addr) (c0_6 : Nat) (l0_6 : List S74) (A1 : Option Addr) (c1 : Nat) (l1 : List S42) (a2 : Int) (a3 : ByteArray) (a4 : Int) (r1 : List S42) (r2 : Int) (w : World) (hr0_2 : Kd.C (Kd.int .i64) w A0_2 l0_2.length l0_2) (hc0_2 : l0_2.length ≤ c0_2) (hr0_3 : Kd.C k72 w A0_3 l0_3.length l0_3) (hc0_3 : l0_3.length ≤ c0_3) (hr0_6 : Kd.C k74 w A0_6 l0_6.length l0_6) (hc0_6 : l0_6.length ≤ c0_6) (hr1 : Kd.C k42 w A1 l1.length l1) (hc1 : l1.length ≤ c1) (h : drop_Release.f a0_0 a0_1 l0_2 l0_3 a0_4 a0_5 l0_6 l1 a2 a3 a4 = some (r1, r2)) :
  Calls Tryd.prog 15 #[.agg #[.int .i64 a0_0, .int .i64 a0_1, .slice A0_2 l0_2.length c0_2, .slice A0_3 l0_3.length c0_3, .int .i64 a0_4, .string a0_5, .slice A0_6 l0_6.length c0_6], .slice A1 l1.length c1, .int .i64 a2, .string a3, .int .i64 a4] w fun e w' => ∃ v0_ : Value, e = .returned (.tuple #[v0_, .int .i64 r2]) ∧ Kd.R k42 42 w' w.heap.size (fun _ => True) v0_ r1 ∧ Below w.heap.size w w' := by
 unfold drop_Release.f at h
 by_cases hs : pickFit l0_2 l0_3 a0_5 l0_6 l1
 rotate_left
 ·rw [if_neg hs] at h
  cases h
 rw [if_pos hs] at h
 have h' := e5_ h
 have eg : ∀ args w, (callFunc 36 args).run Tryd.prog w = .ok (.enter 36 args) w := fun args w => enters_ Tryd.func36 (by kernel_rfl) rfl args w
 have HB := am_ (Below.refl w.heap.size w)
 have BK := am_ (blk_new w (.cells #[.int .i64 a0_0, .int .i64 a0_1, .slice A0_2 l0_2.length c0_2, .slice A0_3 l0_3.length c0_3, .int .i64 a0_4, .string a0_5, .slice A0_6 l0_6.length c0_6] 26))
 have CO := am_ (fun t0 t1 t2 t3 t4 t5 W (hb : Below w.heap.size w W) (bk : W.heap[w.heap.size]? = some (.cells #[.int .i64 a0_0, .int .i64 a0_1, .slice A0_2 l0_2.length c0_2, .slice A0_3 l0_3.length c0_3, .int .i64 a0_4, .string a0_5, .slice A0_6 l0_6.length c0_6] 26)) => drop_other.calls (boundX a3 a2) 36 w.heap.size a0_0 a0_1 A0_2 c0_2 l0_2 A0_3 c0_3 l0_3 a0_4 a0_5 A0_6 c0_6 l0_6 A1 c1 l1 a2 a3 a4 t0 t1 t2 t3 t4 t5 W bk (c4_ hr0_2 hb) hc0_2 (c4_ hr0_3 hb) hc0_3 (c4_ hr0_6 hb) hc0_6 (c4_ hr1 hb) hc1 hs eg (fun W gl x hk hx => lease_Bound.calls gl x.f0 x.f1 x.f2 x.f3 x.f4 x.f5 a3 a2 _ W hk hx rfl))
 replace h' := am_ h'
 clear h hs eg hr0_2 hr0_3 hr0_6 hc0_2 hc0_3 hc0_6 hr1 hc1
 go_enter Tryd.func15, Tryd.ntmps15
 go_wp2_with (first | (go_at_call 35; ((with_reducible refine (CO.out _ _ _ _ _ _ _ (by repeat (with_reducible first | exact HB.out | apply p3_ | apply p1_ | apply p2_)) (by (with_reducible repeat (first | exact BK.out | refine k2_ ?_ _ | refine k3_ ?_ | refine k1_ ?_ _)))).mono ?_); rintro e w1 ⟨v, rfl, hR, hb2⟩; rw [h'.out] at hR; have HV := am_ (Kd.R_lower hR (show Below w.heap.size w _ from (by repeat (with_reducible first | exact HB.out | apply p3_ | apply p1_ | apply p2_))).size); replace HB := am_ (bt_ (show Below w.heap.size w _ from (by repeat (with_reducible first | exact HB.out | apply p3_ | apply p1_ | apply p2_))) hb2); clear hb2 hR)))
 go_ret2
 exact ⟨_, by (first | (rw [h'.out]; done) | (rw [h'.out]; rfl)), HV.out, HB.out⟩

/-! ### drop_Decline: function 17 -/
-- BY HAND
-- 35 40
def drop_Decline.f (a0_0 : Int) (a0_1 : Int) (l0_2 : List Int) (l0_3 : List S72) (a0_4 : Int) (a0_5 : ByteArray) (l0_6 : List S74) (l1 : List S42) (a2 : Int) (a3 : ByteArray) (a4 : Int) : Option (List S42 × Int) := if pickFit l0_2 l0_3 a0_5 l0_6 l1 then some (otherV (holdsX a3 a2) a0_0 a0_1 l0_2 l0_3 a0_4 a0_5 l0_6 l1 a2 a3 a4 ⟨0, 3, ⟨#[]⟩, wrap64 (a2 + 64), ⟨#[]⟩, false⟩) else none
set_option maxHeartbeats 8000000 in
set_option maxRecDepth 100000 in
theorem drop_Decline.calls (a0_0 : Int) (a0_1 : Int) (A0_2 : Option Addr) (c0_2 : Nat) (l0_2 : List Int) (A0_3 : Option Addr) (c0_3 : Nat) (l0_3 : List S72) (a0_4 : Int) (a0_5 : ByteArray) (A0_6 : Option Addr) (c0_6 : Nat) (l0_6 : List S74) (A1 : Option Addr) (c1 : Nat) (l1 : List S42) (a2 : Int) (a3 : ByteArray) (a4 : Int) (r1 : List S42) (r2 : Int) (w : World) (hr0_2 : Kd.C (Kd.int .i64) w A0_2 l0_2.length l0_2) (hc0_2 : l0_2.length ≤ c0_2) (hr0_3 : Kd.C k72 w A0_3 l0_3.length l0_3) (hc0_3 : l0_3.length ≤ c0_3) (hr0_6 : Kd.C k74 w A0_6 l0_6.length l0_6) (hc0_6 : l0_6.length ≤ c0_6) (hr1 : Kd.C k42 w A1 l1.length l1) (hc1 : l1.length ≤ c1) (h : drop_Decline.f a0_0 a0_1 l0_2 l0_3 a0_4 a0_5 l0_6 l1 a2 a3 a4 = some (r1, r2)) :
  Calls Tryd.prog 17 #[.agg #[.int .i64 a0_0, .int .i64 a0_1, .slice A0_2 l0_2.length c0_2, .slice A0_3 l0_3.length c0_3, .int .i64 a0_4, .string a0_5, .slice A0_6 l0_6.length c0_6], .slice A1 l1.length c1, .int .i64 a2, .string a3, .int .i64 a4] w fun e w' => ∃ v0_ : Value, e = .returned (.tuple #[v0_, .int .i64 r2]) ∧ Kd.R k42 42 w' w.heap.size (fun _ => True) v0_ r1 ∧ Below w.heap.size w w' := by
 unfold drop_Decline.f at h
 by_cases hs : pickFit l0_2 l0_3 a0_5 l0_6 l1
 rotate_left
 ·rw [if_neg hs] at h
  cases h
 rw [if_pos hs] at h
 have h' := e5_ h
 have eg : ∀ args w, (callFunc 40 args).run Tryd.prog w = .ok (.enter 40 args) w := fun args w => enters_ Tryd.func40 (by kernel_rfl) rfl args w
 have HB := am_ (Below.refl w.heap.size w)
 have BK := am_ (blk_new w (.cells #[.int .i64 a0_0, .int .i64 a0_1, .slice A0_2 l0_2.length c0_2, .slice A0_3 l0_3.length c0_3, .int .i64 a0_4, .string a0_5, .slice A0_6 l0_6.length c0_6] 26))
 have CO := am_ (fun t0 t1 t2 t3 t4 t5 W (hb : Below w.heap.size w W) (bk : W.heap[w.heap.size]? = some (.cells #[.int .i64 a0_0, .int .i64 a0_1, .slice A0_2 l0_2.length c0_2, .slice A0_3 l0_3.length c0_3, .int .i64 a0_4, .string a0_5, .slice A0_6 l0_6.length c0_6] 26)) => drop_other.calls (holdsX a3 a2) 40 w.heap.size a0_0 a0_1 A0_2 c0_2 l0_2 A0_3 c0_3 l0_3 a0_4 a0_5 A0_6 c0_6 l0_6 A1 c1 l1 a2 a3 a4 t0 t1 t2 t3 t4 t5 W bk (c4_ hr0_2 hb) hc0_2 (c4_ hr0_3 hb) hc0_3 (c4_ hr0_6 hb) hc0_6 (c4_ hr1 hb) hc1 hs eg (fun W gl x hk hx => lease_Holds.calls gl x.f0 x.f1 x.f2 x.f3 x.f4 x.f5 a3 a2 _ W hk hx rfl))
 replace h' := am_ h'
 clear h hs eg hr0_2 hr0_3 hr0_6 hc0_2 hc0_3 hc0_6 hr1 hc1
 go_enter Tryd.func17, Tryd.ntmps17
 go_wp2_with (first | (go_at_call 35; ((with_reducible refine (CO.out _ _ _ _ _ _ _ (by repeat (with_reducible first | exact HB.out | apply p3_ | apply p1_ | apply p2_)) (by (with_reducible repeat (first | exact BK.out | refine k2_ ?_ _ | refine k3_ ?_ | refine k1_ ?_ _)))).mono ?_); rintro e w1 ⟨v, rfl, hR, hb2⟩; rw [h'.out] at hR; have HV := am_ (Kd.R_lower hR (show Below w.heap.size w _ from (by repeat (with_reducible first | exact HB.out | apply p3_ | apply p1_ | apply p2_))).size); replace HB := am_ (bt_ (show Below w.heap.size w _ from (by repeat (with_reducible first | exact HB.out | apply p3_ | apply p1_ | apply p2_))) hb2); clear hb2 hR)))
 go_ret2
 exact ⟨_, by (first | (rw [h'.out]; done) | (rw [h'.out]; rfl)), HV.out, HB.out⟩

/-! ### pinfoldlaw18_given: function 26 -/
def pinfoldlaw18_given.f  : Option (Int × Int × List Int × (List (S72)) × Int × ByteArray × (List (S74))) := some (10, 13, (([12] : List Int)), (([(⟨(⟨#[118, 105, 112]⟩ : ByteArray), 13⟩ : S72)] : List (S72))), 100, (⟨#[108, 97, 110]⟩ : ByteArray), (([(⟨(⟨#[119, 119, 119, 46, 108, 97, 110]⟩ : ByteArray), 1, 5, 7, (⟨#[]⟩ : ByteArray), (⟨#[]⟩ : ByteArray), 0⟩ : S74)] : List (S74))))
set_option maxHeartbeats 8000000 in
set_option maxRecDepth 100000 in
theorem pinfoldlaw18_given.calls  (r1 : Int) (r2 : Int) (r3 : List Int) (r4 : List (S72)) (r5 : Int) (r6 : ByteArray) (r7 : List (S74)) (w : World) (h : pinfoldlaw18_given.f  = some (r1, r2, r3, r4, r5, r6, r7)) :
  Calls Tryd.prog 26 #[] w fun e w' => ∃ v2_ v3_ v6_ : Value, e = .returned (.agg #[.int .i64 r1, .int .i64 r2, v2_, v3_, .int .i64 r5, .string r6, v6_]) ∧ Kd.R (Kd.int .i64) 3 w' w.heap.size (fun _ => True) v2_ r3 ∧ Kd.R k72 72 w' w.heap.size (fun _ => True) v3_ r4 ∧ Kd.R k74 74 w' w.heap.size (fun _ => True) v6_ r7 ∧ Below w.heap.size w w' := by
 have hu26 := Tryd.underlying26
 have hu72 := Tryd.underlying72
 have hu74 := Tryd.underlying74
 have HB := am_ (Below.refl w.heap.size w)
 have H : (some (10, 13, (([12] : List Int)), (([(⟨(⟨#[118, 105, 112]⟩ : ByteArray), 13⟩ : S72)] : List (S72))), 100, (⟨#[108, 97, 110]⟩ : ByteArray), (([(⟨(⟨#[119, 119, 119, 46, 108, 97, 110]⟩ : ByteArray), 1, 5, 7, (⟨#[]⟩ : ByteArray), (⟨#[]⟩ : ByteArray), 0⟩ : S74)] : List (S74))))) = some (r1, r2, r3, r4, r5, r6, r7) := h
 clear h
 obtain ⟨y267, hy267⟩ : ∃ y_ : List Int, y_ = (([12] : List Int)) := ⟨_, rfl⟩
 replace H : (some (10, 13, y267, (([(⟨(⟨#[118, 105, 112]⟩ : ByteArray), 13⟩ : S72)] : List (S72))), 100, (⟨#[108, 97, 110]⟩ : ByteArray), (([(⟨(⟨#[119, 119, 119, 46, 108, 97, 110]⟩ : ByteArray), 1, 5, 7, (⟨#[]⟩ : ByteArray), (⟨#[]⟩ : ByteArray), 0⟩ : S74)] : List (S74))))) = some (r1, r2, r3, r4, r5, r6, r7) := by first | (rw [hy267]; with_reducible exact H) | (have H2_ := (Option.bind_some _ _).symm.trans H; rw [hy267]; with_reducible exact H2_) | (have H2_ := (Option.bind_some _ _).symm.trans H; with_reducible exact H2_) | with_reducible exact H | (rw [hy267]; exact H) | exact H
 have Ny267 := am_ hy267
 clear hy267
 obtain ⟨y270, hy270⟩ : ∃ y_ : List (S72), y_ = (([(⟨(⟨#[118, 105, 112]⟩ : ByteArray), 13⟩ : S72)] : List (S72))) := ⟨_, rfl⟩
 replace H : (some (10, 13, y267, y270, 100, (⟨#[108, 97, 110]⟩ : ByteArray), (([(⟨(⟨#[119, 119, 119, 46, 108, 97, 110]⟩ : ByteArray), 1, 5, 7, (⟨#[]⟩ : ByteArray), (⟨#[]⟩ : ByteArray), 0⟩ : S74)] : List (S74))))) = some (r1, r2, r3, r4, r5, r6, r7) := by first | (rw [hy270]; with_reducible exact H) | (have H2_ := (Option.bind_some _ _).symm.trans H; rw [hy270]; with_reducible exact H2_) | (have H2_ := (Option.bind_some _ _).symm.trans H; with_reducible exact H2_) | with_reducible exact H | (rw [hy270]; exact H) | exact H
 have Ny270 := am_ hy270
 clear hy270
 obtain ⟨y273, hy273⟩ : ∃ y_ : List (S74), y_ = (([(⟨(⟨#[119, 119, 119, 46, 108, 97, 110]⟩ : ByteArray), 1, 5, 7, (⟨#[]⟩ : ByteArray), (⟨#[]⟩ : ByteArray), 0⟩ : S74)] : List (S74))) := ⟨_, rfl⟩
 replace H : (some (10, 13, y267, y270, 100, (⟨#[108, 97, 110]⟩ : ByteArray), y273)) = some (r1, r2, r3, r4, r5, r6, r7) := by first | (rw [hy273]; with_reducible exact H) | (have H2_ := (Option.bind_some _ _).symm.trans H; rw [hy273]; with_reducible exact H2_) | (have H2_ := (Option.bind_some _ _).symm.trans H; with_reducible exact H2_) | with_reducible exact H | (rw [hy273]; exact H) | exact H
 have Ny273 := am_ hy273
 clear hy273
 simp only [Option.some.injEq, Prod.mk.injEq] at H
 obtain ⟨rfl, rfl, rfl, rfl, rfl, rfl, rfl⟩ := H
 go_enter Tryd.func26, Tryd.ntmps26
 go_wp2_with (first | ((with_reducible refine gate_dst (N := 0) rfl ?_); refine box_event ?hg (N := 0) ?hd (cs := #[.int .i64 0, .int .i64 0, .slice none 0 0, .slice none 0 0, .int .i64 0, .string (⟨#[]⟩ : ByteArray), .slice none 0 0]) (t := 26) ?hr ?_; (case hd => rfl); (case hg => rfl); (case hr => first | (go_simp; done) | (go_simp; rfl)); intro gb266 hg w1 hbox hb; have n0_ := am_ (bt_ (by repeat (with_reducible first | exact HB.out | apply p3_ | apply p1_ | apply p2_)) hb); have n1_ := am_ (hbox); have n2_ := am_ ((by rw [hg]; exact (bz_ (by repeat (with_reducible first | exact HB.out | apply p3_ | apply p1_ | apply p2_))) : w.heap.size ≤ gb266)); have n3_ := am_ ((by rw [hg]; exact (bz_ (by repeat (with_reducible first | exact HB.out | apply p3_ | apply p1_ | apply p2_))) : w.heap.size ≤ gb266)); clear HB; have HB := n0_; have BK266 := n1_; have GW266 := n2_; have GE266 := n3_; clear n0_ n1_ n2_ n3_; clear hb hbox hg) | ((with_reducible refine gate_dst (N := 1) rfl ?_); refine Kd.R_lit (Kd.int .i64) _ 3 ?hg (N := 1) ?hd (xs := ([12] : List Int)) (inner := [.int .i64 12]) (ok := fun _ => True) (okp := fun _ => True) ?hr ?hp (fun _ hk => hk) trivial (Below.refl _ _) (Nat.le_refl _) (by simp) ?_; (case hd => rfl); (case hg => rfl); (case hr => first | (go_simp; done) | (go_simp; rfl)); (case hp => exact (Reps.one (show Kd.M (Kd.int .i64) _ _ _ 12 [.int .i64 12] from rfl) (Reps.none _ _))); intro v268 w2 ho3 hb hg_ hnew_; clear hg_ hnew_; (first | rw [← Ny267.out] at ho3 | (simp only [Int.reduceToNat] at ho3; rw [← Ny267.out] at ho3)); have n0_ := am_ (Kd.R_lower ho3 (bz_ (by repeat (with_reducible first | exact HB.out | apply p3_ | apply p1_ | apply p2_ | refine bs_ ?_ GE266.out)))); have n1_ := am_ (kb_ (g := gb266) (o := .cells #[.int .i64 0, .int .i64 0, .slice none 0 0, .slice none 0 0, .int .i64 0, .string (⟨#[]⟩ : ByteArray), .slice none 0 0] 26 (0, 0)) (by (with_reducible repeat (first | refine k2_ ?_ _ | refine k3_ ?_ | refine k1_ ?_ _)); exact BK266.out) hb); have n2_ := am_ (bt_ (by repeat (with_reducible first | exact HB.out | apply p3_ | apply p1_ | apply p2_ | refine bs_ ?_ GE266.out)) hb); clear BK266; clear HB; have HO269 := n0_; have BK266 := n1_; have HB := n2_; clear n0_ n1_ n2_; clear hb ho3) | ((with_reducible refine gate_dst (N := 3) rfl ?_); refine Kd.R_lit k72 _ 72 ?hg (N := 3) ?hd (xs := ([(⟨(⟨#[118, 105, 112]⟩ : ByteArray), 13⟩ : S72)] : List (S72))) (inner := [.string (⟨#[118, 105, 112]⟩ : ByteArray), .int .i64 13]) (ok := fun _ => True) (okp := fun _ => True) ?hr ?hp (fun _ hk => hk) trivial (Below.refl _ _) (Nat.le_refl _) (by simp) ?_; (case hd => rfl); (case hg => rfl); (case hr => first | (go_simp; done) | (go_simp; rfl)); (case hp => exact (Reps.c2 (show Kd.M k72 _ _ _ (⟨(⟨#[118, 105, 112]⟩ : ByteArray), 13⟩ : S72) [.string (⟨#[118, 105, 112]⟩ : ByteArray), .int .i64 13] from (k72_mkM _ _ _ (⟨(⟨#[118, 105, 112]⟩ : ByteArray), 13⟩ : S72) )) (Reps.none _ _))); intro v271 w4 ho5 hb hg_ hnew_; clear hg_ hnew_; (first | rw [← Ny270.out] at ho5 | (simp only [Int.reduceToNat] at ho5; rw [← Ny270.out] at ho5)); have n0_ := am_ (Kd.R_below (by (with_reducible repeat (first | apply r1_ | apply r2_ | apply r3_)); exact HO269.out) hb); have n1_ := am_ (Kd.R_lower ho5 (bz_ (by repeat (with_reducible first | exact HB.out | apply p3_ | apply p1_ | apply p2_ | refine bs_ ?_ GE266.out)))); have n2_ := am_ (kb_ (g := gb266) (o := .cells #[.int .i64 0, .int .i64 0, .slice none 0 0, .slice none 0 0, .int .i64 0, .string (⟨#[]⟩ : ByteArray), .slice none 0 0] 26 (0, 0)) (by (with_reducible repeat (first | refine k2_ ?_ _ | refine k3_ ?_ | refine k1_ ?_ _)); exact BK266.out) hb); have n3_ := am_ (bt_ (by repeat (with_reducible first | exact HB.out | apply p3_ | apply p1_ | apply p2_ | refine bs_ ?_ GE266.out)) hb); clear HO269; clear BK266; clear HB; have HO269 := n0_; have HO272 := n1_; have BK266 := n2_; have HB := n3_; clear n0_ n1_ n2_ n3_; clear hb ho5) | ((with_reducible refine gate_dst (N := 5) rfl ?_); refine Kd.R_lit k74 _ 74 ?hg (N := 5) ?hd (xs := ([(⟨(⟨#[119, 119, 119, 46, 108, 97, 110]⟩ : ByteArray), 1, 5, 7, (⟨#[]⟩ : ByteArray), (⟨#[]⟩ : ByteArray), 0⟩ : S74)] : List (S74))) (inner := [.string (⟨#[119, 119, 119, 46, 108, 97, 110]⟩ : ByteArray), .int .i64 1, .int .i64 5, .int .i64 7, .string (⟨#[]⟩ : ByteArray), .string (⟨#[]⟩ : ByteArray), .int .i64 0]) (ok := fun _ => True) (okp := fun _ => True) ?hr ?hp (fun _ hk => hk) trivial (Below.refl _ _) (Nat.le_refl _) (by simp) ?_; (case hd => rfl); (case hg => rfl); (case hr => first | (go_simp; done) | (go_simp; rfl)); (case hp => exact (Reps.c7 (show Kd.M k74 _ _ _ (⟨(⟨#[119, 119, 119, 46, 108, 97, 110]⟩ : ByteArray), 1, 5, 7, (⟨#[]⟩ : ByteArray), (⟨#[]⟩ : ByteArray), 0⟩ : S74) [.string (⟨#[119, 119, 119, 46, 108, 97, 110]⟩ : ByteArray), .int .i64 1, .int .i64 5, .int .i64 7, .string (⟨#[]⟩ : ByteArray), .string (⟨#[]⟩ : ByteArray), .int .i64 0] from (k74_mkM _ _ _ (⟨(⟨#[119, 119, 119, 46, 108, 97, 110]⟩ : ByteArray), 1, 5, 7, (⟨#[]⟩ : ByteArray), (⟨#[]⟩ : ByteArray), 0⟩ : S74) )) (Reps.none _ _))); intro v274 w6 ho7 hb hg_ hnew_; clear hg_ hnew_; (first | rw [← Ny273.out] at ho7 | (simp only [Int.reduceToNat] at ho7; rw [← Ny273.out] at ho7)); have n0_ := am_ (Kd.R_below (by (with_reducible repeat (first | apply r1_ | apply r2_ | apply r3_)); exact HO269.out) hb); have n1_ := am_ (Kd.R_below (by (with_reducible repeat (first | apply r1_ | apply r2_ | apply r3_)); exact HO272.out) hb); have n2_ := am_ (Kd.R_lower ho7 (bz_ (by repeat (with_reducible first | exact HB.out | apply p3_ | apply p1_ | apply p2_ | refine bs_ ?_ GE266.out)))); have n3_ := am_ (kb_ (g := gb266) (o := .cells #[.int .i64 0, .int .i64 0, .slice none 0 0, .slice none 0 0, .int .i64 0, .string (⟨#[]⟩ : ByteArray), .slice none 0 0] 26 (0, 0)) (by (with_reducible repeat (first | refine k2_ ?_ _ | refine k3_ ?_ | refine k1_ ?_ _)); exact BK266.out) hb); have n4_ := am_ (bt_ (by repeat (with_reducible first | exact HB.out | apply p3_ | apply p1_ | apply p2_ | refine bs_ ?_ GE266.out)) hb); clear HO269; clear HO272; clear BK266; clear HB; have HO269 := n0_; have HO272 := n1_; have HO275 := n2_; have BK266 := n3_; have HB := n4_; clear n0_ n1_ n2_ n3_ n4_; clear hb ho7; obtain ⟨Ao8, co8, eo8⟩ := Kd.R_slice HO275.out; subst eo8; obtain ⟨Ao9, co9, eo9⟩ := Kd.R_slice HO272.out; subst eo9; obtain ⟨Ao10, co10, eo10⟩ := Kd.R_slice HO269.out; subst eo10; have hcz11_0 : w6.cell? ⟨gb266, 0, none⟩ = some (.int .i64 0) := (bc_ BK266.out 0).trans rfl; have hcz11_1 : w6.cell? ⟨gb266, 1, none⟩ = some (.int .i64 0) := (bc_ BK266.out 1).trans rfl; have hcz11_2 : w6.cell? ⟨gb266, 2, none⟩ = some (.slice none 0 0) := (bc_ BK266.out 2).trans rfl; have hcz11_3 : w6.cell? ⟨gb266, 3, none⟩ = some (.slice none 0 0) := (bc_ BK266.out 3).trans rfl; have hcz11_4 : w6.cell? ⟨gb266, 4, none⟩ = some (.int .i64 0) := (bc_ BK266.out 4).trans rfl; have hcz11_5 : w6.cell? ⟨gb266, 5, none⟩ = some (.string (⟨#[]⟩ : ByteArray)) := (bc_ BK266.out 5).trans rfl; have hcz11_6 : w6.cell? ⟨gb266, 6, none⟩ = some (.slice none 0 0) := (bc_ BK266.out 6).trans rfl; have hfz11_0 := bf_ BK266.out 0; have hfz11_1 := bf_ BK266.out 1; have hfz11_2 := bf_ BK266.out 2; have hfz11_3 := bf_ BK266.out 3; have hfz11_4 := bf_ BK266.out 4; have hfz11_5 := bf_ BK266.out 5; have hfz11_6 := bf_ BK266.out 6))
 refine bodyPost_ret (results_cell_row rfl _ _ gb266 26 #[.int .i64 10, .int .i64 13, .slice Ao10 y267.length co10, .slice Ao9 y270.length co9, .int .i64 100, .string (⟨#[108, 97, 110]⟩ : ByteArray), .slice Ao8 y273.length co8] (0, 0) _ rfl (by (with_reducible repeat (first | refine k2_ ?_ _ | refine k3_ ?_ | refine k1_ ?_ _)); refine blk_put (cs := #[.int .i64 10, .int .i64 13, .slice Ao10 y267.length co10, .slice Ao9 y270.length co9, .int .i64 100, .string (⟨#[108, 97, 110]⟩ : ByteArray), .slice none 0 0]) ?_ 6 _ rfl; (with_reducible repeat (first | refine k2_ ?_ _ | refine k3_ ?_ | refine k1_ ?_ _)); refine blk_put (cs := #[.int .i64 10, .int .i64 13, .slice Ao10 y267.length co10, .slice Ao9 y270.length co9, .int .i64 100, .string (⟨#[]⟩ : ByteArray), .slice none 0 0]) ?_ 5 _ rfl; (with_reducible repeat (first | refine k2_ ?_ _ | refine k3_ ?_ | refine k1_ ?_ _)); refine blk_put (cs := #[.int .i64 10, .int .i64 13, .slice Ao10 y267.length co10, .slice Ao9 y270.length co9, .int .i64 0, .string (⟨#[]⟩ : ByteArray), .slice none 0 0]) ?_ 4 _ rfl; (with_reducible repeat (first | refine k2_ ?_ _ | refine k3_ ?_ | refine k1_ ?_ _)); refine blk_put (cs := #[.int .i64 10, .int .i64 13, .slice Ao10 y267.length co10, .slice none 0 0, .int .i64 0, .string (⟨#[]⟩ : ByteArray), .slice none 0 0]) ?_ 3 _ rfl; (with_reducible repeat (first | refine k2_ ?_ _ | refine k3_ ?_ | refine k1_ ?_ _)); refine blk_put (cs := #[.int .i64 10, .int .i64 13, .slice none 0 0, .slice none 0 0, .int .i64 0, .string (⟨#[]⟩ : ByteArray), .slice none 0 0]) ?_ 2 _ rfl; (with_reducible repeat (first | refine k2_ ?_ _ | refine k3_ ?_ | refine k1_ ?_ _)); refine blk_put (cs := #[.int .i64 10, .int .i64 0, .slice none 0 0, .slice none 0 0, .int .i64 0, .string (⟨#[]⟩ : ByteArray), .slice none 0 0]) ?_ 1 _ rfl; (with_reducible repeat (first | refine k2_ ?_ _ | refine k3_ ?_ | refine k1_ ?_ _)); refine blk_put (cs := #[.int .i64 0, .int .i64 0, .slice none 0 0, .slice none 0 0, .int .i64 0, .string (⟨#[]⟩ : ByteArray), .slice none 0 0]) ?_ 0 _ rfl; (with_reducible repeat (first | refine k2_ ?_ _ | refine k3_ ?_ | refine k1_ ?_ _)); exact BK266.out) Tryd.underlying26 rfl (by kernel_rfl)) rfl ?_
 exact ⟨_, _, _, by first | rfl | (simp [errW_none, errW_some] <;> rfl) | (simp [*, errW_none, errW_some] <;> rfl), by (with_reducible repeat (first | apply r1_ | apply r2_ | apply r3_)); exact Kd.R_mono (Kd.R_far (p := ⟨gb266, 6, none⟩) (Kd.R_far (p := ⟨gb266, 5, none⟩) (Kd.R_far (p := ⟨gb266, 4, none⟩) (Kd.R_far (p := ⟨gb266, 3, none⟩) (Kd.R_far (p := ⟨gb266, 2, none⟩) (Kd.R_far (p := ⟨gb266, 1, none⟩) (Kd.R_far (p := ⟨gb266, 0, none⟩) (Kd.R_types HO269.out BK266.out (by decide)) (fun _ hk => hk.2) (.int .i64 10)) (fun _ hk => hk.2) (.int .i64 13)) (fun _ hk => hk.2) (.slice Ao10 y267.length co10)) (fun _ hk => hk.2) (.slice Ao9 y270.length co9)) (fun _ hk => hk.2) (.int .i64 100)) (fun _ hk => hk.2) (.string (⟨#[108, 97, 110]⟩ : ByteArray))) (fun _ hk => hk.2) (.slice Ao8 y273.length co8)) (fun _ hk => trivial), by (with_reducible repeat (first | apply r1_ | apply r2_ | apply r3_)); exact Kd.R_mono (Kd.R_far (p := ⟨gb266, 6, none⟩) (Kd.R_far (p := ⟨gb266, 5, none⟩) (Kd.R_far (p := ⟨gb266, 4, none⟩) (Kd.R_far (p := ⟨gb266, 3, none⟩) (Kd.R_far (p := ⟨gb266, 2, none⟩) (Kd.R_far (p := ⟨gb266, 1, none⟩) (Kd.R_far (p := ⟨gb266, 0, none⟩) (Kd.R_types HO272.out BK266.out (by decide)) (fun _ hk => hk.2) (.int .i64 10)) (fun _ hk => hk.2) (.int .i64 13)) (fun _ hk => hk.2) (.slice Ao10 y267.length co10)) (fun _ hk => hk.2) (.slice Ao9 y270.length co9)) (fun _ hk => hk.2) (.int .i64 100)) (fun _ hk => hk.2) (.string (⟨#[108, 97, 110]⟩ : ByteArray))) (fun _ hk => hk.2) (.slice Ao8 y273.length co8)) (fun _ hk => trivial), by (with_reducible repeat (first | apply r1_ | apply r2_ | apply r3_)); exact Kd.R_mono (Kd.R_far (p := ⟨gb266, 6, none⟩) (Kd.R_far (p := ⟨gb266, 5, none⟩) (Kd.R_far (p := ⟨gb266, 4, none⟩) (Kd.R_far (p := ⟨gb266, 3, none⟩) (Kd.R_far (p := ⟨gb266, 2, none⟩) (Kd.R_far (p := ⟨gb266, 1, none⟩) (Kd.R_far (p := ⟨gb266, 0, none⟩) (Kd.R_types HO275.out BK266.out (by decide)) (fun _ hk => hk.2) (.int .i64 10)) (fun _ hk => hk.2) (.int .i64 13)) (fun _ hk => hk.2) (.slice Ao10 y267.length co10)) (fun _ hk => hk.2) (.slice Ao9 y270.length co9)) (fun _ hk => hk.2) (.int .i64 100)) (fun _ hk => hk.2) (.string (⟨#[108, 97, 110]⟩ : ByteArray))) (fun _ hk => hk.2) (.slice Ao8 y273.length co8)) (fun _ hk => trivial), by repeat (with_reducible first | exact HB.out | apply p3_ | apply p1_ | apply p2_ | refine bs_ ?_ GE266.out)⟩

/-! ### pinfoldlaw18_awake: function 24 -/
def pinfoldlaw18_awake.f (k : Nat)  : Option (Bool) := (pinfoldlaw18_given.f).bind fun bt276 => ((some (([(⟨10, 2, (⟨#[109, 101]⟩ : ByteArray), 100, (⟨#[112, 99]⟩ : ByteArray), true⟩ : S42)] : List (S42)) : List (S42))).bind fun y290 => ((drop_Release.f bt276.1 bt276.2.1 bt276.2.2.1 bt276.2.2.2.1 bt276.2.2.2.2.1 bt276.2.2.2.2.2.1 bt276.2.2.2.2.2.2 y290 5 (⟨#[109, 101]⟩ : ByteArray) 10).bind fun bt293 => ((drop_Decline.f bt276.1 bt276.2.1 bt276.2.2.1 bt276.2.2.2.1 bt276.2.2.2.2.1 bt276.2.2.2.2.2.1 bt276.2.2.2.2.2.2 y290 5 (⟨#[109, 101]⟩ : ByteArray) 10).bind fun bt297 => ((drop_Release.f bt276.1 bt276.2.1 bt276.2.2.1 bt276.2.2.2.1 bt276.2.2.2.2.1 bt276.2.2.2.2.2.1 bt276.2.2.2.2.2.2 y290 5 (⟨#[121, 111, 117]⟩ : ByteArray) 10).bind fun bt301 => ((drop_Decline.f bt276.1 bt276.2.1 bt276.2.2.1 bt276.2.2.2.1 bt276.2.2.2.2.1 bt276.2.2.2.2.2.1 bt276.2.2.2.2.2.2 y290 (-1) (⟨#[109, 101]⟩ : ByteArray) 10).bind fun bt305 => ((pinfoldlaw0_SameLeases.f k bt293.1 (([(⟨10, 0, (⟨#[109, 101]⟩ : ByteArray), 5, (⟨#[]⟩ : ByteArray), false⟩ : S42)] : List (S42)))).bind fun t312 => (if t312 = true then ((pinfoldlaw0_Num.f bt293.2).bind fun t313 => (if t313 = 0 then ((pinfoldlaw0_SameLeases.f k bt297.1 (([(⟨10, 3, (⟨#[]⟩ : ByteArray), 69, (⟨#[]⟩ : ByteArray), false⟩ : S42)] : List (S42)))).bind fun t317 => (if t317 = true then ((pinfoldlaw0_Num.f bt297.2).bind fun t318 => (if t318 = 0 then ((pinfoldlaw0_SameLeases.f k bt301.1 y290).bind fun t319 => (if t319 = true then ((pinfoldlaw0_Num.f bt301.2).bind fun t320 => (if t320 = 0 then ((pinfoldlaw0_Num.f bt305.2).bind fun t321 => (some (t321 == 1800))) else (none))) else (none))) else (none))) else (none))) else (none))) else (none))))))))
theorem pinfoldlaw18_awake.mono : ∀ k, LeO (pinfoldlaw18_awake.f k ) (pinfoldlaw18_awake.f (k + 1) ) := by
 intro  k
 unfold pinfoldlaw18_awake.f
 repeat' first
   | (with_reducible exact pinfoldlaw0_SameLeases.mono _ _ _)
   | (with_reducible exact LeO.refl _)
   | (with_reducible exact LeO.none _)
   | (with_reducible refine LeO.ite ?_ ?_)
   | (with_reducible refine LeO.bind ?_ (fun _ => ?_))
   | exact pinfoldlaw0_SameLeases.mono _ _ _
   | exact LeO.none _
   | refine LeO.ite ?_ ?_
   | refine LeO.bind ?_ (fun _ => ?_)
set_option maxHeartbeats 8000000 in
set_option maxRecDepth 100000 in
theorem pinfoldlaw18_awake.calls (k : Nat)  (r : Bool) (w : World) (h : pinfoldlaw18_awake.f k  = some r) :
  Calls Tryd.prog 24 #[] w fun e w' => e = .returned (.bool r) ∧ Below w.heap.size w w' := by
 have hu26 := Tryd.underlying26
 have hu42 := Tryd.underlying42
 have HB := am_ (Below.refl w.heap.size w)
 have H : ((pinfoldlaw18_given.f).bind fun bt276 => ((some (([(⟨10, 2, (⟨#[109, 101]⟩ : ByteArray), 100, (⟨#[112, 99]⟩ : ByteArray), true⟩ : S42)] : List (S42)) : List (S42))).bind fun y290 => ((drop_Release.f bt276.1 bt276.2.1 bt276.2.2.1 bt276.2.2.2.1 bt276.2.2.2.2.1 bt276.2.2.2.2.2.1 bt276.2.2.2.2.2.2 y290 5 (⟨#[109, 101]⟩ : ByteArray) 10).bind fun bt293 => ((drop_Decline.f bt276.1 bt276.2.1 bt276.2.2.1 bt276.2.2.2.1 bt276.2.2.2.2.1 bt276.2.2.2.2.2.1 bt276.2.2.2.2.2.2 y290 5 (⟨#[109, 101]⟩ : ByteArray) 10).bind fun bt297 => ((drop_Release.f bt276.1 bt276.2.1 bt276.2.2.1 bt276.2.2.2.1 bt276.2.2.2.2.1 bt276.2.2.2.2.2.1 bt276.2.2.2.2.2.2 y290 5 (⟨#[121, 111, 117]⟩ : ByteArray) 10).bind fun bt301 => ((drop_Decline.f bt276.1 bt276.2.1 bt276.2.2.1 bt276.2.2.2.1 bt276.2.2.2.2.1 bt276.2.2.2.2.2.1 bt276.2.2.2.2.2.2 y290 (-1) (⟨#[109, 101]⟩ : ByteArray) 10).bind fun bt305 => ((pinfoldlaw0_SameLeases.f k bt293.1 (([(⟨10, 0, (⟨#[109, 101]⟩ : ByteArray), 5, (⟨#[]⟩ : ByteArray), false⟩ : S42)] : List (S42)))).bind fun t312 => (if t312 = true then ((pinfoldlaw0_Num.f bt293.2).bind fun t313 => (if t313 = 0 then ((pinfoldlaw0_SameLeases.f k bt297.1 (([(⟨10, 3, (⟨#[]⟩ : ByteArray), 69, (⟨#[]⟩ : ByteArray), false⟩ : S42)] : List (S42)))).bind fun t317 => (if t317 = true then ((pinfoldlaw0_Num.f bt297.2).bind fun t318 => (if t318 = 0 then ((pinfoldlaw0_SameLeases.f k bt301.1 y290).bind fun t319 => (if t319 = true then ((pinfoldlaw0_Num.f bt301.2).bind fun t320 => (if t320 = 0 then ((pinfoldlaw0_Num.f bt305.2).bind fun t321 => (some (t321 == 1800))) else (none))) else (none))) else (none))) else (none))) else (none))) else (none))))))))) = some r := h
 clear h
 replace H := e4_ H
 obtain ⟨⟨t276, t277, t278, t281, t284, t285, t286⟩, A10, H⟩ := H
 replace H : ((some (([(⟨10, 2, (⟨#[109, 101]⟩ : ByteArray), 100, (⟨#[112, 99]⟩ : ByteArray), true⟩ : S42)] : List (S42)) : List (S42))).bind fun y290 => ((drop_Release.f t276 t277 t278 t281 t284 t285 t286 y290 5 (⟨#[109, 101]⟩ : ByteArray) 10).bind fun bt293 => ((drop_Decline.f t276 t277 t278 t281 t284 t285 t286 y290 5 (⟨#[109, 101]⟩ : ByteArray) 10).bind fun bt297 => ((drop_Release.f t276 t277 t278 t281 t284 t285 t286 y290 5 (⟨#[121, 111, 117]⟩ : ByteArray) 10).bind fun bt301 => ((drop_Decline.f t276 t277 t278 t281 t284 t285 t286 y290 (-1) (⟨#[109, 101]⟩ : ByteArray) 10).bind fun bt305 => ((pinfoldlaw0_SameLeases.f k bt293.1 (([(⟨10, 0, (⟨#[109, 101]⟩ : ByteArray), 5, (⟨#[]⟩ : ByteArray), false⟩ : S42)] : List (S42)))).bind fun t312 => (if t312 = true then ((pinfoldlaw0_Num.f bt293.2).bind fun t313 => (if t313 = 0 then ((pinfoldlaw0_SameLeases.f k bt297.1 (([(⟨10, 3, (⟨#[]⟩ : ByteArray), 69, (⟨#[]⟩ : ByteArray), false⟩ : S42)] : List (S42)))).bind fun t317 => (if t317 = true then ((pinfoldlaw0_Num.f bt297.2).bind fun t318 => (if t318 = 0 then ((pinfoldlaw0_SameLeases.f k bt301.1 y290).bind fun t319 => (if t319 = true then ((pinfoldlaw0_Num.f bt301.2).bind fun t320 => (if t320 = 0 then ((pinfoldlaw0_Num.f bt305.2).bind fun t321 => (some (t321 == 1800))) else (none))) else (none))) else (none))) else (none))) else (none))) else (none)))))))) = some r := H
 have A1 := am_ A10
 clear A10
 obtain ⟨y290, hy290⟩ : ∃ y_ : List (S42), y_ = (([(⟨10, 2, (⟨#[109, 101]⟩ : ByteArray), 100, (⟨#[112, 99]⟩ : ByteArray), true⟩ : S42)] : List (S42))) := ⟨_, rfl⟩
 replace H : ((drop_Release.f t276 t277 t278 t281 t284 t285 t286 y290 5 (⟨#[109, 101]⟩ : ByteArray) 10).bind fun bt293 => ((drop_Decline.f t276 t277 t278 t281 t284 t285 t286 y290 5 (⟨#[109, 101]⟩ : ByteArray) 10).bind fun bt297 => ((drop_Release.f t276 t277 t278 t281 t284 t285 t286 y290 5 (⟨#[121, 111, 117]⟩ : ByteArray) 10).bind fun bt301 => ((drop_Decline.f t276 t277 t278 t281 t284 t285 t286 y290 (-1) (⟨#[109, 101]⟩ : ByteArray) 10).bind fun bt305 => ((pinfoldlaw0_SameLeases.f k bt293.1 (([(⟨10, 0, (⟨#[109, 101]⟩ : ByteArray), 5, (⟨#[]⟩ : ByteArray), false⟩ : S42)] : List (S42)))).bind fun t312 => (if t312 = true then ((pinfoldlaw0_Num.f bt293.2).bind fun t313 => (if t313 = 0 then ((pinfoldlaw0_SameLeases.f k bt297.1 (([(⟨10, 3, (⟨#[]⟩ : ByteArray), 69, (⟨#[]⟩ : ByteArray), false⟩ : S42)] : List (S42)))).bind fun t317 => (if t317 = true then ((pinfoldlaw0_Num.f bt297.2).bind fun t318 => (if t318 = 0 then ((pinfoldlaw0_SameLeases.f k bt301.1 y290).bind fun t319 => (if t319 = true then ((pinfoldlaw0_Num.f bt301.2).bind fun t320 => (if t320 = 0 then ((pinfoldlaw0_Num.f bt305.2).bind fun t321 => (some (t321 == 1800))) else (none))) else (none))) else (none))) else (none))) else (none))) else (none))))))) = some r := by first | (rw [hy290]; with_reducible exact H) | (have H2_ := (Option.bind_some _ _).symm.trans H; rw [hy290]; with_reducible exact H2_) | (have H2_ := (Option.bind_some _ _).symm.trans H; with_reducible exact H2_) | with_reducible exact H | (rw [hy290]; exact H) | exact H
 have Ny290 := am_ hy290
 clear hy290
 replace H := e4_ H
 obtain ⟨⟨t293, t296⟩, A20, H⟩ := H
 replace H : ((drop_Decline.f t276 t277 t278 t281 t284 t285 t286 y290 5 (⟨#[109, 101]⟩ : ByteArray) 10).bind fun bt297 => ((drop_Release.f t276 t277 t278 t281 t284 t285 t286 y290 5 (⟨#[121, 111, 117]⟩ : ByteArray) 10).bind fun bt301 => ((drop_Decline.f t276 t277 t278 t281 t284 t285 t286 y290 (-1) (⟨#[109, 101]⟩ : ByteArray) 10).bind fun bt305 => ((pinfoldlaw0_SameLeases.f k t293 (([(⟨10, 0, (⟨#[109, 101]⟩ : ByteArray), 5, (⟨#[]⟩ : ByteArray), false⟩ : S42)] : List (S42)))).bind fun t312 => (if t312 = true then ((pinfoldlaw0_Num.f t296).bind fun t313 => (if t313 = 0 then ((pinfoldlaw0_SameLeases.f k bt297.1 (([(⟨10, 3, (⟨#[]⟩ : ByteArray), 69, (⟨#[]⟩ : ByteArray), false⟩ : S42)] : List (S42)))).bind fun t317 => (if t317 = true then ((pinfoldlaw0_Num.f bt297.2).bind fun t318 => (if t318 = 0 then ((pinfoldlaw0_SameLeases.f k bt301.1 y290).bind fun t319 => (if t319 = true then ((pinfoldlaw0_Num.f bt301.2).bind fun t320 => (if t320 = 0 then ((pinfoldlaw0_Num.f bt305.2).bind fun t321 => (some (t321 == 1800))) else (none))) else (none))) else (none))) else (none))) else (none))) else (none)))))) = some r := H
 have A2 := am_ A20
 clear A20
 replace H := e4_ H
 obtain ⟨⟨t297, t300⟩, A30, H⟩ := H
 replace H : ((drop_Release.f t276 t277 t278 t281 t284 t285 t286 y290 5 (⟨#[121, 111, 117]⟩ : ByteArray) 10).bind fun bt301 => ((drop_Decline.f t276 t277 t278 t281 t284 t285 t286 y290 (-1) (⟨#[109, 101]⟩ : ByteArray) 10).bind fun bt305 => ((pinfoldlaw0_SameLeases.f k t293 (([(⟨10, 0, (⟨#[109, 101]⟩ : ByteArray), 5, (⟨#[]⟩ : ByteArray), false⟩ : S42)] : List (S42)))).bind fun t312 => (if t312 = true then ((pinfoldlaw0_Num.f t296).bind fun t313 => (if t313 = 0 then ((pinfoldlaw0_SameLeases.f k t297 (([(⟨10, 3, (⟨#[]⟩ : ByteArray), 69, (⟨#[]⟩ : ByteArray), false⟩ : S42)] : List (S42)))).bind fun t317 => (if t317 = true then ((pinfoldlaw0_Num.f t300).bind fun t318 => (if t318 = 0 then ((pinfoldlaw0_SameLeases.f k bt301.1 y290).bind fun t319 => (if t319 = true then ((pinfoldlaw0_Num.f bt301.2).bind fun t320 => (if t320 = 0 then ((pinfoldlaw0_Num.f bt305.2).bind fun t321 => (some (t321 == 1800))) else (none))) else (none))) else (none))) else (none))) else (none))) else (none))))) = some r := H
 have A3 := am_ A30
 clear A30
 replace H := e4_ H
 obtain ⟨⟨t301, t304⟩, A40, H⟩ := H
 replace H : ((drop_Decline.f t276 t277 t278 t281 t284 t285 t286 y290 (-1) (⟨#[109, 101]⟩ : ByteArray) 10).bind fun bt305 => ((pinfoldlaw0_SameLeases.f k t293 (([(⟨10, 0, (⟨#[109, 101]⟩ : ByteArray), 5, (⟨#[]⟩ : ByteArray), false⟩ : S42)] : List (S42)))).bind fun t312 => (if t312 = true then ((pinfoldlaw0_Num.f t296).bind fun t313 => (if t313 = 0 then ((pinfoldlaw0_SameLeases.f k t297 (([(⟨10, 3, (⟨#[]⟩ : ByteArray), 69, (⟨#[]⟩ : ByteArray), false⟩ : S42)] : List (S42)))).bind fun t317 => (if t317 = true then ((pinfoldlaw0_Num.f t300).bind fun t318 => (if t318 = 0 then ((pinfoldlaw0_SameLeases.f k t301 y290).bind fun t319 => (if t319 = true then ((pinfoldlaw0_Num.f t304).bind fun t320 => (if t320 = 0 then ((pinfoldlaw0_Num.f bt305.2).bind fun t321 => (some (t321 == 1800))) else (none))) else (none))) else (none))) else (none))) else (none))) else (none)))) = some r := H
 have A4 := am_ A40
 clear A40
 replace H := e4_ H
 obtain ⟨⟨t305, t308⟩, A50, H⟩ := H
 replace H : ((pinfoldlaw0_SameLeases.f k t293 (([(⟨10, 0, (⟨#[109, 101]⟩ : ByteArray), 5, (⟨#[]⟩ : ByteArray), false⟩ : S42)] : List (S42)))).bind fun t312 => (if t312 = true then ((pinfoldlaw0_Num.f t296).bind fun t313 => (if t313 = 0 then ((pinfoldlaw0_SameLeases.f k t297 (([(⟨10, 3, (⟨#[]⟩ : ByteArray), 69, (⟨#[]⟩ : ByteArray), false⟩ : S42)] : List (S42)))).bind fun t317 => (if t317 = true then ((pinfoldlaw0_Num.f t300).bind fun t318 => (if t318 = 0 then ((pinfoldlaw0_SameLeases.f k t301 y290).bind fun t319 => (if t319 = true then ((pinfoldlaw0_Num.f t304).bind fun t320 => (if t320 = 0 then ((pinfoldlaw0_Num.f t308).bind fun t321 => (some (t321 == 1800))) else (none))) else (none))) else (none))) else (none))) else (none))) else (none))) = some r := H
 have A5 := am_ A50
 clear A50
 obtain ⟨y309, hy309⟩ : ∃ y_ : List (S42), y_ = (([(⟨10, 0, (⟨#[109, 101]⟩ : ByteArray), 5, (⟨#[]⟩ : ByteArray), false⟩ : S42)] : List (S42))) := ⟨_, rfl⟩
 replace H : ((pinfoldlaw0_SameLeases.f k t293 y309).bind fun t312 => (if t312 = true then ((pinfoldlaw0_Num.f t296).bind fun t313 => (if t313 = 0 then ((pinfoldlaw0_SameLeases.f k t297 (([(⟨10, 3, (⟨#[]⟩ : ByteArray), 69, (⟨#[]⟩ : ByteArray), false⟩ : S42)] : List (S42)))).bind fun t317 => (if t317 = true then ((pinfoldlaw0_Num.f t300).bind fun t318 => (if t318 = 0 then ((pinfoldlaw0_SameLeases.f k t301 y290).bind fun t319 => (if t319 = true then ((pinfoldlaw0_Num.f t304).bind fun t320 => (if t320 = 0 then ((pinfoldlaw0_Num.f t308).bind fun t321 => (some (t321 == 1800))) else (none))) else (none))) else (none))) else (none))) else (none))) else (none))) = some r := by first | (rw [hy309]; with_reducible exact H) | (have H2_ := (Option.bind_some _ _).symm.trans H; rw [hy309]; with_reducible exact H2_) | (have H2_ := (Option.bind_some _ _).symm.trans H; with_reducible exact H2_) | with_reducible exact H | (rw [hy309]; exact H) | exact H
 have Ny309 := am_ hy309
 clear hy309
 replace H := e4_ H
 obtain ⟨t312, A60, H⟩ := H
 replace H : (if t312 = true then ((pinfoldlaw0_Num.f t296).bind fun t313 => (if t313 = 0 then ((pinfoldlaw0_SameLeases.f k t297 (([(⟨10, 3, (⟨#[]⟩ : ByteArray), 69, (⟨#[]⟩ : ByteArray), false⟩ : S42)] : List (S42)))).bind fun t317 => (if t317 = true then ((pinfoldlaw0_Num.f t300).bind fun t318 => (if t318 = 0 then ((pinfoldlaw0_SameLeases.f k t301 y290).bind fun t319 => (if t319 = true then ((pinfoldlaw0_Num.f t304).bind fun t320 => (if t320 = 0 then ((pinfoldlaw0_Num.f t308).bind fun t321 => (some (t321 == 1800))) else (none))) else (none))) else (none))) else (none))) else (none))) else (none)) = some r := H
 have A6 := am_ A60
 clear A60
 by_cases c7 : t312 = true
 ·subst c7
  have H1 : ((pinfoldlaw0_Num.f t296).bind fun t313 => (if t313 = 0 then ((pinfoldlaw0_SameLeases.f k t297 (([(⟨10, 3, (⟨#[]⟩ : ByteArray), 69, (⟨#[]⟩ : ByteArray), false⟩ : S42)] : List (S42)))).bind fun t317 => (if t317 = true then ((pinfoldlaw0_Num.f t300).bind fun t318 => (if t318 = 0 then ((pinfoldlaw0_SameLeases.f k t301 y290).bind fun t319 => (if t319 = true then ((pinfoldlaw0_Num.f t304).bind fun t320 => (if t320 = 0 then ((pinfoldlaw0_Num.f t308).bind fun t321 => (some (t321 == 1800))) else (none))) else (none))) else (none))) else (none))) else (none))) = some r := by rw [if_pos rfl] at H; exact H
  clear H
  have H := H1
  clear H1
  replace H := e4_ H
  obtain ⟨t313, A80, H⟩ := H
  replace H : (if t313 = 0 then ((pinfoldlaw0_SameLeases.f k t297 (([(⟨10, 3, (⟨#[]⟩ : ByteArray), 69, (⟨#[]⟩ : ByteArray), false⟩ : S42)] : List (S42)))).bind fun t317 => (if t317 = true then ((pinfoldlaw0_Num.f t300).bind fun t318 => (if t318 = 0 then ((pinfoldlaw0_SameLeases.f k t301 y290).bind fun t319 => (if t319 = true then ((pinfoldlaw0_Num.f t304).bind fun t320 => (if t320 = 0 then ((pinfoldlaw0_Num.f t308).bind fun t321 => (some (t321 == 1800))) else (none))) else (none))) else (none))) else (none))) else (none)) = some r := H
  have A8 := am_ A80
  clear A80
  by_cases c9 : t313 = 0
  rotate_left
  ·rw [if_neg c9] at H
   exact absurd H (by simp)
  rw [if_pos c9] at H
  have c9b0 : (t313 == 0) = true := beq_iff_eq.mpr c9
  have c9b1 : (t313 != 0) = false := e1_ c9
  clear c9
  obtain ⟨y314, hy314⟩ : ∃ y_ : List (S42), y_ = (([(⟨10, 3, (⟨#[]⟩ : ByteArray), 69, (⟨#[]⟩ : ByteArray), false⟩ : S42)] : List (S42))) := ⟨_, rfl⟩
  replace H : ((pinfoldlaw0_SameLeases.f k t297 y314).bind fun t317 => (if t317 = true then ((pinfoldlaw0_Num.f t300).bind fun t318 => (if t318 = 0 then ((pinfoldlaw0_SameLeases.f k t301 y290).bind fun t319 => (if t319 = true then ((pinfoldlaw0_Num.f t304).bind fun t320 => (if t320 = 0 then ((pinfoldlaw0_Num.f t308).bind fun t321 => (some (t321 == 1800))) else (none))) else (none))) else (none))) else (none))) = some r := by first | (rw [hy314]; with_reducible exact H) | (have H2_ := (Option.bind_some _ _).symm.trans H; rw [hy314]; with_reducible exact H2_) | (have H2_ := (Option.bind_some _ _).symm.trans H; with_reducible exact H2_) | with_reducible exact H | (rw [hy314]; exact H) | exact H
  have Ny314 := am_ hy314
  clear hy314
  replace H := e4_ H
  obtain ⟨t317, A100, H⟩ := H
  replace H : (if t317 = true then ((pinfoldlaw0_Num.f t300).bind fun t318 => (if t318 = 0 then ((pinfoldlaw0_SameLeases.f k t301 y290).bind fun t319 => (if t319 = true then ((pinfoldlaw0_Num.f t304).bind fun t320 => (if t320 = 0 then ((pinfoldlaw0_Num.f t308).bind fun t321 => (some (t321 == 1800))) else (none))) else (none))) else (none))) else (none)) = some r := H
  have A10 := am_ A100
  clear A100
  by_cases c11 : t317 = true
  ·subst c11
   have H1 : ((pinfoldlaw0_Num.f t300).bind fun t318 => (if t318 = 0 then ((pinfoldlaw0_SameLeases.f k t301 y290).bind fun t319 => (if t319 = true then ((pinfoldlaw0_Num.f t304).bind fun t320 => (if t320 = 0 then ((pinfoldlaw0_Num.f t308).bind fun t321 => (some (t321 == 1800))) else (none))) else (none))) else (none))) = some r := by rw [if_pos rfl] at H; exact H
   clear H
   have H := H1
   clear H1
   replace H := e4_ H
   obtain ⟨t318, A120, H⟩ := H
   replace H : (if t318 = 0 then ((pinfoldlaw0_SameLeases.f k t301 y290).bind fun t319 => (if t319 = true then ((pinfoldlaw0_Num.f t304).bind fun t320 => (if t320 = 0 then ((pinfoldlaw0_Num.f t308).bind fun t321 => (some (t321 == 1800))) else (none))) else (none))) else (none)) = some r := H
   have A12 := am_ A120
   clear A120
   by_cases c13 : t318 = 0
   rotate_left
   ·rw [if_neg c13] at H
    exact absurd H (by simp)
   rw [if_pos c13] at H
   have c13b0 : (t318 == 0) = true := beq_iff_eq.mpr c13
   have c13b1 : (t318 != 0) = false := e1_ c13
   clear c13
   replace H := e4_ H
   obtain ⟨t319, A140, H⟩ := H
   replace H : (if t319 = true then ((pinfoldlaw0_Num.f t304).bind fun t320 => (if t320 = 0 then ((pinfoldlaw0_Num.f t308).bind fun t321 => (some (t321 == 1800))) else (none))) else (none)) = some r := H
   have A14 := am_ A140
   clear A140
   by_cases c15 : t319 = true
   ·subst c15
    have H1 : ((pinfoldlaw0_Num.f t304).bind fun t320 => (if t320 = 0 then ((pinfoldlaw0_Num.f t308).bind fun t321 => (some (t321 == 1800))) else (none))) = some r := by rw [if_pos rfl] at H; exact H
    clear H
    have H := H1
    clear H1
    replace H := e4_ H
    obtain ⟨t320, A160, H⟩ := H
    replace H : (if t320 = 0 then ((pinfoldlaw0_Num.f t308).bind fun t321 => (some (t321 == 1800))) else (none)) = some r := H
    have A16 := am_ A160
    clear A160
    by_cases c17 : t320 = 0
    rotate_left
    ·rw [if_neg c17] at H
     exact absurd H (by simp)
    rw [if_pos c17] at H
    have c17b0 : (t320 == 0) = true := beq_iff_eq.mpr c17
    have c17b1 : (t320 != 0) = false := e1_ c17
    clear c17
    replace H := e4_ H
    obtain ⟨t321, A180, H⟩ := H
    replace H : (some (t321 == 1800)) = some r := H
    have A18 := am_ A180
    clear A180
    obtain rfl := e5_ H
    go_enter Tryd.func24, Tryd.ntmps24
    go_wp2_with (first | ((with_reducible refine gate_callee (f := 26) rfl ?_); refine goesL_ (some 11) rfl rfl Tryd.func26 (by kernel_rfl) rfl #[] rfl (by (try simp only [List.map_toArray, List.map_cons, List.map_nil]); first | done | rfl | (simp only [List.length_drop, List.length_take]; rfl)) ?_; (with_reducible refine (pinfoldlaw18_given.calls  t276 t277 t278 t281 t284 t285 t286 _ A1.out).mono ?_); rintro e w19 ⟨v279, v282, v287, rfl, ho0, ho1, ho2, hb⟩; refine ⟨_, rfl, ?_⟩; have n0_ := am_ (Kd.R_lower ho0 (bz_ (by repeat (with_reducible first | exact HB.out | apply p3_ | apply p1_ | apply p2_)))); have n1_ := am_ (Kd.R_lower ho1 (bz_ (by repeat (with_reducible first | exact HB.out | apply p3_ | apply p1_ | apply p2_)))); have n2_ := am_ (Kd.R_lower ho2 (bz_ (by repeat (with_reducible first | exact HB.out | apply p3_ | apply p1_ | apply p2_)))); have n3_ := am_ (bt_ (by repeat (with_reducible first | exact HB.out | apply p3_ | apply p1_ | apply p2_)) hb); clear HB; have HO280 := n0_; have HO283 := n1_; have HO288 := n2_; have HB := n3_; clear n0_ n1_ n2_ n3_; (try clear hb); (try clear ho0); (try clear ho1); (try clear ho2)) | ((with_reducible refine gate_dst (N := 1) rfl ?_); (try (refine gate_guard (by rfl) ?_; dsimp only)); refine box_event ?hg (N := 1) ?hd (cs := #[.int .i64 0, .int .i64 0, .slice none 0 0, .slice none 0 0, .int .i64 0, .string (⟨#[]⟩ : ByteArray), .slice none 0 0]) (t := 26) ?hr ?_; (case hd => rfl); (case hg => rfl); (case hr => first | (go_simp; done) | (go_simp; rfl)); intro gb289 hg w20 hbox hb; have n0_ := am_ (Kd.R_below (by (with_reducible repeat (first | apply r1_ | apply r2_ | apply r3_)); exact HO280.out) hb); have n1_ := am_ (Kd.R_below (by (with_reducible repeat (first | apply r1_ | apply r2_ | apply r3_)); exact HO283.out) hb); have n2_ := am_ (Kd.R_below (by (with_reducible repeat (first | apply r1_ | apply r2_ | apply r3_)); exact HO288.out) hb); have n3_ := am_ (bt_ (by repeat (with_reducible first | exact HB.out | apply p3_ | apply p1_ | apply p2_)) hb); have n4_ := am_ (hbox); have n5_ := am_ ((by rw [hg]; exact (bz_ (by repeat (with_reducible first | exact HB.out | apply p3_ | apply p1_ | apply p2_))) : w.heap.size ≤ gb289)); have n6_ := am_ ((by rw [hg]; exact (bz_ (by repeat (with_reducible first | exact HB.out | apply p3_ | apply p1_ | apply p2_))) : w.heap.size ≤ gb289)); clear HO280; clear HO283; clear HO288; clear HB; have HO280 := n0_; have HO283 := n1_; have HO288 := n2_; have HB := n3_; have BK289 := n4_; have GW289 := n5_; have GE289 := n6_; clear n0_ n1_ n2_ n3_ n4_ n5_ n6_; clear hb hbox hg; have hcz21_0 : w20.cell? ⟨gb289, 0, none⟩ = some (.int .i64 0) := (bc_ BK289.out 0).trans rfl; have hcz21_1 : w20.cell? ⟨gb289, 1, none⟩ = some (.int .i64 0) := (bc_ BK289.out 1).trans rfl; have hcz21_2 : w20.cell? ⟨gb289, 2, none⟩ = some (.slice none 0 0) := (bc_ BK289.out 2).trans rfl; have hcz21_3 : w20.cell? ⟨gb289, 3, none⟩ = some (.slice none 0 0) := (bc_ BK289.out 3).trans rfl; have hcz21_4 : w20.cell? ⟨gb289, 4, none⟩ = some (.int .i64 0) := (bc_ BK289.out 4).trans rfl; have hcz21_5 : w20.cell? ⟨gb289, 5, none⟩ = some (.string (⟨#[]⟩ : ByteArray)) := (bc_ BK289.out 5).trans rfl; have hcz21_6 : w20.cell? ⟨gb289, 6, none⟩ = some (.slice none 0 0) := (bc_ BK289.out 6).trans rfl; have hfz21_0 := bf_ BK289.out 0; have hfz21_1 := bf_ BK289.out 1; have hfz21_2 := bf_ BK289.out 2; have hfz21_3 := bf_ BK289.out 3; have hfz21_4 := bf_ BK289.out 4; have hfz21_5 := bf_ BK289.out 5; have hfz21_6 := bf_ BK289.out 6; obtain ⟨Ao22, co22, eo22⟩ := Kd.R_slice HO280.out; subst eo22; obtain ⟨Ao23, co23, eo23⟩ := Kd.R_slice HO283.out; subst eo23; obtain ⟨Ao24, co24, eo24⟩ := Kd.R_slice HO288.out; subst eo24) | ((with_reducible refine gate_dst (N := 13) rfl ?_); (try (refine gate_guard (by rfl) ?_; dsimp only)); refine Kd.R_lit k42 _ 42 ?hg (N := 13) ?hd (xs := ([(⟨10, 2, (⟨#[109, 101]⟩ : ByteArray), 100, (⟨#[112, 99]⟩ : ByteArray), true⟩ : S42)] : List (S42))) (inner := [.int .i64 10, .int .i64 2, .string (⟨#[109, 101]⟩ : ByteArray), .int .i64 100, .string (⟨#[112, 99]⟩ : ByteArray), .bool true]) (ok := fun _ => True) (okp := fun _ => True) ?hr ?hp (fun _ hk => hk) trivial (Below.refl _ _) (Nat.le_refl _) (by simp) ?_; (case hd => rfl); (case hg => rfl); (case hr => first | (go_simp; done) | (go_simp; rfl)); (case hp => exact (Reps.c6 (show Kd.M k42 _ _ _ (⟨10, 2, (⟨#[109, 101]⟩ : ByteArray), 100, (⟨#[112, 99]⟩ : ByteArray), true⟩ : S42) [.int .i64 10, .int .i64 2, .string (⟨#[109, 101]⟩ : ByteArray), .int .i64 100, .string (⟨#[112, 99]⟩ : ByteArray), .bool true] from (k42_mkM _ _ _ (⟨10, 2, (⟨#[109, 101]⟩ : ByteArray), 100, (⟨#[112, 99]⟩ : ByteArray), true⟩ : S42) )) (Reps.none _ _))); intro v291 w25 ho26 hb hg_ hnew_; clear hg_ hnew_; (first | rw [← Ny290.out] at ho26 | (simp only [Int.reduceToNat] at ho26; rw [← Ny290.out] at ho26)); have n0_ := am_ (Kd.R_below (by (with_reducible repeat (first | apply r1_ | apply r2_ | apply r3_)); exact (Kd.R_mono (Kd.R_far (p := ⟨gb289, 6, none⟩) (Kd.R_far (p := ⟨gb289, 5, none⟩) (Kd.R_far (p := ⟨gb289, 4, none⟩) (Kd.R_far (p := ⟨gb289, 3, none⟩) (Kd.R_far (p := ⟨gb289, 2, none⟩) (Kd.R_far (p := ⟨gb289, 1, none⟩) (Kd.R_far (p := ⟨gb289, 0, none⟩) (Kd.R_types HO280.out BK289.out (by decide)) (fun _ hk => hk.2) (.int .i64 t276)) (fun _ hk => hk.2) (.int .i64 t277)) (fun _ hk => hk.2) (.slice Ao22 t278.length co22)) (fun _ hk => hk.2) (.slice Ao23 t281.length co23)) (fun _ hk => hk.2) (.int .i64 t284)) (fun _ hk => hk.2) (.string t285)) (fun _ hk => hk.2) (.slice Ao24 t286.length co24)) (fun _ h_ => h_.1))) hb); have n1_ := am_ (Kd.R_below (by (with_reducible repeat (first | apply r1_ | apply r2_ | apply r3_)); exact (Kd.R_mono (Kd.R_far (p := ⟨gb289, 6, none⟩) (Kd.R_far (p := ⟨gb289, 5, none⟩) (Kd.R_far (p := ⟨gb289, 4, none⟩) (Kd.R_far (p := ⟨gb289, 3, none⟩) (Kd.R_far (p := ⟨gb289, 2, none⟩) (Kd.R_far (p := ⟨gb289, 1, none⟩) (Kd.R_far (p := ⟨gb289, 0, none⟩) (Kd.R_types HO283.out BK289.out (by decide)) (fun _ hk => hk.2) (.int .i64 t276)) (fun _ hk => hk.2) (.int .i64 t277)) (fun _ hk => hk.2) (.slice Ao22 t278.length co22)) (fun _ hk => hk.2) (.slice Ao23 t281.length co23)) (fun _ hk => hk.2) (.int .i64 t284)) (fun _ hk => hk.2) (.string t285)) (fun _ hk => hk.2) (.slice Ao24 t286.length co24)) (fun _ h_ => h_.1))) hb); have n2_ := am_ (Kd.R_below (by (with_reducible repeat (first | apply r1_ | apply r2_ | apply r3_)); exact (Kd.R_mono (Kd.R_far (p := ⟨gb289, 6, none⟩) (Kd.R_far (p := ⟨gb289, 5, none⟩) (Kd.R_far (p := ⟨gb289, 4, none⟩) (Kd.R_far (p := ⟨gb289, 3, none⟩) (Kd.R_far (p := ⟨gb289, 2, none⟩) (Kd.R_far (p := ⟨gb289, 1, none⟩) (Kd.R_far (p := ⟨gb289, 0, none⟩) (Kd.R_types HO288.out BK289.out (by decide)) (fun _ hk => hk.2) (.int .i64 t276)) (fun _ hk => hk.2) (.int .i64 t277)) (fun _ hk => hk.2) (.slice Ao22 t278.length co22)) (fun _ hk => hk.2) (.slice Ao23 t281.length co23)) (fun _ hk => hk.2) (.int .i64 t284)) (fun _ hk => hk.2) (.string t285)) (fun _ hk => hk.2) (.slice Ao24 t286.length co24)) (fun _ h_ => h_.1))) hb); have n3_ := am_ (Kd.R_lower ho26 (bz_ (by repeat (with_reducible first | exact HB.out | apply p3_ | apply p1_ | apply p2_ | refine bs_ ?_ GE289.out)))); have n4_ := am_ (kb_ (g := gb289) (o := .cells #[.int .i64 t276, .int .i64 t277, .slice Ao22 t278.length co22, .slice Ao23 t281.length co23, .int .i64 t284, .string t285, .slice Ao24 t286.length co24] 26 (0, 0)) (by (with_reducible repeat (first | refine k2_ ?_ _ | refine k3_ ?_ | refine k1_ ?_ _)); refine blk_put (cs := #[.int .i64 t276, .int .i64 t277, .slice Ao22 t278.length co22, .slice Ao23 t281.length co23, .int .i64 t284, .string t285, .slice none 0 0]) ?_ 6 _ rfl; (with_reducible repeat (first | refine k2_ ?_ _ | refine k3_ ?_ | refine k1_ ?_ _)); refine blk_put (cs := #[.int .i64 t276, .int .i64 t277, .slice Ao22 t278.length co22, .slice Ao23 t281.length co23, .int .i64 t284, .string (⟨#[]⟩ : ByteArray), .slice none 0 0]) ?_ 5 _ rfl; (with_reducible repeat (first | refine k2_ ?_ _ | refine k3_ ?_ | refine k1_ ?_ _)); refine blk_put (cs := #[.int .i64 t276, .int .i64 t277, .slice Ao22 t278.length co22, .slice Ao23 t281.length co23, .int .i64 0, .string (⟨#[]⟩ : ByteArray), .slice none 0 0]) ?_ 4 _ rfl; (with_reducible repeat (first | refine k2_ ?_ _ | refine k3_ ?_ | refine k1_ ?_ _)); refine blk_put (cs := #[.int .i64 t276, .int .i64 t277, .slice Ao22 t278.length co22, .slice none 0 0, .int .i64 0, .string (⟨#[]⟩ : ByteArray), .slice none 0 0]) ?_ 3 _ rfl; (with_reducible repeat (first | refine k2_ ?_ _ | refine k3_ ?_ | refine k1_ ?_ _)); refine blk_put (cs := #[.int .i64 t276, .int .i64 t277, .slice none 0 0, .slice none 0 0, .int .i64 0, .string (⟨#[]⟩ : ByteArray), .slice none 0 0]) ?_ 2 _ rfl; (with_reducible repeat (first | refine k2_ ?_ _ | refine k3_ ?_ | refine k1_ ?_ _)); refine blk_put (cs := #[.int .i64 t276, .int .i64 0, .slice none 0 0, .slice none 0 0, .int .i64 0, .string (⟨#[]⟩ : ByteArray), .slice none 0 0]) ?_ 1 _ rfl; (with_reducible repeat (first | refine k2_ ?_ _ | refine k3_ ?_ | refine k1_ ?_ _)); refine blk_put (cs := #[.int .i64 0, .int .i64 0, .slice none 0 0, .slice none 0 0, .int .i64 0, .string (⟨#[]⟩ : ByteArray), .slice none 0 0]) ?_ 0 _ rfl; (with_reducible repeat (first | refine k2_ ?_ _ | refine k3_ ?_ | refine k1_ ?_ _)); exact BK289.out) hb); have n5_ := am_ (bt_ (by repeat (with_reducible first | exact HB.out | apply p3_ | apply p1_ | apply p2_ | refine bs_ ?_ GE289.out)) hb); clear HO280; clear HO283; clear HO288; clear BK289; clear HB; have HO280 := n0_; have HO283 := n1_; have HO288 := n2_; have HO292 := n3_; have BK289 := n4_; have HB := n5_; clear n0_ n1_ n2_ n3_ n4_ n5_; clear hb ho26; have hcz27_0 : w25.cell? ⟨gb289, 0, none⟩ = some (.int .i64 t276) := (bc_ BK289.out 0).trans rfl; have hcz27_1 : w25.cell? ⟨gb289, 1, none⟩ = some (.int .i64 t277) := (bc_ BK289.out 1).trans rfl; have hcz27_2 : w25.cell? ⟨gb289, 2, none⟩ = some (.slice Ao22 t278.length co22) := (bc_ BK289.out 2).trans rfl; have hcz27_3 : w25.cell? ⟨gb289, 3, none⟩ = some (.slice Ao23 t281.length co23) := (bc_ BK289.out 3).trans rfl; have hcz27_4 : w25.cell? ⟨gb289, 4, none⟩ = some (.int .i64 t284) := (bc_ BK289.out 4).trans rfl; have hcz27_5 : w25.cell? ⟨gb289, 5, none⟩ = some (.string t285) := (bc_ BK289.out 5).trans rfl; have hcz27_6 : w25.cell? ⟨gb289, 6, none⟩ = some (.slice Ao24 t286.length co24) := (bc_ BK289.out 6).trans rfl; have hfz27_0 := bf_ BK289.out 0; have hfz27_1 := bf_ BK289.out 1; have hfz27_2 := bf_ BK289.out 2; have hfz27_3 := bf_ BK289.out 3; have hfz27_4 := bf_ BK289.out 4; have hfz27_5 := bf_ BK289.out 5; have hfz27_6 := bf_ BK289.out 6; obtain ⟨Ao28, co28, eo28⟩ := Kd.R_slice HO292.out; subst eo28) | ((with_reducible refine gate_callee (f := 15) rfl ?_); refine goesL_ (some 17) rfl rfl Tryd.func15 (by kernel_rfl) rfl #[.agg #[.int .i64 t276, .int .i64 t277, .slice Ao22 t278.length co22, .slice Ao23 t281.length co23, .int .i64 t284, .string t285, .slice Ao24 t286.length co24], .slice Ao28 y290.length co28, .int .i64 5, .string (⟨#[109, 101]⟩ : ByteArray), .int .i64 10] rfl (by (try simp only [List.map_toArray, List.map_cons, List.map_nil]); first | done | rfl | (simp only [List.length_drop, List.length_take]; rfl)) ?_; (with_reducible refine (drop_Release.calls t276 t277 _ _ t278 _ _ t281 t284 t285 _ _ t286 _ _ y290 5 (⟨#[109, 101]⟩ : ByteArray) 10 t293 t296 _ ?side1 ?side2 ?side3 ?side4 ?side5 ?side6 ?side7 ?side8 A2.out).mono ?_); (case side1 => repeat (first | exact (Kd.R_reads' HO280.out).2.2 | (with_reducible refine c1_ ?_ _) | (with_reducible refine c2_ ?_ _) | (with_reducible refine c3_ ?_))); (case side2 => exact (Kd.R_reads' HO280.out).2.1); (case side3 => repeat (first | exact (Kd.R_reads' HO283.out).2.2 | (with_reducible refine c1_ ?_ _) | (with_reducible refine c2_ ?_ _) | (with_reducible refine c3_ ?_))); (case side4 => exact (Kd.R_reads' HO283.out).2.1); (case side5 => repeat (first | exact (Kd.R_reads' HO288.out).2.2 | (with_reducible refine c1_ ?_ _) | (with_reducible refine c2_ ?_ _) | (with_reducible refine c3_ ?_))); (case side6 => exact (Kd.R_reads' HO288.out).2.1); (case side7 => repeat (first | exact (Kd.R_reads' HO292.out).2.2 | (with_reducible refine c1_ ?_ _) | (with_reducible refine c2_ ?_ _) | (with_reducible refine c3_ ?_))); (case side8 => exact (Kd.R_reads' HO292.out).2.1); rintro e w29 ⟨v294, rfl, ho0, hb⟩; refine ⟨_, rfl, ?_⟩; have n0_ := am_ (Kd.R_below (by (with_reducible repeat (first | apply r1_ | apply r2_ | apply r3_)); exact HO280.out) hb); have n1_ := am_ (Kd.R_below (by (with_reducible repeat (first | apply r1_ | apply r2_ | apply r3_)); exact HO283.out) hb); have n2_ := am_ (Kd.R_below (by (with_reducible repeat (first | apply r1_ | apply r2_ | apply r3_)); exact HO288.out) hb); have n3_ := am_ (r5_ (by (with_reducible repeat (first | apply r1_ | apply r2_ | apply r3_)); exact HO292.out) (r4_ ho0) hb); have n4_ := am_ (Kd.R_lower (Kd.R_new' ho0 (Kd.R_lt (by (with_reducible repeat (first | apply r1_ | apply r2_ | apply r3_)); exact HO292.out))) (bz_ (by repeat (with_reducible first | exact HB.out | apply p3_ | apply p1_ | apply p2_ | refine bs_ ?_ GE289.out)))); have n5_ := am_ (kb_ (g := gb289) (o := .cells #[.int .i64 t276, .int .i64 t277, .slice Ao22 t278.length co22, .slice Ao23 t281.length co23, .int .i64 t284, .string t285, .slice Ao24 t286.length co24] 26 (0, 0)) (by (with_reducible repeat (first | refine k2_ ?_ _ | refine k3_ ?_ | refine k1_ ?_ _)); exact BK289.out) hb); have n6_ := am_ (bt_ (by repeat (with_reducible first | exact HB.out | apply p3_ | apply p1_ | apply p2_ | refine bs_ ?_ GE289.out)) hb); clear HO280; clear HO283; clear HO288; clear HO292; clear BK289; clear HB; have HO280 := n0_; have HO283 := n1_; have HO288 := n2_; have HO292 := n3_; have HO295 := n4_; have BK289 := n5_; have HB := n6_; clear n0_ n1_ n2_ n3_ n4_ n5_ n6_; (try clear hb); (try clear ho0); have hcz30_0 : w29.cell? ⟨gb289, 0, none⟩ = some (.int .i64 t276) := (bc_ BK289.out 0).trans rfl; have hcz30_1 : w29.cell? ⟨gb289, 1, none⟩ = some (.int .i64 t277) := (bc_ BK289.out 1).trans rfl; have hcz30_2 : w29.cell? ⟨gb289, 2, none⟩ = some (.slice Ao22 t278.length co22) := (bc_ BK289.out 2).trans rfl; have hcz30_3 : w29.cell? ⟨gb289, 3, none⟩ = some (.slice Ao23 t281.length co23) := (bc_ BK289.out 3).trans rfl; have hcz30_4 : w29.cell? ⟨gb289, 4, none⟩ = some (.int .i64 t284) := (bc_ BK289.out 4).trans rfl; have hcz30_5 : w29.cell? ⟨gb289, 5, none⟩ = some (.string t285) := (bc_ BK289.out 5).trans rfl; have hcz30_6 : w29.cell? ⟨gb289, 6, none⟩ = some (.slice Ao24 t286.length co24) := (bc_ BK289.out 6).trans rfl; have hfz30_0 := bf_ BK289.out 0; have hfz30_1 := bf_ BK289.out 1; have hfz30_2 := bf_ BK289.out 2; have hfz30_3 := bf_ BK289.out 3; have hfz30_4 := bf_ BK289.out 4; have hfz30_5 := bf_ BK289.out 5; have hfz30_6 := bf_ BK289.out 6) | ((with_reducible refine gate_callee (f := 17) rfl ?_); refine goesL_ (some 23) rfl rfl Tryd.func17 (by kernel_rfl) rfl #[.agg #[.int .i64 t276, .int .i64 t277, .slice Ao22 t278.length co22, .slice Ao23 t281.length co23, .int .i64 t284, .string t285, .slice Ao24 t286.length co24], .slice Ao28 y290.length co28, .int .i64 5, .string (⟨#[109, 101]⟩ : ByteArray), .int .i64 10] rfl (by (try simp only [List.map_toArray, List.map_cons, List.map_nil]); first | done | rfl | (simp only [List.length_drop, List.length_take]; rfl)) ?_; (with_reducible refine (drop_Decline.calls t276 t277 _ _ t278 _ _ t281 t284 t285 _ _ t286 _ _ y290 5 (⟨#[109, 101]⟩ : ByteArray) 10 t297 t300 _ ?side1 ?side2 ?side3 ?side4 ?side5 ?side6 ?side7 ?side8 A3.out).mono ?_); (case side1 => repeat (first | exact (Kd.R_reads' HO280.out).2.2 | (with_reducible refine c1_ ?_ _) | (with_reducible refine c2_ ?_ _) | (with_reducible refine c3_ ?_))); (case side2 => exact (Kd.R_reads' HO280.out).2.1); (case side3 => repeat (first | exact (Kd.R_reads' HO283.out).2.2 | (with_reducible refine c1_ ?_ _) | (with_reducible refine c2_ ?_ _) | (with_reducible refine c3_ ?_))); (case side4 => exact (Kd.R_reads' HO283.out).2.1); (case side5 => repeat (first | exact (Kd.R_reads' HO288.out).2.2 | (with_reducible refine c1_ ?_ _) | (with_reducible refine c2_ ?_ _) | (with_reducible refine c3_ ?_))); (case side6 => exact (Kd.R_reads' HO288.out).2.1); (case side7 => repeat (first | exact (Kd.R_reads' HO292.out).2.2 | (with_reducible refine c1_ ?_ _) | (with_reducible refine c2_ ?_ _) | (with_reducible refine c3_ ?_))); (case side8 => exact (Kd.R_reads' HO292.out).2.1); rintro e w31 ⟨v298, rfl, ho0, hb⟩; refine ⟨_, rfl, ?_⟩; have n0_ := am_ (Kd.R_below (by (with_reducible repeat (first | apply r1_ | apply r2_ | apply r3_)); exact HO280.out) hb); have n1_ := am_ (Kd.R_below (by (with_reducible repeat (first | apply r1_ | apply r2_ | apply r3_)); exact HO283.out) hb); have n2_ := am_ (Kd.R_below (by (with_reducible repeat (first | apply r1_ | apply r2_ | apply r3_)); exact HO288.out) hb); have n3_ := am_ (r5_ (by (with_reducible repeat (first | apply r1_ | apply r2_ | apply r3_)); exact HO292.out) (r4_ ho0) hb); have n4_ := am_ (r5_ (by (with_reducible repeat (first | apply r1_ | apply r2_ | apply r3_)); exact HO295.out) (r4_ ho0) hb); have n5_ := am_ (Kd.R_lower (Kd.R_new' (Kd.R_new' ho0 (Kd.R_lt (by (with_reducible repeat (first | apply r1_ | apply r2_ | apply r3_)); exact HO292.out))) (Kd.R_lt (by (with_reducible repeat (first | apply r1_ | apply r2_ | apply r3_)); exact HO295.out))) (bz_ (by repeat (with_reducible first | exact HB.out | apply p3_ | apply p1_ | apply p2_ | refine bs_ ?_ GE289.out)))); have n6_ := am_ (kb_ (g := gb289) (o := .cells #[.int .i64 t276, .int .i64 t277, .slice Ao22 t278.length co22, .slice Ao23 t281.length co23, .int .i64 t284, .string t285, .slice Ao24 t286.length co24] 26 (0, 0)) (by (with_reducible repeat (first | refine k2_ ?_ _ | refine k3_ ?_ | refine k1_ ?_ _)); exact BK289.out) hb); have n7_ := am_ (bt_ (by repeat (with_reducible first | exact HB.out | apply p3_ | apply p1_ | apply p2_ | refine bs_ ?_ GE289.out)) hb); clear HO280; clear HO283; clear HO288; clear HO292; clear HO295; clear BK289; clear HB; have HO280 := n0_; have HO283 := n1_; have HO288 := n2_; have HO292 := n3_; have HO295 := n4_; have HO299 := n5_; have BK289 := n6_; have HB := n7_; clear n0_ n1_ n2_ n3_ n4_ n5_ n6_ n7_; (try clear hb); (try clear ho0); have hcz32_0 : w31.cell? ⟨gb289, 0, none⟩ = some (.int .i64 t276) := (bc_ BK289.out 0).trans rfl; have hcz32_1 : w31.cell? ⟨gb289, 1, none⟩ = some (.int .i64 t277) := (bc_ BK289.out 1).trans rfl; have hcz32_2 : w31.cell? ⟨gb289, 2, none⟩ = some (.slice Ao22 t278.length co22) := (bc_ BK289.out 2).trans rfl; have hcz32_3 : w31.cell? ⟨gb289, 3, none⟩ = some (.slice Ao23 t281.length co23) := (bc_ BK289.out 3).trans rfl; have hcz32_4 : w31.cell? ⟨gb289, 4, none⟩ = some (.int .i64 t284) := (bc_ BK289.out 4).trans rfl; have hcz32_5 : w31.cell? ⟨gb289, 5, none⟩ = some (.string t285) := (bc_ BK289.out 5).trans rfl; have hcz32_6 : w31.cell? ⟨gb289, 6, none⟩ = some (.slice Ao24 t286.length co24) := (bc_ BK289.out 6).trans rfl; have hfz32_0 := bf_ BK289.out 0; have hfz32_1 := bf_ BK289.out 1; have hfz32_2 := bf_ BK289.out 2; have hfz32_3 := bf_ BK289.out 3; have hfz32_4 := bf_ BK289.out 4; have hfz32_5 := bf_ BK289.out 5; have hfz32_6 := bf_ BK289.out 6) | ((with_reducible refine gate_callee (f := 15) rfl ?_); refine goesL_ (some 29) rfl rfl Tryd.func15 (by kernel_rfl) rfl #[.agg #[.int .i64 t276, .int .i64 t277, .slice Ao22 t278.length co22, .slice Ao23 t281.length co23, .int .i64 t284, .string t285, .slice Ao24 t286.length co24], .slice Ao28 y290.length co28, .int .i64 5, .string (⟨#[121, 111, 117]⟩ : ByteArray), .int .i64 10] rfl (by (try simp only [List.map_toArray, List.map_cons, List.map_nil]); first | done | rfl | (simp only [List.length_drop, List.length_take]; rfl)) ?_; (with_reducible refine (drop_Release.calls t276 t277 _ _ t278 _ _ t281 t284 t285 _ _ t286 _ _ y290 5 (⟨#[121, 111, 117]⟩ : ByteArray) 10 t301 t304 _ ?side1 ?side2 ?side3 ?side4 ?side5 ?side6 ?side7 ?side8 A4.out).mono ?_); (case side1 => repeat (first | exact (Kd.R_reads' HO280.out).2.2 | (with_reducible refine c1_ ?_ _) | (with_reducible refine c2_ ?_ _) | (with_reducible refine c3_ ?_))); (case side2 => exact (Kd.R_reads' HO280.out).2.1); (case side3 => repeat (first | exact (Kd.R_reads' HO283.out).2.2 | (with_reducible refine c1_ ?_ _) | (with_reducible refine c2_ ?_ _) | (with_reducible refine c3_ ?_))); (case side4 => exact (Kd.R_reads' HO283.out).2.1); (case side5 => repeat (first | exact (Kd.R_reads' HO288.out).2.2 | (with_reducible refine c1_ ?_ _) | (with_reducible refine c2_ ?_ _) | (with_reducible refine c3_ ?_))); (case side6 => exact (Kd.R_reads' HO288.out).2.1); (case side7 => repeat (first | exact (Kd.R_reads' HO292.out).2.2 | (with_reducible refine c1_ ?_ _) | (with_reducible refine c2_ ?_ _) | (with_reducible refine c3_ ?_))); (case side8 => exact (Kd.R_reads' HO292.out).2.1); rintro e w33 ⟨v302, rfl, ho0, hb⟩; refine ⟨_, rfl, ?_⟩; have n0_ := am_ (Kd.R_below (by (with_reducible repeat (first | apply r1_ | apply r2_ | apply r3_)); exact HO280.out) hb); have n1_ := am_ (Kd.R_below (by (with_reducible repeat (first | apply r1_ | apply r2_ | apply r3_)); exact HO283.out) hb); have n2_ := am_ (Kd.R_below (by (with_reducible repeat (first | apply r1_ | apply r2_ | apply r3_)); exact HO288.out) hb); have n3_ := am_ (r5_ (by (with_reducible repeat (first | apply r1_ | apply r2_ | apply r3_)); exact HO292.out) (r4_ ho0) hb); have n4_ := am_ (r5_ (by (with_reducible repeat (first | apply r1_ | apply r2_ | apply r3_)); exact HO295.out) (r4_ ho0) hb); have n5_ := am_ (r5_ (by (with_reducible repeat (first | apply r1_ | apply r2_ | apply r3_)); exact HO299.out) (r4_ ho0) hb); have n6_ := am_ (Kd.R_lower (Kd.R_new' (Kd.R_new' (Kd.R_new' ho0 (Kd.R_lt (by (with_reducible repeat (first | apply r1_ | apply r2_ | apply r3_)); exact HO292.out))) (Kd.R_lt (by (with_reducible repeat (first | apply r1_ | apply r2_ | apply r3_)); exact HO295.out))) (Kd.R_lt (by (with_reducible repeat (first | apply r1_ | apply r2_ | apply r3_)); exact HO299.out))) (bz_ (by repeat (with_reducible first | exact HB.out | apply p3_ | apply p1_ | apply p2_ | refine bs_ ?_ GE289.out)))); have n7_ := am_ (kb_ (g := gb289) (o := .cells #[.int .i64 t276, .int .i64 t277, .slice Ao22 t278.length co22, .slice Ao23 t281.length co23, .int .i64 t284, .string t285, .slice Ao24 t286.length co24] 26 (0, 0)) (by (with_reducible repeat (first | refine k2_ ?_ _ | refine k3_ ?_ | refine k1_ ?_ _)); exact BK289.out) hb); have n8_ := am_ (bt_ (by repeat (with_reducible first | exact HB.out | apply p3_ | apply p1_ | apply p2_ | refine bs_ ?_ GE289.out)) hb); clear HO280; clear HO283; clear HO288; clear HO292; clear HO295; clear HO299; clear BK289; clear HB; have HO280 := n0_; have HO283 := n1_; have HO288 := n2_; have HO292 := n3_; have HO295 := n4_; have HO299 := n5_; have HO303 := n6_; have BK289 := n7_; have HB := n8_; clear n0_ n1_ n2_ n3_ n4_ n5_ n6_ n7_ n8_; (try clear hb); (try clear ho0); have hcz34_0 : w33.cell? ⟨gb289, 0, none⟩ = some (.int .i64 t276) := (bc_ BK289.out 0).trans rfl; have hcz34_1 : w33.cell? ⟨gb289, 1, none⟩ = some (.int .i64 t277) := (bc_ BK289.out 1).trans rfl; have hcz34_2 : w33.cell? ⟨gb289, 2, none⟩ = some (.slice Ao22 t278.length co22) := (bc_ BK289.out 2).trans rfl; have hcz34_3 : w33.cell? ⟨gb289, 3, none⟩ = some (.slice Ao23 t281.length co23) := (bc_ BK289.out 3).trans rfl; have hcz34_4 : w33.cell? ⟨gb289, 4, none⟩ = some (.int .i64 t284) := (bc_ BK289.out 4).trans rfl; have hcz34_5 : w33.cell? ⟨gb289, 5, none⟩ = some (.string t285) := (bc_ BK289.out 5).trans rfl; have hcz34_6 : w33.cell? ⟨gb289, 6, none⟩ = some (.slice Ao24 t286.length co24) := (bc_ BK289.out 6).trans rfl; have hfz34_0 := bf_ BK289.out 0; have hfz34_1 := bf_ BK289.out 1; have hfz34_2 := bf_ BK289.out 2; have hfz34_3 := bf_ BK289.out 3; have hfz34_4 := bf_ BK289.out 4; have hfz34_5 := bf_ BK289.out 5; have hfz34_6 := bf_ BK289.out 6) | ((with_reducible refine gate_callee (f := 17) rfl ?_); refine goesL_ (some 35) rfl rfl Tryd.func17 (by kernel_rfl) rfl #[.agg #[.int .i64 t276, .int .i64 t277, .slice Ao22 t278.length co22, .slice Ao23 t281.length co23, .int .i64 t284, .string t285, .slice Ao24 t286.length co24], .slice Ao28 y290.length co28, .int .i64 (-1), .string (⟨#[109, 101]⟩ : ByteArray), .int .i64 10] rfl (by (try simp only [List.map_toArray, List.map_cons, List.map_nil]); first | done | rfl | (simp only [List.length_drop, List.length_take]; rfl)) ?_; (with_reducible refine (drop_Decline.calls t276 t277 _ _ t278 _ _ t281 t284 t285 _ _ t286 _ _ y290 (-1) (⟨#[109, 101]⟩ : ByteArray) 10 t305 t308 _ ?side1 ?side2 ?side3 ?side4 ?side5 ?side6 ?side7 ?side8 A5.out).mono ?_); (case side1 => repeat (first | exact (Kd.R_reads' HO280.out).2.2 | (with_reducible refine c1_ ?_ _) | (with_reducible refine c2_ ?_ _) | (with_reducible refine c3_ ?_))); (case side2 => exact (Kd.R_reads' HO280.out).2.1); (case side3 => repeat (first | exact (Kd.R_reads' HO283.out).2.2 | (with_reducible refine c1_ ?_ _) | (with_reducible refine c2_ ?_ _) | (with_reducible refine c3_ ?_))); (case side4 => exact (Kd.R_reads' HO283.out).2.1); (case side5 => repeat (first | exact (Kd.R_reads' HO288.out).2.2 | (with_reducible refine c1_ ?_ _) | (with_reducible refine c2_ ?_ _) | (with_reducible refine c3_ ?_))); (case side6 => exact (Kd.R_reads' HO288.out).2.1); (case side7 => repeat (first | exact (Kd.R_reads' HO292.out).2.2 | (with_reducible refine c1_ ?_ _) | (with_reducible refine c2_ ?_ _) | (with_reducible refine c3_ ?_))); (case side8 => exact (Kd.R_reads' HO292.out).2.1); rintro e w35 ⟨v306, rfl, ho0, hb⟩; refine ⟨_, rfl, ?_⟩; have n0_ := am_ (Kd.R_below (by (with_reducible repeat (first | apply r1_ | apply r2_ | apply r3_)); exact HO280.out) hb); have n1_ := am_ (Kd.R_below (by (with_reducible repeat (first | apply r1_ | apply r2_ | apply r3_)); exact HO283.out) hb); have n2_ := am_ (Kd.R_below (by (with_reducible repeat (first | apply r1_ | apply r2_ | apply r3_)); exact HO288.out) hb); have n3_ := am_ (r5_ (by (with_reducible repeat (first | apply r1_ | apply r2_ | apply r3_)); exact HO292.out) (r4_ ho0) hb); have n4_ := am_ (r5_ (by (with_reducible repeat (first | apply r1_ | apply r2_ | apply r3_)); exact HO295.out) (r4_ ho0) hb); have n5_ := am_ (r5_ (by (with_reducible repeat (first | apply r1_ | apply r2_ | apply r3_)); exact HO299.out) (r4_ ho0) hb); have n6_ := am_ (r5_ (by (with_reducible repeat (first | apply r1_ | apply r2_ | apply r3_)); exact HO303.out) (r4_ ho0) hb); have n7_ := am_ (Kd.R_lower (Kd.R_new' (Kd.R_new' (Kd.R_new' (Kd.R_new' ho0 (Kd.R_lt (by (with_reducible repeat (first | apply r1_ | apply r2_ | apply r3_)); exact HO292.out))) (Kd.R_lt (by (with_reducible repeat (first | apply r1_ | apply r2_ | apply r3_)); exact HO295.out))) (Kd.R_lt (by (with_reducible repeat (first | apply r1_ | apply r2_ | apply r3_)); exact HO299.out))) (Kd.R_lt (by (with_reducible repeat (first | apply r1_ | apply r2_ | apply r3_)); exact HO303.out))) (bz_ (by repeat (with_reducible first | exact HB.out | apply p3_ | apply p1_ | apply p2_ | refine bs_ ?_ GE289.out)))); have n8_ := am_ (kb_ (g := gb289) (o := .cells #[.int .i64 t276, .int .i64 t277, .slice Ao22 t278.length co22, .slice Ao23 t281.length co23, .int .i64 t284, .string t285, .slice Ao24 t286.length co24] 26 (0, 0)) (by (with_reducible repeat (first | refine k2_ ?_ _ | refine k3_ ?_ | refine k1_ ?_ _)); exact BK289.out) hb); have n9_ := am_ (bt_ (by repeat (with_reducible first | exact HB.out | apply p3_ | apply p1_ | apply p2_ | refine bs_ ?_ GE289.out)) hb); clear HO280; clear HO283; clear HO288; clear HO292; clear HO295; clear HO299; clear HO303; clear BK289; clear HB; have HO280 := n0_; have HO283 := n1_; have HO288 := n2_; have HO292 := n3_; have HO295 := n4_; have HO299 := n5_; have HO303 := n6_; have HO307 := n7_; have BK289 := n8_; have HB := n9_; clear n0_ n1_ n2_ n3_ n4_ n5_ n6_ n7_ n8_ n9_; (try clear hb); (try clear ho0)) | ((with_reducible refine gate_dst (N := 40) rfl ?_); (try (refine gate_guard (by rfl) ?_; dsimp only)); refine Kd.R_lit k42 _ 42 ?hg (N := 40) ?hd (xs := ([(⟨10, 0, (⟨#[109, 101]⟩ : ByteArray), 5, (⟨#[]⟩ : ByteArray), false⟩ : S42)] : List (S42))) (inner := [.int .i64 10, .int .i64 0, .string (⟨#[109, 101]⟩ : ByteArray), .int .i64 5, .string (⟨#[]⟩ : ByteArray), .bool false]) (ok := fun _ => True) (okp := fun _ => True) ?hr ?hp (fun _ hk => hk) trivial (Below.refl _ _) (Nat.le_refl _) (by simp) ?_; (case hd => rfl); (case hg => rfl); (case hr => first | (go_simp; done) | (go_simp; rfl)); (case hp => exact (Reps.c6 (show Kd.M k42 _ _ _ (⟨10, 0, (⟨#[109, 101]⟩ : ByteArray), 5, (⟨#[]⟩ : ByteArray), false⟩ : S42) [.int .i64 10, .int .i64 0, .string (⟨#[109, 101]⟩ : ByteArray), .int .i64 5, .string (⟨#[]⟩ : ByteArray), .bool false] from (k42_mkM _ _ _ (⟨10, 0, (⟨#[109, 101]⟩ : ByteArray), 5, (⟨#[]⟩ : ByteArray), false⟩ : S42) )) (Reps.none _ _))); intro v310 w36 ho37 hb hg_ hnew_; clear hg_ hnew_; (first | rw [← Ny309.out] at ho37 | (simp only [Int.reduceToNat] at ho37; rw [← Ny309.out] at ho37)); have n0_ := am_ (Kd.R_below (by (with_reducible repeat (first | apply r1_ | apply r2_ | apply r3_)); exact HO280.out) hb); have n1_ := am_ (Kd.R_below (by (with_reducible repeat (first | apply r1_ | apply r2_ | apply r3_)); exact HO283.out) hb); have n2_ := am_ (Kd.R_below (by (with_reducible repeat (first | apply r1_ | apply r2_ | apply r3_)); exact HO288.out) hb); have n3_ := am_ (r5_ (by (with_reducible repeat (first | apply r1_ | apply r2_ | apply r3_)); exact HO292.out) (r4_ ho37) hb); have n4_ := am_ (r5_ (by (with_reducible repeat (first | apply r1_ | apply r2_ | apply r3_)); exact HO295.out) (r4_ ho37) hb); have n5_ := am_ (r5_ (by (with_reducible repeat (first | apply r1_ | apply r2_ | apply r3_)); exact HO299.out) (r4_ ho37) hb); have n6_ := am_ (r5_ (by (with_reducible repeat (first | apply r1_ | apply r2_ | apply r3_)); exact HO303.out) (r4_ ho37) hb); have n7_ := am_ (r5_ (by (with_reducible repeat (first | apply r1_ | apply r2_ | apply r3_)); exact HO307.out) (r4_ ho37) hb); have n8_ := am_ (Kd.R_lower (Kd.R_new' (Kd.R_new' (Kd.R_new' (Kd.R_new' (Kd.R_new' ho37 (Kd.R_lt (by (with_reducible repeat (first | apply r1_ | apply r2_ | apply r3_)); exact HO292.out))) (Kd.R_lt (by (with_reducible repeat (first | apply r1_ | apply r2_ | apply r3_)); exact HO295.out))) (Kd.R_lt (by (with_reducible repeat (first | apply r1_ | apply r2_ | apply r3_)); exact HO299.out))) (Kd.R_lt (by (with_reducible repeat (first | apply r1_ | apply r2_ | apply r3_)); exact HO303.out))) (Kd.R_lt (by (with_reducible repeat (first | apply r1_ | apply r2_ | apply r3_)); exact HO307.out))) (bz_ (by repeat (with_reducible first | exact HB.out | apply p3_ | apply p1_ | apply p2_ | refine bs_ ?_ GE289.out)))); have n9_ := am_ (kb_ (g := gb289) (o := .cells #[.int .i64 t276, .int .i64 t277, .slice Ao22 t278.length co22, .slice Ao23 t281.length co23, .int .i64 t284, .string t285, .slice Ao24 t286.length co24] 26 (0, 0)) (by (with_reducible repeat (first | refine k2_ ?_ _ | refine k3_ ?_ | refine k1_ ?_ _)); exact BK289.out) hb); have n10_ := am_ (bt_ (by repeat (with_reducible first | exact HB.out | apply p3_ | apply p1_ | apply p2_ | refine bs_ ?_ GE289.out)) hb); clear HO280; clear HO283; clear HO288; clear HO292; clear HO295; clear HO299; clear HO303; clear HO307; clear BK289; clear HB; have HO280 := n0_; have HO283 := n1_; have HO288 := n2_; have HO292 := n3_; have HO295 := n4_; have HO299 := n5_; have HO303 := n6_; have HO307 := n7_; have HO311 := n8_; have BK289 := n9_; have HB := n10_; clear n0_ n1_ n2_ n3_ n4_ n5_ n6_ n7_ n8_ n9_ n10_; clear hb ho37; obtain ⟨Ao38, co38, eo38⟩ := Kd.R_slice HO295.out; subst eo38; obtain ⟨Ao39, co39, eo39⟩ := Kd.R_slice HO311.out; subst eo39) | ((with_reducible refine gate_callee (f := 19) rfl ?_); refine goesL_ (some 41) rfl rfl Tryd.func19 (by kernel_rfl) rfl #[.slice Ao38 t293.length co38, .slice Ao39 y309.length co39] rfl (by (try simp only [List.map_toArray, List.map_cons, List.map_nil]); first | done | rfl | (simp only [List.length_drop, List.length_take]; rfl)) ?_; (with_reducible refine (pinfoldlaw0_SameLeases.calls k _ _ t293 _ _ y309 true _ ?side1 ?side2 ?side3 ?side4 A6.out).mono ?_); (case side1 => repeat (first | exact (Kd.R_reads' HO295.out).2.2 | (with_reducible refine c1_ ?_ _) | (with_reducible refine c2_ ?_ _) | (with_reducible refine c3_ ?_))); (case side2 => exact (Kd.R_reads' HO295.out).2.1); (case side3 => repeat (first | exact (Kd.R_reads' HO311.out).2.2 | (with_reducible refine c1_ ?_ _) | (with_reducible refine c2_ ?_ _) | (with_reducible refine c3_ ?_))); (case side4 => exact (Kd.R_reads' HO311.out).2.1); rintro e w' ⟨rfl, ⟨nd, rfl⟩⟩; refine ⟨_, rfl, ?_⟩) | (go_at_call 20; (with_reducible refine (pinfoldlaw0_Num.calls t296 t313 _ A8.out).mono ?_); rintro e w' ⟨rfl, ⟨nd, rfl⟩⟩) | ((with_reducible refine gate_dst (N := 50) rfl ?_); (try (refine gate_guard (by rfl) ?_; dsimp only)); refine Kd.R_lit k42 _ 42 ?hg (N := 50) ?hd (xs := ([(⟨10, 3, (⟨#[]⟩ : ByteArray), 69, (⟨#[]⟩ : ByteArray), false⟩ : S42)] : List (S42))) (inner := [.int .i64 10, .int .i64 3, .string (⟨#[]⟩ : ByteArray), .int .i64 69, .string (⟨#[]⟩ : ByteArray), .bool false]) (ok := fun _ => True) (okp := fun _ => True) ?hr ?hp (fun _ hk => hk) trivial (Below.refl _ _) (Nat.le_refl _) (by simp) ?_; (case hd => rfl); (case hg => rfl); (case hr => first | (go_simp; done) | (go_simp; rfl)); (case hp => exact (Reps.c6 (show Kd.M k42 _ _ _ (⟨10, 3, (⟨#[]⟩ : ByteArray), 69, (⟨#[]⟩ : ByteArray), false⟩ : S42) [.int .i64 10, .int .i64 3, .string (⟨#[]⟩ : ByteArray), .int .i64 69, .string (⟨#[]⟩ : ByteArray), .bool false] from (k42_mkM _ _ _ (⟨10, 3, (⟨#[]⟩ : ByteArray), 69, (⟨#[]⟩ : ByteArray), false⟩ : S42) )) (Reps.none _ _))); intro v315 w40 ho41 hb hg_ hnew_; clear hg_ hnew_; (first | rw [← Ny314.out] at ho41 | (simp only [Int.reduceToNat] at ho41; rw [← Ny314.out] at ho41)); have n0_ := am_ (Kd.R_below (by (with_reducible repeat (first | apply r1_ | apply r2_ | apply r3_)); exact HO280.out) hb); have n1_ := am_ (Kd.R_below (by (with_reducible repeat (first | apply r1_ | apply r2_ | apply r3_)); exact HO283.out) hb); have n2_ := am_ (Kd.R_below (by (with_reducible repeat (first | apply r1_ | apply r2_ | apply r3_)); exact HO288.out) hb); have n3_ := am_ (r5_ (by (with_reducible repeat (first | apply r1_ | apply r2_ | apply r3_)); exact HO292.out) (r4_ ho41) hb); have n4_ := am_ (r5_ (by (with_reducible repeat (first | apply r1_ | apply r2_ | apply r3_)); exact HO295.out) (r4_ ho41) hb); have n5_ := am_ (r5_ (by (with_reducible repeat (first | apply r1_ | apply r2_ | apply r3_)); exact HO299.out) (r4_ ho41) hb); have n6_ := am_ (r5_ (by (with_reducible repeat (first | apply r1_ | apply r2_ | apply r3_)); exact HO303.out) (r4_ ho41) hb); have n7_ := am_ (r5_ (by (with_reducible repeat (first | apply r1_ | apply r2_ | apply r3_)); exact HO307.out) (r4_ ho41) hb); have n8_ := am_ (r5_ (by (with_reducible repeat (first | apply r1_ | apply r2_ | apply r3_)); exact HO311.out) (r4_ ho41) hb); have n9_ := am_ (Kd.R_lower (Kd.R_new' (Kd.R_new' (Kd.R_new' (Kd.R_new' (Kd.R_new' (Kd.R_new' ho41 (Kd.R_lt (by (with_reducible repeat (first | apply r1_ | apply r2_ | apply r3_)); exact HO292.out))) (Kd.R_lt (by (with_reducible repeat (first | apply r1_ | apply r2_ | apply r3_)); exact HO295.out))) (Kd.R_lt (by (with_reducible repeat (first | apply r1_ | apply r2_ | apply r3_)); exact HO299.out))) (Kd.R_lt (by (with_reducible repeat (first | apply r1_ | apply r2_ | apply r3_)); exact HO303.out))) (Kd.R_lt (by (with_reducible repeat (first | apply r1_ | apply r2_ | apply r3_)); exact HO307.out))) (Kd.R_lt (by (with_reducible repeat (first | apply r1_ | apply r2_ | apply r3_)); exact HO311.out))) (bz_ (by repeat (with_reducible first | exact HB.out | apply p3_ | apply p1_ | apply p2_ | refine bs_ ?_ GE289.out)))); have n10_ := am_ (kb_ (g := gb289) (o := .cells #[.int .i64 t276, .int .i64 t277, .slice Ao22 t278.length co22, .slice Ao23 t281.length co23, .int .i64 t284, .string t285, .slice Ao24 t286.length co24] 26 (0, 0)) (by (with_reducible repeat (first | refine k2_ ?_ _ | refine k3_ ?_ | refine k1_ ?_ _)); exact BK289.out) hb); have n11_ := am_ (bt_ (by repeat (with_reducible first | exact HB.out | apply p3_ | apply p1_ | apply p2_ | refine bs_ ?_ GE289.out)) hb); clear HO280; clear HO283; clear HO288; clear HO292; clear HO295; clear HO299; clear HO303; clear HO307; clear HO311; clear BK289; clear HB; have HO280 := n0_; have HO283 := n1_; have HO288 := n2_; have HO292 := n3_; have HO295 := n4_; have HO299 := n5_; have HO303 := n6_; have HO307 := n7_; have HO311 := n8_; have HO316 := n9_; have BK289 := n10_; have HB := n11_; clear n0_ n1_ n2_ n3_ n4_ n5_ n6_ n7_ n8_ n9_ n10_ n11_; clear hb ho41; obtain ⟨Ao42, co42, eo42⟩ := Kd.R_slice HO299.out; subst eo42; obtain ⟨Ao43, co43, eo43⟩ := Kd.R_slice HO316.out; subst eo43) | (go_at_call 19; (with_reducible refine (pinfoldlaw0_SameLeases.calls k _ _ t297 _ _ y314 true _ ?side1 ?side2 ?side3 ?side4 A10.out).mono ?_); (case side1 => repeat (first | exact (Kd.R_reads' HO299.out).2.2 | (with_reducible refine c1_ ?_ _) | (with_reducible refine c2_ ?_ _) | (with_reducible refine c3_ ?_))); (case side2 => exact (Kd.R_reads' HO299.out).2.1); (case side3 => repeat (first | exact (Kd.R_reads' HO316.out).2.2 | (with_reducible refine c1_ ?_ _) | (with_reducible refine c2_ ?_ _) | (with_reducible refine c3_ ?_))); (case side4 => exact (Kd.R_reads' HO316.out).2.1); rintro e w' ⟨rfl, ⟨nd, rfl⟩⟩) | (go_at_call 20; (with_reducible refine (pinfoldlaw0_Num.calls t300 t318 _ A12.out).mono ?_); rintro e w' ⟨rfl, ⟨nd, rfl⟩⟩; obtain ⟨Ao44, co44, eo44⟩ := Kd.R_slice HO303.out; subst eo44) | (go_at_call 19; (with_reducible refine (pinfoldlaw0_SameLeases.calls k _ _ t301 _ _ y290 true _ ?side1 ?side2 ?side3 ?side4 A14.out).mono ?_); (case side1 => repeat (first | exact (Kd.R_reads' HO303.out).2.2 | (with_reducible refine c1_ ?_ _) | (with_reducible refine c2_ ?_ _) | (with_reducible refine c3_ ?_))); (case side2 => exact (Kd.R_reads' HO303.out).2.1); (case side3 => repeat (first | exact (Kd.R_reads' HO292.out).2.2 | (with_reducible refine c1_ ?_ _) | (with_reducible refine c2_ ?_ _) | (with_reducible refine c3_ ?_))); (case side4 => exact (Kd.R_reads' HO292.out).2.1); rintro e w' ⟨rfl, ⟨nd, rfl⟩⟩) | (go_at_call 20; (with_reducible refine (pinfoldlaw0_Num.calls t304 t320 _ A16.out).mono ?_); rintro e w' ⟨rfl, ⟨nd, rfl⟩⟩) | (go_at_call 20; (with_reducible refine (pinfoldlaw0_Num.calls t308 t321 _ A18.out).mono ?_); rintro e w' ⟨rfl, ⟨nd, rfl⟩⟩))
    go_ret
    exact ⟨by first | rfl | (simp [errW_none, errW_some] <;> rfl) | (simp [*, errW_none, errW_some] <;> rfl), by repeat (with_reducible first | exact HB.out | apply p3_ | apply p1_ | apply p2_ | refine bs_ ?_ GE289.out)⟩
   replace c15 := e3_ c15
   subst c15
   have H1 : (none) = some r := by rw [if_neg (show ¬ (false = true) by decide)] at H; exact H
   clear H
   have H := H1
   clear H1
   exact absurd H (by simp)
  replace c11 := e3_ c11
  subst c11
  have H1 : (none) = some r := by rw [if_neg (show ¬ (false = true) by decide)] at H; exact H
  clear H
  have H := H1
  clear H1
  exact absurd H (by simp)
 replace c7 := e3_ c7
 subst c7
 have H1 : (none) = some r := by rw [if_neg (show ¬ (false = true) by decide)] at H; exact H
 clear H
 have H := H1
 clear H1
 exact absurd H (by simp)

end Go.Proofs.YtmoobaehoccihaaDoor.PF
