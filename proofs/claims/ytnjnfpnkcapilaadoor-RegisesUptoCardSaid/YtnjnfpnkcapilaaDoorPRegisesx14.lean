-- Made by wip/pr.py out of the translation (a turned copy of the kit's print; contracts by hand where said).
import Derived.Test.YtnjnfpnkcapilaaDoorPRegisesx0
import Derived.Test.YtnjnfpnkcapilaaDoorPRegisesx3
import Derived.Test.YtnjnfpnkcapilaaDoorPRegisesx4
import Derived.Test.YtnjnfpnkcapilaaDoorPRegisesx5
import Derived.Test.YtnjnfpnkcapilaaDoorPRegisesx7
import Derived.Test.YtnjnfpnkcapilaaDoorPRegisesx9
import Derived.Test.YtnjnfpnkcapilaaDoorPRegisesx10
import Derived.Test.YtnjnfpnkcapilaaDoorPRegisesx11
import Derived.Test.YtnjnfpnkcapilaaDoorPRegisesx12
import Derived.Test.YtnjnfpnkcapilaaDoorPRegisesx13
namespace Go.Proofs.YtnjnfpnkcapilaaDoor.PRegises
open Go.RowKit Go.Proofs.YtnjnfpnkcapilaaDoorW.PrintWords Go.Proofs.YtnjnfpnkcapilaaDoorW.PrintLast Go.Proofs.YtnjnfpnkcapilaaDoorW.PrintMore
-- shrunk
attribute [local go_sem] max2_int min2_int max_two min_two max_three min_three max_four min_four   -- for this text's walks alone
set_option linter.unusedVariables false
set_option linter.unusedSimpArgs false

attribute [local go_sem high] eqA62
/-! ### pinfoldref11_TableMay_c: function 56 -/
def liveX (now : Int) (x : S62) : Bool := liveB x.f0 x.f1 x.f2 x.f3 x.f4 x.f5 now
def holdsX (c : ByteArray) (now : Int) (x : S62) : Bool := holdsB x.f0 x.f1 x.f2 x.f3 x.f4 x.f5 c now
def boundX (c : ByteArray) (now : Int) (x : S62) : Bool := boundB x.f0 x.f1 x.f2 x.f3 x.f4 x.f5 c now
/-- a host's lease. -/
def findL (l : List S62) (h : Int) : Option S62 := l.find? fun x => x.f0 == h
/-- what is told where none is. -/
def gotL (o : Option S62) : S62 := o.getD z62
def tabFitR (l : List S62) : Prop := l.length ≤ 140737488351232 ∧ ∀ x ∈ l, x.f4.size ≤ 8796093022000
instance (l : List S62) : Decidable (tabFitR l) := by unfold tabFitR; infer_instance
theorem wrap_succ (i n : Nat) (h : i < n) (hn : n ≤ 140737488351232) : wrap64 ((i : Int) + 1) = ((i + 1 : Nat) : Int) := by
 rw [w64 (by omega)]
 omega
theorem rdLease_get (l : List S62) (i : Nat) (h : i < l.length) : rd_T62 l (i : Int) = l[i] := by
 unfold rd_T62
 rw [Int.toNat_natCast, List.getD_eq_getElem?_getD, List.getElem?_eq_getElem h]
 rfl
def hostAhead (l : List S62) (i : Nat) : Option Int := if i = 0 then none else some (rd_T62 l ((i - 1 : Nat) : Int)).f0
theorem reftable_l0 (l : List S62) (hl : l.length ≤ 140737488351232) (hx : ∀ x ∈ l, x.f4.size ≤ 8796093022000) : ∀ (d k i : Nat), i + d = l.length → d + 2 ≤ k →
  pinfoldref11_TableMay.l0 k l (i : Int) = some (goTab (hostAhead l i) (l.drop i) && decide (l.length ≤ 8))
 | 0, k, i, hi, hk => by
  obtain ⟨k, rfl⟩ : ∃ j, k = j + 1 := ⟨k - 1, by omega⟩
  rw [List.drop_eq_nil_of_le (by omega), pinfoldref11_TableMay.l0, if_neg (by omega)]
  unfold goTab
  rw [Bool.true_and, Option.some.injEq, decide_eq_decide]
  omega
 | d + 1, k, i, hi, hk => by
  obtain ⟨k, rfl⟩ : ∃ j, k = j + 1 := ⟨k - 1, by omega⟩
  have hlt : i < l.length := by omega
  have ih := reftable_l0 l hl hx d k (i + 1) (by omega) (by omega)
  rw [pinfoldref11_TableMay.l0, if_pos (by omega), if_pos (by omega), wrap_succ i l.length hlt hl, ih, show pinfoldref11_LeaseMay_c.f (rd_T62 l (i : Int)).f0 (rd_T62 l (i : Int)).f1 (rd_T62 l (i : Int)).f2 (rd_T62 l (i : Int)).f3 (rd_T62 l (i : Int)).f4 (rd_T62 l (i : Int)).f5 = some (leaseB (rd_T62 l (i : Int)).f0 (rd_T62 l (i : Int)).f1 (rd_T62 l (i : Int)).f2 (rd_T62 l (i : Int)).f3 (rd_T62 l (i : Int)).f4 (rd_T62 l (i : Int)).f5) from (by unfold pinfoldref11_LeaseMay_c.f; rw [if_pos (by rw [rdLease_get l i hlt]; exact hx _ (List.getElem_mem hlt))]), Option.bind_some, List.drop_eq_getElem_cons hlt]
  have e1 : goTab (hostAhead l i) (l[i] :: l.drop (i + 1)) = (leaseOk l[i] && (above (hostAhead l i) l[i].f0 && goTab (some l[i].f0) (l.drop (i + 1)))) := rfl
  have e2 : hostAhead l (i + 1) = some l[i].f0 := by
   unfold hostAhead
   rw [if_neg (by omega), Nat.add_sub_cancel, rdLease_get l i hlt]
  rw [e1, e2, rdLease_get l i hlt]
  have e3 : leaseB l[i].f0 l[i].f1 l[i].f2 l[i].f3 l[i].f4 l[i].f5 = leaseOk l[i] := rfl
  rw [e3]
  cases leaseOk l[i] with
  | false => rfl
  | true =>
   rw [if_pos rfl, Bool.true_and]
   by_cases h0 : i = 0
   ·subst h0
    rw [if_neg (by omega)]
    rfl
   ·have e4 : wrap64 ((i : Int) - 1) = ((i - 1 : Nat) : Int) := by
     rw [w64 (by omega)]
     omega
    rw [if_pos (by omega), e4, if_pos (by omega), if_pos (by omega)]
    have e5 : above (hostAhead l i) l[i].f0 = decide ((rd_T62 l ((i - 1 : Nat) : Int)).f0 < l[i].f0) := by
     unfold hostAhead
     rw [if_neg h0]
     rfl
    rw [e5]
    by_cases q : l[i].f0 ≤ (rd_T62 l ((i - 1 : Nat) : Int)).f0
    ·rw [if_pos q, decide_eq_false (by omega)]
     rfl
    ·rw [if_neg q, show decide ((rd_T62 l ((i - 1 : Nat) : Int)).f0 < l[i].f0) = true from decide_eq_true (by omega), Bool.true_and]
def pinfoldref11_TableMay_c.f (l0 : List S62) : Option Bool := if tabFitR l0 then some (tableB l0) else none
theorem pinfoldref11_TableMay_c.calls (A0 : Option Addr) (c0 : Nat) (l0 : List S62) (r : Bool) (w : World) (hr0 : Kd.C k62 w A0 l0.length l0) (hc0 : l0.length ≤ c0) (h : pinfoldref11_TableMay_c.f l0 = some r) :
  Calls Tryd.prog 56 #[.slice A0 l0.length c0] w fun e w' => e = .returned (.bool r) ∧ Below w.heap.size w w' := by
 unfold pinfoldref11_TableMay_c.f at h
 by_cases hs : tabFitR l0
 ·rw [if_pos hs] at h
  refine pinfoldref11_TableMay.calls (l0.length + 2) A0 c0 l0 r w hr0 hc0 ?_
  rw [← h]
  exact reftable_l0 l0 hs.1 hs.2 l0.length (l0.length + 2) 0 (by omega) (by omega)
 ·rw [if_neg hs] at h
  cases h

/-! ### pinfoldref11_Live: function 57 -/
def pinfoldref11_Live.f (a0_0 : Int) (a0_1 : Int) (a0_2 : ByteArray) (a0_3 : Int) (a0_4 : ByteArray) (a0_5 : Bool) (a1 : Int) : Option (Bool) := (pinfoldref11_LeaseMay_c.f a0_0 a0_1 a0_2 a0_3 a0_4 a0_5).bind fun t195 => (if t195 = true then (if a0_1 = 0 then (some false) else (some (decide (a0_3 > a1)))) else (some false))
set_option maxHeartbeats 8000000 in
set_option maxRecDepth 100000 in
theorem pinfoldref11_Live.calls (a0_0 : Int) (a0_1 : Int) (a0_2 : ByteArray) (a0_3 : Int) (a0_4 : ByteArray) (a0_5 : Bool) (a1 : Int) (r : Bool) (w : World) (h : pinfoldref11_Live.f a0_0 a0_1 a0_2 a0_3 a0_4 a0_5 a1 = some r) :
  Calls Tryd.prog 57 #[.agg #[.int .i64 a0_0, .int .i64 a0_1, .string a0_2, .int .i64 a0_3, .string a0_4, .bool a0_5], .int .i64 a1] w fun e w' => e = .returned (.bool r) ∧ Below w.heap.size w w' := by
 have hu62 := Tryd.underlying62
 have HB := am_ (Below.refl w.heap.size w)
 have H : ((pinfoldref11_LeaseMay_c.f a0_0 a0_1 a0_2 a0_3 a0_4 a0_5).bind fun t195 => (if t195 = true then (if a0_1 = 0 then (some false) else (some (decide (a0_3 > a1)))) else (some false))) = some r := h
 clear h
 replace H := e4_ H
 obtain ⟨t195, A30, H⟩ := H
 replace H : (if t195 = true then (if a0_1 = 0 then (some false) else (some (decide (a0_3 > a1)))) else (some false)) = some r := H
 have A3 := am_ A30
 clear A30
 by_cases c4 : t195 = true
 ·subst c4
  have H1 : (if a0_1 = 0 then (some false) else (some (decide (a0_3 > a1)))) = some r := by rw [if_pos rfl] at H; exact H
  clear H
  have H := H1
  clear H1
  by_cases c5 : a0_1 = 0
  ·rw [if_pos c5] at H
   have c5b0 : (a0_1 == 0) = true := beq_iff_eq.mpr c5
   have c5b1 : (a0_1 != 0) = false := e1_ c5
   clear c5
   obtain rfl := e5_ H
   go_enter Tryd.func57, Tryd.ntmps57
   go_wp2_with (first | ((with_reducible refine gate_dst (N := 2) rfl ?_); refine box_event ?hg (N := 2) ?hd (cs := #[.int .i64 a0_0, .int .i64 a0_1, .string a0_2, .int .i64 a0_3, .string a0_4, .bool a0_5]) (t := 62) ?hr ?_; (case hd => rfl); (case hg => rfl); (case hr => first | (go_simp; done) | (go_simp; rfl)); intro gb194 hg w6 hbox hb; have n0_ := am_ (bt_ (by repeat (with_reducible first | exact HB.out | apply p3_ | apply p1_ | apply p2_)) hb); have n1_ := am_ (hbox); have n2_ := am_ ((by rw [hg]; exact (bz_ (by repeat (with_reducible first | exact HB.out | apply p3_ | apply p1_ | apply p2_))) : w.heap.size ≤ gb194)); have n3_ := am_ ((by rw [hg]; exact (bz_ (by repeat (with_reducible first | exact HB.out | apply p3_ | apply p1_ | apply p2_))) : w.heap.size ≤ gb194)); clear HB; have HB := n0_; have BK194 := n1_; have GW194 := n2_; have GE194 := n3_; clear n0_ n1_ n2_ n3_; clear hb hbox hg; have hcz7_0 : w6.cell? ⟨gb194, 0, none⟩ = some (.int .i64 a0_0) := (bc_ BK194.out 0).trans rfl; have hcz7_1 : w6.cell? ⟨gb194, 1, none⟩ = some (.int .i64 a0_1) := (bc_ BK194.out 1).trans rfl; have hcz7_2 : w6.cell? ⟨gb194, 2, none⟩ = some (.string a0_2) := (bc_ BK194.out 2).trans rfl; have hcz7_3 : w6.cell? ⟨gb194, 3, none⟩ = some (.int .i64 a0_3) := (bc_ BK194.out 3).trans rfl; have hcz7_4 : w6.cell? ⟨gb194, 4, none⟩ = some (.string a0_4) := (bc_ BK194.out 4).trans rfl; have hcz7_5 : w6.cell? ⟨gb194, 5, none⟩ = some (.bool a0_5) := (bc_ BK194.out 5).trans rfl; have hfz7_0 := bf_ BK194.out 0; have hfz7_1 := bf_ BK194.out 1; have hfz7_2 := bf_ BK194.out 2; have hfz7_3 := bf_ BK194.out 3; have hfz7_4 := bf_ BK194.out 4; have hfz7_5 := bf_ BK194.out 5) | ((with_reducible refine gate_callee (f := 71) rfl ?_); refine goesL_ (some 6) rfl rfl Tryd.func71 (by kernel_rfl) rfl #[.agg #[.int .i64 a0_0, .int .i64 a0_1, .string a0_2, .int .i64 a0_3, .string a0_4, .bool a0_5]] rfl (by (try simp only [List.map_toArray, List.map_cons, List.map_nil]); first | done | rfl | (simp only [List.length_drop, List.length_take]; rfl)) ?_; (with_reducible refine (pinfoldref11_LeaseMay_c.calls a0_0 a0_1 a0_2 a0_3 a0_4 a0_5 true _ A3.out).mono ?_); rintro e w8 ⟨rfl, hb⟩; refine ⟨_, rfl, ?_⟩; have n0_ := am_ (kb_ (g := gb194) (o := .cells #[.int .i64 a0_0, .int .i64 a0_1, .string a0_2, .int .i64 a0_3, .string a0_4, .bool a0_5] 62 (0, 0)) (by (with_reducible repeat (first | refine k2_ ?_ _ | refine k3_ ?_ | refine k1_ ?_ _)); exact BK194.out) hb); have n1_ := am_ (bt_ (by repeat (with_reducible first | exact HB.out | apply p3_ | apply p1_ | apply p2_ | refine bs_ ?_ GE194.out)) hb); clear BK194; clear HB; have BK194 := n0_; have HB := n1_; clear n0_ n1_; (try clear hb); have hcz9_0 : w8.cell? ⟨gb194, 0, none⟩ = some (.int .i64 a0_0) := (bc_ BK194.out 0).trans rfl; have hcz9_1 : w8.cell? ⟨gb194, 1, none⟩ = some (.int .i64 a0_1) := (bc_ BK194.out 1).trans rfl; have hcz9_2 : w8.cell? ⟨gb194, 2, none⟩ = some (.string a0_2) := (bc_ BK194.out 2).trans rfl; have hcz9_3 : w8.cell? ⟨gb194, 3, none⟩ = some (.int .i64 a0_3) := (bc_ BK194.out 3).trans rfl; have hcz9_4 : w8.cell? ⟨gb194, 4, none⟩ = some (.string a0_4) := (bc_ BK194.out 4).trans rfl; have hcz9_5 : w8.cell? ⟨gb194, 5, none⟩ = some (.bool a0_5) := (bc_ BK194.out 5).trans rfl; have hfz9_0 := bf_ BK194.out 0; have hfz9_1 := bf_ BK194.out 1; have hfz9_2 := bf_ BK194.out 2; have hfz9_3 := bf_ BK194.out 3; have hfz9_4 := bf_ BK194.out 4; have hfz9_5 := bf_ BK194.out 5))
   go_ret
   exact ⟨by first | rfl | (simp [errW_none, errW_some] <;> rfl) | (simp [*, errW_none, errW_some] <;> rfl), by repeat (with_reducible first | exact HB.out | apply p3_ | apply p1_ | apply p2_ | refine bs_ ?_ GE194.out)⟩
  rw [if_neg c5] at H
  have c5b0 : (a0_1 == 0) = false := e2_ c5
  have c5b1 : (a0_1 != 0) = true := bne_iff_ne.mpr c5
  obtain rfl := e5_ H
  go_enter Tryd.func57, Tryd.ntmps57
  go_wp2_with (first | ((with_reducible refine gate_dst (N := 2) rfl ?_); refine box_event ?hg (N := 2) ?hd (cs := #[.int .i64 a0_0, .int .i64 a0_1, .string a0_2, .int .i64 a0_3, .string a0_4, .bool a0_5]) (t := 62) ?hr ?_; (case hd => rfl); (case hg => rfl); (case hr => first | (go_simp; done) | (go_simp; rfl)); intro gb194 hg w10 hbox hb; have n0_ := am_ (bt_ (by repeat (with_reducible first | exact HB.out | apply p3_ | apply p1_ | apply p2_)) hb); have n1_ := am_ (hbox); have n2_ := am_ ((by rw [hg]; exact (bz_ (by repeat (with_reducible first | exact HB.out | apply p3_ | apply p1_ | apply p2_))) : w.heap.size ≤ gb194)); have n3_ := am_ ((by rw [hg]; exact (bz_ (by repeat (with_reducible first | exact HB.out | apply p3_ | apply p1_ | apply p2_))) : w.heap.size ≤ gb194)); clear HB; have HB := n0_; have BK194 := n1_; have GW194 := n2_; have GE194 := n3_; clear n0_ n1_ n2_ n3_; clear hb hbox hg; have hcz11_0 : w10.cell? ⟨gb194, 0, none⟩ = some (.int .i64 a0_0) := (bc_ BK194.out 0).trans rfl; have hcz11_1 : w10.cell? ⟨gb194, 1, none⟩ = some (.int .i64 a0_1) := (bc_ BK194.out 1).trans rfl; have hcz11_2 : w10.cell? ⟨gb194, 2, none⟩ = some (.string a0_2) := (bc_ BK194.out 2).trans rfl; have hcz11_3 : w10.cell? ⟨gb194, 3, none⟩ = some (.int .i64 a0_3) := (bc_ BK194.out 3).trans rfl; have hcz11_4 : w10.cell? ⟨gb194, 4, none⟩ = some (.string a0_4) := (bc_ BK194.out 4).trans rfl; have hcz11_5 : w10.cell? ⟨gb194, 5, none⟩ = some (.bool a0_5) := (bc_ BK194.out 5).trans rfl; have hfz11_0 := bf_ BK194.out 0; have hfz11_1 := bf_ BK194.out 1; have hfz11_2 := bf_ BK194.out 2; have hfz11_3 := bf_ BK194.out 3; have hfz11_4 := bf_ BK194.out 4; have hfz11_5 := bf_ BK194.out 5) | ((with_reducible refine gate_callee (f := 71) rfl ?_); refine goesL_ (some 6) rfl rfl Tryd.func71 (by kernel_rfl) rfl #[.agg #[.int .i64 a0_0, .int .i64 a0_1, .string a0_2, .int .i64 a0_3, .string a0_4, .bool a0_5]] rfl (by (try simp only [List.map_toArray, List.map_cons, List.map_nil]); first | done | rfl | (simp only [List.length_drop, List.length_take]; rfl)) ?_; (with_reducible refine (pinfoldref11_LeaseMay_c.calls a0_0 a0_1 a0_2 a0_3 a0_4 a0_5 true _ A3.out).mono ?_); rintro e w12 ⟨rfl, hb⟩; refine ⟨_, rfl, ?_⟩; have n0_ := am_ (kb_ (g := gb194) (o := .cells #[.int .i64 a0_0, .int .i64 a0_1, .string a0_2, .int .i64 a0_3, .string a0_4, .bool a0_5] 62 (0, 0)) (by (with_reducible repeat (first | refine k2_ ?_ _ | refine k3_ ?_ | refine k1_ ?_ _)); exact BK194.out) hb); have n1_ := am_ (bt_ (by repeat (with_reducible first | exact HB.out | apply p3_ | apply p1_ | apply p2_ | refine bs_ ?_ GE194.out)) hb); clear BK194; clear HB; have BK194 := n0_; have HB := n1_; clear n0_ n1_; (try clear hb); have hcz13_0 : w12.cell? ⟨gb194, 0, none⟩ = some (.int .i64 a0_0) := (bc_ BK194.out 0).trans rfl; have hcz13_1 : w12.cell? ⟨gb194, 1, none⟩ = some (.int .i64 a0_1) := (bc_ BK194.out 1).trans rfl; have hcz13_2 : w12.cell? ⟨gb194, 2, none⟩ = some (.string a0_2) := (bc_ BK194.out 2).trans rfl; have hcz13_3 : w12.cell? ⟨gb194, 3, none⟩ = some (.int .i64 a0_3) := (bc_ BK194.out 3).trans rfl; have hcz13_4 : w12.cell? ⟨gb194, 4, none⟩ = some (.string a0_4) := (bc_ BK194.out 4).trans rfl; have hcz13_5 : w12.cell? ⟨gb194, 5, none⟩ = some (.bool a0_5) := (bc_ BK194.out 5).trans rfl; have hfz13_0 := bf_ BK194.out 0; have hfz13_1 := bf_ BK194.out 1; have hfz13_2 := bf_ BK194.out 2; have hfz13_3 := bf_ BK194.out 3; have hfz13_4 := bf_ BK194.out 4; have hfz13_5 := bf_ BK194.out 5))
  go_ret
  exact ⟨by first | rfl | (simp [errW_none, errW_some] <;> rfl) | (simp [*, errW_none, errW_some] <;> rfl), by repeat (with_reducible first | exact HB.out | apply p3_ | apply p1_ | apply p2_ | refine bs_ ?_ GE194.out)⟩
 replace c4 := e3_ c4
 subst c4
 have H1 : (some false) = some r := by rw [if_neg (show ¬ (false = true) by decide)] at H; exact H
 clear H
 have H := H1
 clear H1
 obtain rfl := e5_ H
 go_enter Tryd.func57, Tryd.ntmps57
 go_wp2_with (first | ((with_reducible refine gate_dst (N := 2) rfl ?_); refine box_event ?hg (N := 2) ?hd (cs := #[.int .i64 a0_0, .int .i64 a0_1, .string a0_2, .int .i64 a0_3, .string a0_4, .bool a0_5]) (t := 62) ?hr ?_; (case hd => rfl); (case hg => rfl); (case hr => first | (go_simp; done) | (go_simp; rfl)); intro gb194 hg w14 hbox hb; have n0_ := am_ (bt_ (by repeat (with_reducible first | exact HB.out | apply p3_ | apply p1_ | apply p2_)) hb); have n1_ := am_ (hbox); have n2_ := am_ ((by rw [hg]; exact (bz_ (by repeat (with_reducible first | exact HB.out | apply p3_ | apply p1_ | apply p2_))) : w.heap.size ≤ gb194)); have n3_ := am_ ((by rw [hg]; exact (bz_ (by repeat (with_reducible first | exact HB.out | apply p3_ | apply p1_ | apply p2_))) : w.heap.size ≤ gb194)); clear HB; have HB := n0_; have BK194 := n1_; have GW194 := n2_; have GE194 := n3_; clear n0_ n1_ n2_ n3_; clear hb hbox hg; have hcz15_0 : w14.cell? ⟨gb194, 0, none⟩ = some (.int .i64 a0_0) := (bc_ BK194.out 0).trans rfl; have hcz15_1 : w14.cell? ⟨gb194, 1, none⟩ = some (.int .i64 a0_1) := (bc_ BK194.out 1).trans rfl; have hcz15_2 : w14.cell? ⟨gb194, 2, none⟩ = some (.string a0_2) := (bc_ BK194.out 2).trans rfl; have hcz15_3 : w14.cell? ⟨gb194, 3, none⟩ = some (.int .i64 a0_3) := (bc_ BK194.out 3).trans rfl; have hcz15_4 : w14.cell? ⟨gb194, 4, none⟩ = some (.string a0_4) := (bc_ BK194.out 4).trans rfl; have hcz15_5 : w14.cell? ⟨gb194, 5, none⟩ = some (.bool a0_5) := (bc_ BK194.out 5).trans rfl; have hfz15_0 := bf_ BK194.out 0; have hfz15_1 := bf_ BK194.out 1; have hfz15_2 := bf_ BK194.out 2; have hfz15_3 := bf_ BK194.out 3; have hfz15_4 := bf_ BK194.out 4; have hfz15_5 := bf_ BK194.out 5) | ((with_reducible refine gate_callee (f := 71) rfl ?_); refine goesL_ (some 6) rfl rfl Tryd.func71 (by kernel_rfl) rfl #[.agg #[.int .i64 a0_0, .int .i64 a0_1, .string a0_2, .int .i64 a0_3, .string a0_4, .bool a0_5]] rfl (by (try simp only [List.map_toArray, List.map_cons, List.map_nil]); first | done | rfl | (simp only [List.length_drop, List.length_take]; rfl)) ?_; (with_reducible refine (pinfoldref11_LeaseMay_c.calls a0_0 a0_1 a0_2 a0_3 a0_4 a0_5 false _ A3.out).mono ?_); rintro e w16 ⟨rfl, hb⟩; refine ⟨_, rfl, ?_⟩; have n0_ := am_ (kb_ (g := gb194) (o := .cells #[.int .i64 a0_0, .int .i64 a0_1, .string a0_2, .int .i64 a0_3, .string a0_4, .bool a0_5] 62 (0, 0)) (by (with_reducible repeat (first | refine k2_ ?_ _ | refine k3_ ?_ | refine k1_ ?_ _)); exact BK194.out) hb); have n1_ := am_ (bt_ (by repeat (with_reducible first | exact HB.out | apply p3_ | apply p1_ | apply p2_ | refine bs_ ?_ GE194.out)) hb); clear BK194; clear HB; have BK194 := n0_; have HB := n1_; clear n0_ n1_; (try clear hb)))
 go_ret
 exact ⟨by first | rfl | (simp [errW_none, errW_some] <;> rfl) | (simp [*, errW_none, errW_some] <;> rfl), by repeat (with_reducible first | exact HB.out | apply p3_ | apply p1_ | apply p2_ | refine bs_ ?_ GE194.out)⟩

/-! ### pinfoldref11_Live_c: function 57 -/
theorem reflive_c (h st : Int) (cl : ByteArray) (un : Int) (nm : ByteArray) (won : Bool) (now : Int) (hs : nm.size ≤ 8796093022000) : pinfoldref11_Live.f h st cl un nm won now = some (liveB h st cl un nm won now) := by
 unfold pinfoldref11_Live.f liveB
 unfold pinfoldref11_LeaseMay_c.f
 rw [if_pos hs, Option.bind_some]
 cases leaseB h st cl un nm won with
 | true =>
  rw [if_pos rfl]
  by_cases h0 : st = 0
  ·rw [if_pos h0, decide_eq_false (fun e => e h0)]
   rfl
  ·rw [if_neg h0, decide_eq_true h0]
   rfl
 | false => rfl
def pinfoldref11_Live_c.f (a0_0 : Int) (a0_1 : Int) (a0_2 : ByteArray) (a0_3 : Int) (a0_4 : ByteArray) (a0_5 : Bool) (a1 : Int) : Option Bool := if a0_4.size ≤ 8796093022000 then some (liveB a0_0 a0_1 a0_2 a0_3 a0_4 a0_5 a1) else none
theorem pinfoldref11_Live_c.calls (a0_0 : Int) (a0_1 : Int) (a0_2 : ByteArray) (a0_3 : Int) (a0_4 : ByteArray) (a0_5 : Bool) (a1 : Int) (r : Bool) (w : World) (h : pinfoldref11_Live_c.f a0_0 a0_1 a0_2 a0_3 a0_4 a0_5 a1 = some r) :
  Calls Tryd.prog 57 #[.agg #[.int .i64 a0_0, .int .i64 a0_1, .string a0_2, .int .i64 a0_3, .string a0_4, .bool a0_5], .int .i64 a1] w fun e w' => e = .returned (.bool r) ∧ Below w.heap.size w w' := by
 unfold pinfoldref11_Live_c.f at h
 by_cases hs : a0_4.size ≤ 8796093022000
 ·rw [if_pos hs] at h
  exact pinfoldref11_Live.calls a0_0 a0_1 a0_2 a0_3 a0_4 a0_5 a1 r w (by rw [reflive_c _ _ _ _ _ _ _ hs]; exact h)
 ·rw [if_neg hs] at h
  cases h

/-! ### pinfoldref11_FreeName: function 32 -/
-- BY HAND
-- 21 56 46 57 34
def freeFitR (l2 : List Int) (l3 : List S47) (z : ByteArray) (l6 : List S49) (ls : List S62) (called : ByteArray) : Prop := fullFitR l2 l3 z l6 called ∧ ls.length ≤ 140737488351232 ∧ ∀ x ∈ ls, x.f4.size ≤ 1048576
instance (l2 : List Int) (l3 : List S47) (z : ByteArray) (l6 : List S49) (ls : List S62) (called : ByteArray) : Decidable (freeFitR l2 l3 z l6 ls called) := by unfold freeFitR; infer_instance
theorem heldr_eq (c : ByteArray) (now : Int) (x : S62) : heldBy c now x = (liveB x.f0 x.f1 x.f2 x.f3 x.f4 x.f5 now && (decide (x.f1 = 2) && (x.f5 && decide (x.f2.toList ≠ c.toList)))) := by
 unfold heldBy boundB holdsB
 by_cases h2 : x.f1 = 2
 ·rw [decide_eq_true h2, decide_eq_true (show x.f1 ≠ 3 by omega)]
  cases liveB x.f0 x.f1 x.f2 x.f3 x.f4 x.f5 now <;> cases x.f5 <;> simp
 ·rw [decide_eq_false h2]
  simp
theorem takS_in (l : List S49) (i : Int) (h0 : 0 ≤ i) (h1 : i < l.length) (F : List UInt8) (hn : F ∉ takenS (l.take i.toNat)) : ((rd_T49 l i).f0.data.toList = F → F ∈ takenS l) ∧ ((rd_T49 l i).f0.data.toList ≠ F → F ∉ takenS (l.take (i.toNat + 1))) := by
 have h : i.toNat < l.length := by omega
 have e : rd_T49 l i = l[i.toNat] := by
  unfold rd_T49
  rw [List.getD_eq_getElem?_getD, List.getElem?_eq_getElem h]
  rfl
 rw [e]
 constructor
 ·intro q
  exact List.mem_map.2 ⟨l[i.toNat], List.getElem_mem h, q⟩
 ·intro q
  rw [List.take_succ_eq_append_getElem h]
  unfold takenS at hn ⊢
  rw [List.map_append, List.mem_append]
  rintro (h | h)
  ·exact hn h
  ·rw [List.map_cons, List.map_nil, List.mem_singleton] at h
   exact q h.symm
theorem takL_in (G : ByteArray → ByteArray) (c : ByteArray) (now : Int) (l : List S62) (i : Int) (h0 : 0 ≤ i) (h1 : i < l.length) (F : List UInt8) (hn : F ∉ takenL G c now (l.take i.toNat)) : ((heldBy c now (rd_T62 l i) = true ∧ (G (rd_T62 l i).f4).data.toList = F) → F ∈ takenL G c now l) ∧ (¬ (heldBy c now (rd_T62 l i) = true ∧ (G (rd_T62 l i).f4).data.toList = F) → F ∉ takenL G c now (l.take (i.toNat + 1))) := by
 have h : i.toNat < l.length := by omega
 have e : rd_T62 l i = l[i.toNat] := by
  unfold rd_T62
  rw [List.getD_eq_getElem?_getD, List.getElem?_eq_getElem h]
  rfl
 rw [e]
 constructor
 ·intro q
  exact List.mem_map.2 ⟨l[i.toNat], List.mem_filter.2 ⟨List.getElem_mem h, q.1⟩, q.2⟩
 ·intro q
  rw [List.take_succ_eq_append_getElem h]
  unfold takenL at hn ⊢
  rw [List.filter_append, List.map_append, List.mem_append]
  rintro (h | h)
  ·exact hn h
  ·obtain ⟨y, hy, e2⟩ := List.mem_map.1 h
   obtain ⟨hy1, hy2⟩ := List.mem_filter.1 hy
   rw [List.mem_singleton] at hy1
   subst hy1
   exact q ⟨hy2, e2⟩
def pinfoldref11_FreeName.f (a0_0 : Int) (a0_1 : Int) (l0_2 : List Int) (l0_3 : List S47) (a0_4 : Int) (a0_5 : ByteArray) (l0_6 : List S49) (l1 : List S62) (a2 : Int) (a3 a4 : ByteArray) : Option (Bool × Int) := if freeFitR l0_2 l0_3 a0_5 l0_6 l1 a4 then some (freeB a0_0 a0_1 l0_2 l0_3 a0_4 a0_5 l0_6 l1 a2 a3 a4, if mayFree a0_0 a0_1 l0_2 l0_3 a0_4 a0_5 l0_6 l1 a4 then 0 else 1600) else none
set_option maxHeartbeats 8000000 in
set_option maxRecDepth 100000 in
theorem pinfoldref11_FreeName.calls (a0_0 : Int) (a0_1 : Int) (A0_2 : Option Addr) (c0_2 : Nat) (l0_2 : List Int) (A0_3 : Option Addr) (c0_3 : Nat) (l0_3 : List S47) (a0_4 : Int) (a0_5 : ByteArray) (A0_6 : Option Addr) (c0_6 : Nat) (l0_6 : List S49) (A1 : Option Addr) (c1 : Nat) (l1 : List S62) (a2 : Int) (a3 : ByteArray) (a4 : ByteArray) (r1 : Bool) (r2 : Int) (w : World) (hr0_2 : Kd.C (Kd.int .i64) w A0_2 l0_2.length l0_2) (hc0_2 : l0_2.length ≤ c0_2) (hr0_3 : Kd.C k47 w A0_3 l0_3.length l0_3) (hc0_3 : l0_3.length ≤ c0_3) (hr0_6 : Kd.C k49 w A0_6 l0_6.length l0_6) (hc0_6 : l0_6.length ≤ c0_6) (hr1 : Kd.C k62 w A1 l1.length l1) (hc1 : l1.length ≤ c1) (h : pinfoldref11_FreeName.f a0_0 a0_1 l0_2 l0_3 a0_4 a0_5 l0_6 l1 a2 a3 a4 = some (r1, r2)) :
  Calls Tryd.prog 32 #[.agg #[.int .i64 a0_0, .int .i64 a0_1, .slice A0_2 l0_2.length c0_2, .slice A0_3 l0_3.length c0_3, .int .i64 a0_4, .string a0_5, .slice A0_6 l0_6.length c0_6], .slice A1 l1.length c1, .int .i64 a2, .string a3, .string a4] w fun e w' => e = .returned (.tuple #[.bool r1, .int .i64 r2]) ∧ Below w.heap.size w w' := by
 unfold pinfoldref11_FreeName.f at h
 by_cases hs : freeFitR l0_2 l0_3 a0_5 l0_6 l1 a4
 rotate_left
 ·rw [if_neg hs] at h
  cases h
 rw [if_pos hs] at h
 have h' := e5_ h
 have HR1 := (Prod.mk.inj h').1
 have HR2 := (Prod.mk.inj h').2
 clear h h'
 obtain ⟨b1, h1⟩ : ∃ b, confB a0_0 a0_1 l0_2 l0_3 a0_4 a0_5 l0_6 = b := ⟨_, rfl⟩
 obtain ⟨b2, h2⟩ : ∃ b, tableB l1 = b := ⟨_, rfl⟩
 obtain ⟨b3, h3⟩ : ∃ b, nameB (bytesOf a4) = b := ⟨_, rfl⟩
 unfold freeB at HR1
 have hmay : mayFree a0_0 a0_1 l0_2 l0_3 a0_4 a0_5 l0_6 l1 a4 = (b1 && (b2 && b3)) := by unfold mayFree; rw [h1, h2, h3]
 rw [hmay] at HR1 HR2
 clear hmay
 have C1 := am_ (fun W (hb : Below w.heap.size w W) => pinfoldref11_ConfMay.calls a0_0 a0_1 A0_2 c0_2 l0_2 A0_3 c0_3 l0_3 a0_4 a0_5 A0_6 c0_6 l0_6 b1 W (c4_ hr0_2 hb) hc0_2 (c4_ hr0_3 hb) hc0_3 (c4_ hr0_6 hb) hc0_6 (by unfold pinfoldref11_ConfMay.f; rw [if_pos hs.1.1, h1]))
 have C2 := am_ (fun W (hb : Below w.heap.size w W) => pinfoldref11_TableMay_c.calls A1 c1 l1 b2 W (c4_ hr1 hb) hc1 (by unfold pinfoldref11_TableMay_c.f; rw [if_pos ⟨hs.2.1, fun x hx => by have := hs.2.2 x hx; omega⟩, h2]))
 have C3 := am_ (fun W => pinfoldref1_NameMay_c.calls a4 b3 W (by unfold pinfoldref1_NameMay_c.f; rw [if_pos (by have := hs.1.2.1; omega), h3]))
 have CF := am_ (fun (x : ByteArray) W (hx : x.size ≤ 1048576) (hb : Below w.heap.size w W) => pinfoldref11_Full_c.calls a0_0 a0_1 A0_2 c0_2 l0_2 A0_3 c0_3 l0_3 a0_4 a0_5 A0_6 c0_6 l0_6 x (fullB a0_0 a0_1 l0_2 l0_3 a0_4 a0_5 l0_6 x) W (c4_ hr0_2 hb) hc0_2 (c4_ hr0_3 hb) hc0_3 (c4_ hr0_6 hb) hc0_6 (by unfold pinfoldref11_Full_c.f; rw [if_pos ⟨hs.1.1, hx, hs.1.2.2⟩]))
 have CFa := am_ (fun W (hb : Below w.heap.size w W) => CF.out a4 W hs.1.2.1 hb)
 have HS := am_ hs
 have HK6 := am_ hr0_6
 have HK1 := am_ hr1
 have hl6 : l0_6.length ≤ 140737488351232 := hs.1.1.2.2.2.1
 have hl1 : l1.length ≤ 140737488351232 := hs.2.1
 have HB := am_ (Below.refl w.heap.size w)
 have BK := am_ (blk_new w (.cells #[.int .i64 a0_0, .int .i64 a0_1, .slice A0_2 l0_2.length c0_2, .slice A0_3 l0_3.length c0_3, .int .i64 a0_4, .string a0_5, .slice A0_6 l0_6.length c0_6] 26))
 clear hs hr0_2 hr0_3 hr0_6 hc0_2 hc0_3 hc0_6 hr1 hc1 h1 h2 h3
 replace HR1 := am_ HR1
 replace HR2 := am_ HR2
 cases b1 with
 | false =>
  have e1 : r1 = false := by rw [← HR1.out]; simp
  have e2 : r2 = 1600 := by rw [← HR2.out]; simp
  clear HR1 HR2 CF HK6 HK1 C2 C3
  subst e1 e2
  go_enter Tryd.func32, Tryd.ntmps32
  go_wp2_with (first | (go_at_call 21; (with_reducible refine (C1.out _ (by repeat (with_reducible first | exact HB.out | apply p3_ | apply p1_ | apply p2_))).mono ?_); rintro e w1 ⟨rfl, hb2⟩; replace BK := am_ (kb_ (show _ from (by (with_reducible repeat (first | exact BK.out | refine k2_ ?_ _ | refine k3_ ?_ | refine k1_ ?_ _)))) hb2); replace HB := am_ (bt_ (show Below w.heap.size w _ from (by repeat (with_reducible first | exact HB.out | apply p3_ | apply p1_ | apply p2_))) hb2); clear hb2))
  go_ret2
  exact ⟨rfl, (by repeat (with_reducible first | exact HB.out | apply p3_ | apply p1_ | apply p2_))⟩
 | true =>
 cases b2 with
 | false =>
  have e1 : r1 = false := by rw [← HR1.out]; simp
  have e2 : r2 = 1600 := by rw [← HR2.out]; simp
  clear HR1 HR2 CF HK6 HK1 C3
  subst e1 e2
  go_enter Tryd.func32, Tryd.ntmps32
  go_wp2_with (first | (go_at_call 21; (with_reducible refine (C1.out _ (by repeat (with_reducible first | exact HB.out | apply p3_ | apply p1_ | apply p2_))).mono ?_); rintro e w1 ⟨rfl, hb2⟩; replace BK := am_ (kb_ (show _ from (by (with_reducible repeat (first | exact BK.out | refine k2_ ?_ _ | refine k3_ ?_ | refine k1_ ?_ _)))) hb2); replace HB := am_ (bt_ (show Below w.heap.size w _ from (by repeat (with_reducible first | exact HB.out | apply p3_ | apply p1_ | apply p2_))) hb2); clear hb2) | (go_at_call 56; (with_reducible refine (C2.out _ (by repeat (with_reducible first | exact HB.out | apply p3_ | apply p1_ | apply p2_))).mono ?_); rintro e w2 ⟨rfl, hb2⟩; replace BK := am_ (kb_ (show _ from (by (with_reducible repeat (first | exact BK.out | refine k2_ ?_ _ | refine k3_ ?_ | refine k1_ ?_ _)))) hb2); replace HB := am_ (bt_ (show Below w.heap.size w _ from (by repeat (with_reducible first | exact HB.out | apply p3_ | apply p1_ | apply p2_))) hb2); clear hb2))
  go_ret2
  exact ⟨rfl, (by repeat (with_reducible first | exact HB.out | apply p3_ | apply p1_ | apply p2_))⟩
 | true =>
 cases b3 with
 | false =>
  have e1 : r1 = false := by rw [← HR1.out]; simp
  have e2 : r2 = 1600 := by rw [← HR2.out]; simp
  clear HR1 HR2 CF HK6 HK1
  subst e1 e2
  go_enter Tryd.func32, Tryd.ntmps32
  go_wp2_with (first | (go_at_call 21; (with_reducible refine (C1.out _ (by repeat (with_reducible first | exact HB.out | apply p3_ | apply p1_ | apply p2_))).mono ?_); rintro e w1 ⟨rfl, hb2⟩; replace BK := am_ (kb_ (show _ from (by (with_reducible repeat (first | exact BK.out | refine k2_ ?_ _ | refine k3_ ?_ | refine k1_ ?_ _)))) hb2); replace HB := am_ (bt_ (show Below w.heap.size w _ from (by repeat (with_reducible first | exact HB.out | apply p3_ | apply p1_ | apply p2_))) hb2); clear hb2) | (go_at_call 56; (with_reducible refine (C2.out _ (by repeat (with_reducible first | exact HB.out | apply p3_ | apply p1_ | apply p2_))).mono ?_); rintro e w2 ⟨rfl, hb2⟩; replace BK := am_ (kb_ (show _ from (by (with_reducible repeat (first | exact BK.out | refine k2_ ?_ _ | refine k3_ ?_ | refine k1_ ?_ _)))) hb2); replace HB := am_ (bt_ (show Below w.heap.size w _ from (by repeat (with_reducible first | exact HB.out | apply p3_ | apply p1_ | apply p2_))) hb2); clear hb2) | (go_at_call 46; (with_reducible refine (C3.out _).mono ?_); rintro e w3 ⟨rfl, hb2⟩; replace BK := am_ (kb_ (show _ from (by (with_reducible repeat (first | exact BK.out | refine k2_ ?_ _ | refine k3_ ?_ | refine k1_ ?_ _)))) hb2); replace HB := am_ (bt_ (show Below w.heap.size w _ from (by repeat (with_reducible first | exact HB.out | apply p3_ | apply p1_ | apply p2_))) hb2); clear hb2))
  go_ret2
  exact ⟨rfl, (by repeat (with_reducible first | exact HB.out | apply p3_ | apply p1_ | apply p2_))⟩
 | true =>
 have e2 : r2 = 0 := by rw [← HR2.out]; simp
 clear HR2
 subst e2
 obtain ⟨F, hF⟩ : ∃ F, fullB a0_0 a0_1 l0_2 l0_3 a0_4 a0_5 l0_6 a4 = F := ⟨_, rfl⟩
 have HR := HR1.out
 rw [Bool.and_self, Bool.and_self, Bool.true_and, hF] at HR
 replace HR := am_ HR
 clear HR1
 replace hF := am_ hF
 by_cases q0 : F.toList = []
 ·have e1 : r1 = false := by
   rw [← HR.out, decide_eq_false_iff_not, Classical.not_not]
   rw [ByteArray.toList_eq] at q0
   rw [q0]
   exact List.mem_cons_self
  have q0b : F.toList.isEmpty = true := by simp [q0]
  clear HR HK6 HK1
  subst e1
  go_enter Tryd.func32, Tryd.ntmps32
  go_wp2_with (first | (go_at_call 21; (with_reducible refine (C1.out _ (by repeat (with_reducible first | exact HB.out | apply p3_ | apply p1_ | apply p2_))).mono ?_); rintro e w1 ⟨rfl, hb2⟩; replace BK := am_ (kb_ (show _ from (by (with_reducible repeat (first | exact BK.out | refine k2_ ?_ _ | refine k3_ ?_ | refine k1_ ?_ _)))) hb2); replace HB := am_ (bt_ (show Below w.heap.size w _ from (by repeat (with_reducible first | exact HB.out | apply p3_ | apply p1_ | apply p2_))) hb2); clear hb2) | (go_at_call 56; (with_reducible refine (C2.out _ (by repeat (with_reducible first | exact HB.out | apply p3_ | apply p1_ | apply p2_))).mono ?_); rintro e w2 ⟨rfl, hb2⟩; replace BK := am_ (kb_ (show _ from (by (with_reducible repeat (first | exact BK.out | refine k2_ ?_ _ | refine k3_ ?_ | refine k1_ ?_ _)))) hb2); replace HB := am_ (bt_ (show Below w.heap.size w _ from (by repeat (with_reducible first | exact HB.out | apply p3_ | apply p1_ | apply p2_))) hb2); clear hb2) | (go_at_call 46; (with_reducible refine (C3.out _).mono ?_); rintro e w3 ⟨rfl, hb2⟩; replace BK := am_ (kb_ (show _ from (by (with_reducible repeat (first | exact BK.out | refine k2_ ?_ _ | refine k3_ ?_ | refine k1_ ?_ _)))) hb2); replace HB := am_ (bt_ (show Below w.heap.size w _ from (by repeat (with_reducible first | exact HB.out | apply p3_ | apply p1_ | apply p2_))) hb2); clear hb2; have u0 := bc_ BK.out 0; have u1 := bc_ BK.out 1; have u2 := bc_ BK.out 2; have u3 := bc_ BK.out 3; have u4 := bc_ BK.out 4; have u5 := bc_ BK.out 5; have u6 := bc_ BK.out 6) | (go_at_call 34; (with_reducible refine (CFa.out _ (by repeat (with_reducible first | exact HB.out | apply p3_ | apply p1_ | apply p2_))).mono ?_); rintro e w4 ⟨rfl, hb2⟩; replace BK := am_ (kb_ (show _ from (by (with_reducible repeat (first | exact BK.out | refine k2_ ?_ _ | refine k3_ ?_ | refine k1_ ?_ _)))) hb2); replace HB := am_ (bt_ (show Below w.heap.size w _ from (by repeat (with_reducible first | exact HB.out | apply p3_ | apply p1_ | apply p2_))) hb2); clear hb2; (try rw [hF.out])))
  go_ret2
  exact ⟨rfl, (by repeat (with_reducible first | exact HB.out | apply p3_ | apply p1_ | apply p2_))⟩
 have q0b : F.toList.isEmpty = false := by simpa using q0
 go_enter Tryd.func32, Tryd.ntmps32
 go_wp2_with (first | (go_at_call 21; (with_reducible refine (C1.out _ (by repeat (with_reducible first | exact HB.out | apply p3_ | apply p1_ | apply p2_))).mono ?_); rintro e w1 ⟨rfl, hb2⟩; replace BK := am_ (kb_ (show _ from (by (with_reducible repeat (first | exact BK.out | refine k2_ ?_ _ | refine k3_ ?_ | refine k1_ ?_ _)))) hb2); replace HB := am_ (bt_ (show Below w.heap.size w _ from (by repeat (with_reducible first | exact HB.out | apply p3_ | apply p1_ | apply p2_))) hb2); clear hb2) | (go_at_call 56; (with_reducible refine (C2.out _ (by repeat (with_reducible first | exact HB.out | apply p3_ | apply p1_ | apply p2_))).mono ?_); rintro e w2 ⟨rfl, hb2⟩; replace BK := am_ (kb_ (show _ from (by (with_reducible repeat (first | exact BK.out | refine k2_ ?_ _ | refine k3_ ?_ | refine k1_ ?_ _)))) hb2); replace HB := am_ (bt_ (show Below w.heap.size w _ from (by repeat (with_reducible first | exact HB.out | apply p3_ | apply p1_ | apply p2_))) hb2); clear hb2) | (go_at_call 46; (with_reducible refine (C3.out _).mono ?_); rintro e w3 ⟨rfl, hb2⟩; replace BK := am_ (kb_ (show _ from (by (with_reducible repeat (first | exact BK.out | refine k2_ ?_ _ | refine k3_ ?_ | refine k1_ ?_ _)))) hb2); replace HB := am_ (bt_ (show Below w.heap.size w _ from (by repeat (with_reducible first | exact HB.out | apply p3_ | apply p1_ | apply p2_))) hb2); clear hb2; have u0 := bc_ BK.out 0; have u1 := bc_ BK.out 1; have u2 := bc_ BK.out 2; have u3 := bc_ BK.out 3; have u4 := bc_ BK.out 4; have u5 := bc_ BK.out 5; have u6 := bc_ BK.out 6) | (go_at_call 34; (with_reducible refine (CFa.out _ (by repeat (with_reducible first | exact HB.out | apply p3_ | apply p1_ | apply p2_))).mono ?_); rintro e w4 ⟨rfl, hb2⟩; replace BK := am_ (kb_ (show _ from (by (with_reducible repeat (first | exact BK.out | refine k2_ ?_ _ | refine k3_ ?_ | refine k1_ ?_ _)))) hb2); replace HB := am_ (bt_ (show Below w.heap.size w _ from (by repeat (with_reducible first | exact HB.out | apply p3_ | apply p1_ | apply p2_))) hb2); clear hb2; (try rw [hF.out])))
 have HQ0 := am_ q0
 clear q0 q0b C1 C2 C3 u0 u1 u2 u3 u4 u5 u6
 go_loopg [13] l0_6.length (fun d v13 w' => ∃ i : Int, 0 ≤ i ∧ i.toNat + d = l0_6.length ∧ v13 = .int .i64 i ∧ Aside0 (Below w.heap.size w w') ∧ Aside0 (w'.heap[w.heap.size]? = some (.cells #[.int .i64 a0_0, .int .i64 a0_1, .slice A0_2 l0_2.length c0_2, .slice A0_3 l0_3.length c0_3, .int .i64 a0_4, .string a0_5, .slice A0_6 l0_6.length c0_6] 26)) ∧ Aside0 (F.data.toList ∉ takenS (l0_6.take i.toNat)))
 case atStart => exact ⟨0, by omega, by simp, rfl, HB, BK, ⟨by simp [takenS]⟩⟩
 case round =>
  clear HB BK
  obtain ⟨i, hi0, hd, rfl, HB, BK, HI⟩ := hrel
  have u0 := bc_ BK.out 0; have u1 := bc_ BK.out 1; have u2 := bc_ BK.out 2; have u3 := bc_ BK.out 3; have u4 := bc_ BK.out 4; have u5 := bc_ BK.out 5; have u6 := bc_ BK.out 6
  by_cases hlt : i < (l0_6.length : Int)
  ·obtain ⟨ad, e1, hx0, hx1, hx2, hx3, hx4, hx5, hx6⟩ := at_T49 HK6.out i hi0 hlt
   cases e1
   clear hx1 hx2 hx3 hx4 hx5 hx6
   replace hx0 := (HB.out.cell (wb_ w _ hx0)).trans hx0
   have hin := takS_in l0_6 i hi0 hlt _ HI.out
   generalize rd_T49 l0_6 i = x at hx0 hin
   obtain ⟨s, f1, f2, f3, f4, f5, f6⟩ := x
   simp only at hx0 hin
   by_cases e : s.toList = F.toList
   ·have e1 : r1 = false := by
     rw [← HR.out, decide_eq_false_iff_not, Classical.not_not, List.cons_append, List.mem_cons, List.mem_append]
     rw [ByteArray.toList_eq, ByteArray.toList_eq] at e
     exact .inr (.inl (hin.1 e))
    clear HR HI hin HK1
    subst e1
    go_wp2
    go_ret2
    exact ⟨rfl, (by repeat (with_reducible first | exact HB.out | apply p3_ | apply p1_ | apply p2_))⟩
   ·have eb : (s.toList == F.toList) = false := by simpa using e
    have HI2 := am_ (hin.2 (fun h => e (by rw [ByteArray.toList_eq, ByteArray.toList_eq]; exact h)))
    clear hin HI HK1
    go_wp2
    go_roundg (l0_6.length - (i.toNat + 1))
    case measure => first | omega | (simp; omega)
    case rel =>
     have e2 : (i + 1).toNat = i.toNat + 1 := by omega
     exact ⟨i + 1, by omega, by omega, by go_num, ⟨(by repeat (with_reducible first | exact HB.out | apply p3_ | apply p1_ | apply p2_))⟩, ⟨(by (with_reducible repeat (first | exact BK.out | refine k2_ ?_ _ | refine k3_ ?_ | refine k1_ ?_ _)))⟩, ⟨by rw [e2]; exact HI2.out⟩⟩
  ·have HT := am_ (show F.data.toList ∉ takenS l0_6 by have h1 := HI.out; rw [List.take_of_length_le (by omega)] at h1; exact h1)
   clear HI
   go_wp2
   clear u0 u1 u2 u3 u4 u5 u6
   go_loopg [14] l1.length (fun d v14 w' => ∃ j : Int, 0 ≤ j ∧ j.toNat + d = l1.length ∧ v14 = .int .i64 j ∧ Aside0 (Below w.heap.size w w') ∧ Aside0 (w'.heap[w.heap.size]? = some (.cells #[.int .i64 a0_0, .int .i64 a0_1, .slice A0_2 l0_2.length c0_2, .slice A0_3 l0_3.length c0_3, .int .i64 a0_4, .string a0_5, .slice A0_6 l0_6.length c0_6] 26)) ∧ Aside0 (F.data.toList ∉ takenL (fullB a0_0 a0_1 l0_2 l0_3 a0_4 a0_5 l0_6) a3 a2 (l1.take j.toNat)))
   case atStart => exact ⟨0, by omega, by simp, rfl, ⟨(by repeat (with_reducible first | exact HB.out | apply p3_ | apply p1_ | apply p2_))⟩, ⟨(by (with_reducible repeat (first | exact BK.out | refine k2_ ?_ _ | refine k3_ ?_ | refine k1_ ?_ _)))⟩, ⟨by simp [takenL]⟩⟩
   case round =>
    clear HB BK
    obtain ⟨j, hj0, hdj, rfl, HB, BK, HJ⟩ := hrel
    by_cases jlt : j < (l1.length : Int)
    ·obtain ⟨ad, e1, hx0, hx1, hx2, hx3, hx4, hx5⟩ := at_T62 HK1.out j hj0 jlt
     cases e1
     replace hx0 := (HB.out.cell (wb_ w _ hx0)).trans hx0; replace hx1 := (HB.out.cell (wb_ w _ hx1)).trans hx1; replace hx2 := (HB.out.cell (wb_ w _ hx2)).trans hx2; replace hx3 := (HB.out.cell (wb_ w _ hx3)).trans hx3; replace hx4 := (HB.out.cell (wb_ w _ hx4)).trans hx4; replace hx5 := (HB.out.cell (wb_ w _ hx5)).trans hx5
     have hin := takL_in (fullB a0_0 a0_1 l0_2 l0_3 a0_4 a0_5 l0_6) a3 a2 l1 j hj0 jlt _ HJ.out
     have hsz := HS.out.2.2 _ (dropLease l1 j hj0 jlt).2
     rw [heldr_eq] at hin
     generalize rd_T62 l1 j = x at hx0 hx1 hx2 hx3 hx4 hx5 hin hsz
     obtain ⟨f0, f1, f2, f3, f4, f5⟩ := x
     simp only at hx0 hx1 hx2 hx3 hx4 hx5 hin hsz
     obtain ⟨b1, h1⟩ : ∃ b, liveB f0 f1 f2 f3 f4 f5 a2 = b := ⟨_, rfl⟩
     have CL := am_ (fun W => pinfoldref11_Live_c.calls f0 f1 f2 f3 f4 f5 a2 b1 W (by unfold pinfoldref11_Live_c.f; rw [if_pos (by omega), h1]))
     rw [h1] at hin
     clear h1
     have CFo := am_ (fun W => CF.out f4 W hsz)
     generalize fullB a0_0 a0_1 l0_2 l0_3 a0_4 a0_5 l0_6 f4 = FK at hin CFo
     replace hin := am_ hin
     clear hsz HJ CF HK6
     cases b1 with
     | false =>
      have HN := am_ (hin.out.2 (fun h => by simp at h))
      clear hin CFo
      go_wp2_with (first | (go_at_call 57; (with_reducible refine (CL.out _).mono ?_); rintro e w3 ⟨rfl, hb2⟩; have BX := am_ (kb_ (blk_new wr (.cells #[.int .i64 f0, .int .i64 f1, .string f2, .int .i64 f3, .string f4, .bool f5] 62)) hb2); replace BK := am_ (kb_ (k1_ BK.out (.cells #[.int .i64 f0, .int .i64 f1, .string f2, .int .i64 f3, .string f4, .bool f5] 62)) hb2); replace HB := am_ (bt_ (p3_ HB.out (.cells #[.int .i64 f0, .int .i64 f1, .string f2, .int .i64 f3, .string f4, .bool f5] 62)) hb2); clear hb2; have x1 := bc_ BX.out 1; have x2 := bc_ BX.out 2; have x4 := bc_ BX.out 4; have x5 := bc_ BX.out 5; have u0 := bc_ BK.out 0; have u1 := bc_ BK.out 1; have u2 := bc_ BK.out 2; have u3 := bc_ BK.out 3; have u4 := bc_ BK.out 4; have u5 := bc_ BK.out 5; have u6 := bc_ BK.out 6) | (go_at_call 34; (with_reducible refine (CFo.out _ (by repeat (with_reducible first | exact HB.out | apply p3_ | apply p1_ | apply p2_))).mono ?_); rintro e w4 ⟨rfl, hb2⟩; replace BK := am_ (kb_ (show _ from (by (with_reducible repeat (first | exact BK.out | refine k2_ ?_ _ | refine k3_ ?_ | refine k1_ ?_ _)))) hb2); replace HB := am_ (bt_ (show Below w.heap.size w _ from (by repeat (with_reducible first | exact HB.out | apply p3_ | apply p1_ | apply p2_))) hb2); clear hb2))
      go_roundg (l1.length - (j.toNat + 1))
      case measure => first | omega | (simp; omega)
      case rel =>
       have e2 : (j + 1).toNat = j.toNat + 1 := by omega
       exact ⟨j + 1, by omega, by omega, by go_num, ⟨(by repeat (with_reducible first | exact HB.out | apply p3_ | apply p1_ | apply p2_))⟩, ⟨(by (with_reducible repeat (first | exact BK.out | refine k2_ ?_ _ | refine k3_ ?_ | refine k1_ ?_ _)))⟩, ⟨by rw [e2]; exact HN.out⟩⟩
     | true =>
      by_cases q1 : f1 = 2
      rotate_left
      ·have HN := am_ (hin.out.2 (fun h => by simp [q1] at h))
       have q1b : (f1 == 2) = false := by simpa using q1
       clear hin CFo q1
       go_wp2_with (first | (go_at_call 57; (with_reducible refine (CL.out _).mono ?_); rintro e w3 ⟨rfl, hb2⟩; have BX := am_ (kb_ (blk_new wr (.cells #[.int .i64 f0, .int .i64 f1, .string f2, .int .i64 f3, .string f4, .bool f5] 62)) hb2); replace BK := am_ (kb_ (k1_ BK.out (.cells #[.int .i64 f0, .int .i64 f1, .string f2, .int .i64 f3, .string f4, .bool f5] 62)) hb2); replace HB := am_ (bt_ (p3_ HB.out (.cells #[.int .i64 f0, .int .i64 f1, .string f2, .int .i64 f3, .string f4, .bool f5] 62)) hb2); clear hb2; have x1 := bc_ BX.out 1; have x2 := bc_ BX.out 2; have x4 := bc_ BX.out 4; have x5 := bc_ BX.out 5; have u0 := bc_ BK.out 0; have u1 := bc_ BK.out 1; have u2 := bc_ BK.out 2; have u3 := bc_ BK.out 3; have u4 := bc_ BK.out 4; have u5 := bc_ BK.out 5; have u6 := bc_ BK.out 6) | (go_at_call 34; (with_reducible refine (CFo.out _ (by repeat (with_reducible first | exact HB.out | apply p3_ | apply p1_ | apply p2_))).mono ?_); rintro e w4 ⟨rfl, hb2⟩; replace BK := am_ (kb_ (show _ from (by (with_reducible repeat (first | exact BK.out | refine k2_ ?_ _ | refine k3_ ?_ | refine k1_ ?_ _)))) hb2); replace HB := am_ (bt_ (show Below w.heap.size w _ from (by repeat (with_reducible first | exact HB.out | apply p3_ | apply p1_ | apply p2_))) hb2); clear hb2))
       go_roundg (l1.length - (j.toNat + 1))
       case measure => first | omega | (simp; omega)
       case rel =>
        have e2 : (j + 1).toNat = j.toNat + 1 := by omega
        exact ⟨j + 1, by omega, by omega, by go_num, ⟨(by repeat (with_reducible first | exact HB.out | apply p3_ | apply p1_ | apply p2_))⟩, ⟨(by (with_reducible repeat (first | exact BK.out | refine k2_ ?_ _ | refine k3_ ?_ | refine k1_ ?_ _)))⟩, ⟨by rw [e2]; exact HN.out⟩⟩
      subst q1
      cases f5 with
      | false =>
       have HN := am_ (hin.out.2 (fun h => by simp at h))
       clear hin CFo
       go_wp2_with (first | (go_at_call 57; (with_reducible refine (CL.out _).mono ?_); rintro e w3 ⟨rfl, hb2⟩; have BX := am_ (kb_ (blk_new wr (.cells #[.int .i64 f0, .int .i64 2, .string f2, .int .i64 f3, .string f4, .bool false] 62)) hb2); replace BK := am_ (kb_ (k1_ BK.out (.cells #[.int .i64 f0, .int .i64 2, .string f2, .int .i64 f3, .string f4, .bool false] 62)) hb2); replace HB := am_ (bt_ (p3_ HB.out (.cells #[.int .i64 f0, .int .i64 2, .string f2, .int .i64 f3, .string f4, .bool false] 62)) hb2); clear hb2; have x1 := bc_ BX.out 1; have x2 := bc_ BX.out 2; have x4 := bc_ BX.out 4; have x5 := bc_ BX.out 5; have u0 := bc_ BK.out 0; have u1 := bc_ BK.out 1; have u2 := bc_ BK.out 2; have u3 := bc_ BK.out 3; have u4 := bc_ BK.out 4; have u5 := bc_ BK.out 5; have u6 := bc_ BK.out 6) | (go_at_call 34; (with_reducible refine (CFo.out _ (by repeat (with_reducible first | exact HB.out | apply p3_ | apply p1_ | apply p2_))).mono ?_); rintro e w4 ⟨rfl, hb2⟩; replace BK := am_ (kb_ (show _ from (by (with_reducible repeat (first | exact BK.out | refine k2_ ?_ _ | refine k3_ ?_ | refine k1_ ?_ _)))) hb2); replace HB := am_ (bt_ (show Below w.heap.size w _ from (by repeat (with_reducible first | exact HB.out | apply p3_ | apply p1_ | apply p2_))) hb2); clear hb2))
       go_roundg (l1.length - (j.toNat + 1))
       case measure => first | omega | (simp; omega)
       case rel =>
        have e2 : (j + 1).toNat = j.toNat + 1 := by omega
        exact ⟨j + 1, by omega, by omega, by go_num, ⟨(by repeat (with_reducible first | exact HB.out | apply p3_ | apply p1_ | apply p2_))⟩, ⟨(by (with_reducible repeat (first | exact BK.out | refine k2_ ?_ _ | refine k3_ ?_ | refine k1_ ?_ _)))⟩, ⟨by rw [e2]; exact HN.out⟩⟩
      | true =>
       by_cases q2 : f2.toList = a3.toList
       ·have HN := am_ (hin.out.2 (fun h => by simp [q2] at h))
        clear hin CFo
        go_wp2_with (first | (go_at_call 57; (with_reducible refine (CL.out _).mono ?_); rintro e w3 ⟨rfl, hb2⟩; have BX := am_ (kb_ (blk_new wr (.cells #[.int .i64 f0, .int .i64 2, .string f2, .int .i64 f3, .string f4, .bool true] 62)) hb2); replace BK := am_ (kb_ (k1_ BK.out (.cells #[.int .i64 f0, .int .i64 2, .string f2, .int .i64 f3, .string f4, .bool true] 62)) hb2); replace HB := am_ (bt_ (p3_ HB.out (.cells #[.int .i64 f0, .int .i64 2, .string f2, .int .i64 f3, .string f4, .bool true] 62)) hb2); clear hb2; have x1 := bc_ BX.out 1; have x2 := bc_ BX.out 2; have x4 := bc_ BX.out 4; have x5 := bc_ BX.out 5; have u0 := bc_ BK.out 0; have u1 := bc_ BK.out 1; have u2 := bc_ BK.out 2; have u3 := bc_ BK.out 3; have u4 := bc_ BK.out 4; have u5 := bc_ BK.out 5; have u6 := bc_ BK.out 6) | (go_at_call 34; (with_reducible refine (CFo.out _ (by repeat (with_reducible first | exact HB.out | apply p3_ | apply p1_ | apply p2_))).mono ?_); rintro e w4 ⟨rfl, hb2⟩; replace BK := am_ (kb_ (show _ from (by (with_reducible repeat (first | exact BK.out | refine k2_ ?_ _ | refine k3_ ?_ | refine k1_ ?_ _)))) hb2); replace HB := am_ (bt_ (show Below w.heap.size w _ from (by repeat (with_reducible first | exact HB.out | apply p3_ | apply p1_ | apply p2_))) hb2); clear hb2))
        go_roundg (l1.length - (j.toNat + 1))
        case measure => first | omega | (simp; omega)
        case rel =>
         have e2 : (j + 1).toNat = j.toNat + 1 := by omega
         exact ⟨j + 1, by omega, by omega, by go_num, ⟨(by repeat (with_reducible first | exact HB.out | apply p3_ | apply p1_ | apply p2_))⟩, ⟨(by (with_reducible repeat (first | exact BK.out | refine k2_ ?_ _ | refine k3_ ?_ | refine k1_ ?_ _)))⟩, ⟨by rw [e2]; exact HN.out⟩⟩
       have q2b : (!f2.toList == a3.toList) = true := by simp [q2]
       by_cases q3 : FK.toList = F.toList
       ·have hf := am_ (show false = r1 by
         rw [← HR.out, eq_comm, decide_eq_false_iff_not, Classical.not_not, List.cons_append, List.mem_cons, List.mem_append]
         refine .inr (.inr (hin.out.1 ⟨by simp [q2], ?_⟩))
         rw [ByteArray.toList_eq, ByteArray.toList_eq] at q3
         exact q3)
        clear hin HR
        go_wp2_with (first | (go_at_call 57; (with_reducible refine (CL.out _).mono ?_); rintro e w3 ⟨rfl, hb2⟩; have BX := am_ (kb_ (blk_new wr (.cells #[.int .i64 f0, .int .i64 2, .string f2, .int .i64 f3, .string f4, .bool true] 62)) hb2); replace BK := am_ (kb_ (k1_ BK.out (.cells #[.int .i64 f0, .int .i64 2, .string f2, .int .i64 f3, .string f4, .bool true] 62)) hb2); replace HB := am_ (bt_ (p3_ HB.out (.cells #[.int .i64 f0, .int .i64 2, .string f2, .int .i64 f3, .string f4, .bool true] 62)) hb2); clear hb2; have x1 := bc_ BX.out 1; have x2 := bc_ BX.out 2; have x4 := bc_ BX.out 4; have x5 := bc_ BX.out 5; have u0 := bc_ BK.out 0; have u1 := bc_ BK.out 1; have u2 := bc_ BK.out 2; have u3 := bc_ BK.out 3; have u4 := bc_ BK.out 4; have u5 := bc_ BK.out 5; have u6 := bc_ BK.out 6) | (go_at_call 34; (with_reducible refine (CFo.out _ (by repeat (with_reducible first | exact HB.out | apply p3_ | apply p1_ | apply p2_))).mono ?_); rintro e w4 ⟨rfl, hb2⟩; replace BK := am_ (kb_ (show _ from (by (with_reducible repeat (first | exact BK.out | refine k2_ ?_ _ | refine k3_ ?_ | refine k1_ ?_ _)))) hb2); replace HB := am_ (bt_ (show Below w.heap.size w _ from (by repeat (with_reducible first | exact HB.out | apply p3_ | apply p1_ | apply p2_))) hb2); clear hb2))
        go_ret2
        exact ⟨by have e9 := hf.out; subst e9; rfl, (by repeat (with_reducible first | exact HB.out | apply p3_ | apply p1_ | apply p2_))⟩
       ·have HN := am_ (hin.out.2 (fun h => q3 (by rw [ByteArray.toList_eq, ByteArray.toList_eq]; exact h.2)))
        have q3b : (FK.toList == F.toList) = false := by simpa using q3
        clear hin
        go_wp2_with (first | (go_at_call 57; (with_reducible refine (CL.out _).mono ?_); rintro e w3 ⟨rfl, hb2⟩; have BX := am_ (kb_ (blk_new wr (.cells #[.int .i64 f0, .int .i64 2, .string f2, .int .i64 f3, .string f4, .bool true] 62)) hb2); replace BK := am_ (kb_ (k1_ BK.out (.cells #[.int .i64 f0, .int .i64 2, .string f2, .int .i64 f3, .string f4, .bool true] 62)) hb2); replace HB := am_ (bt_ (p3_ HB.out (.cells #[.int .i64 f0, .int .i64 2, .string f2, .int .i64 f3, .string f4, .bool true] 62)) hb2); clear hb2; have x1 := bc_ BX.out 1; have x2 := bc_ BX.out 2; have x4 := bc_ BX.out 4; have x5 := bc_ BX.out 5; have u0 := bc_ BK.out 0; have u1 := bc_ BK.out 1; have u2 := bc_ BK.out 2; have u3 := bc_ BK.out 3; have u4 := bc_ BK.out 4; have u5 := bc_ BK.out 5; have u6 := bc_ BK.out 6) | (go_at_call 34; (with_reducible refine (CFo.out _ (by repeat (with_reducible first | exact HB.out | apply p3_ | apply p1_ | apply p2_))).mono ?_); rintro e w4 ⟨rfl, hb2⟩; replace BK := am_ (kb_ (show _ from (by (with_reducible repeat (first | exact BK.out | refine k2_ ?_ _ | refine k3_ ?_ | refine k1_ ?_ _)))) hb2); replace HB := am_ (bt_ (show Below w.heap.size w _ from (by repeat (with_reducible first | exact HB.out | apply p3_ | apply p1_ | apply p2_))) hb2); clear hb2))
        go_roundg (l1.length - (j.toNat + 1))
        case measure => first | omega | (simp; omega)
        case rel =>
         have e2 : (j + 1).toNat = j.toNat + 1 := by omega
         exact ⟨j + 1, by omega, by omega, by go_num, ⟨(by repeat (with_reducible first | exact HB.out | apply p3_ | apply p1_ | apply p2_))⟩, ⟨(by (with_reducible repeat (first | exact BK.out | refine k2_ ?_ _ | refine k3_ ?_ | refine k1_ ?_ _)))⟩, ⟨by rw [e2]; exact HN.out⟩⟩
    ·have HE := am_ (show F.data.toList ∉ takenL (fullB a0_0 a0_1 l0_2 l0_3 a0_4 a0_5 l0_6) a3 a2 l1 by have h1 := HJ.out; rw [List.take_of_length_le (by omega)] at h1; exact h1)
     have e1 : r1 = true := by
      rw [← HR.out, decide_eq_true_eq, List.cons_append, List.mem_cons, List.mem_append]
      rintro (h | h | h)
      ·exact HQ0.out (by rw [ByteArray.toList_eq]; exact h)
      ·exact HT.out h
      ·exact HE.out h
     clear HR HE HT HJ
     subst e1
     go_wp2
     go_ret2
     exact ⟨rfl, (by repeat (with_reducible first | exact HB.out | apply p3_ | apply p1_ | apply p2_))⟩

/-! ### pinfoldlaw0_SameLeases: function 60 -/
def pinfoldlaw0_SameLeases.l0 : Nat → List (S62) → List (S62) → Int → Option (Bool)
 | 0, _, _, _ => none
 | k + 1, x0, x1, x5 => if x5 < (x0.length : Int) then (if 0 ≤ x5 then (if x5 < (x1.length : Int) then (if (!(((rd_T62 x0 x5).f0) == ((rd_T62 x1 x5).f0)) || (!(((rd_T62 x0 x5).f1) == ((rd_T62 x1 x5).f1)) || (!((((rd_T62 x0 x5).f2).toList) == (((rd_T62 x1 x5).f2).toList)) || (!(((rd_T62 x0 x5).f3) == ((rd_T62 x1 x5).f3)) || (!((((rd_T62 x0 x5).f4).toList) == (((rd_T62 x1 x5).f4).toList)) || (!(((rd_T62 x0 x5).f5) == ((rd_T62 x1 x5).f5)))))))) = true then (some false) else (pinfoldlaw0_SameLeases.l0 k x0 x1 (wrap64 (x5 + 1)))) else (none)) else (none)) else (some true)
def pinfoldlaw0_SameLeases.f (k : Nat) (l0 : List (S62)) (l1 : List (S62)) : Option (Bool) := if (l0.length : Int) = (l1.length : Int) then (pinfoldlaw0_SameLeases.l0 k l0 l1 0) else (some false)
theorem pinfoldlaw0_SameLeases.mono_l : ∀ k, (∀ y0 y1 y2, LeO (pinfoldlaw0_SameLeases.l0 k y0 y1 y2) (pinfoldlaw0_SameLeases.l0 (k + 1) y0 y1 y2))
 | 0 => fun _ _ _ r h => by simp [pinfoldlaw0_SameLeases.l0] at h
 | k + 1 => by
  have ih0 := pinfoldlaw0_SameLeases.mono_l k
  ·intro y0 y1 y2
   unfold pinfoldlaw0_SameLeases.l0
   repeat' first
   | (with_reducible exact ih0 _ _ _)
   | (with_reducible exact LeO.refl _)
   | (with_reducible exact LeO.none _)
   | (with_reducible refine LeO.ite ?_ ?_)
   | (with_reducible refine LeO.bind ?_ (fun _ => ?_))
   | exact ih0 _ _ _
   | exact LeO.none _
   | refine LeO.ite ?_ ?_
   | refine LeO.bind ?_ (fun _ => ?_)
theorem pinfoldlaw0_SameLeases.mono : ∀ a0 a1 k, LeO (pinfoldlaw0_SameLeases.f k a0 a1) (pinfoldlaw0_SameLeases.f (k + 1) a0 a1) := by
 intro a0 a1 k
 have ih0 := pinfoldlaw0_SameLeases.mono_l k
 unfold pinfoldlaw0_SameLeases.f
 repeat' first
   | (with_reducible exact ih0 _ _ _)
   | (with_reducible exact LeO.refl _)
   | (with_reducible exact LeO.none _)
   | (with_reducible refine LeO.ite ?_ ?_)
   | (with_reducible refine LeO.bind ?_ (fun _ => ?_))
   | exact ih0 _ _ _
   | exact LeO.none _
   | refine LeO.ite ?_ ?_
   | refine LeO.bind ?_ (fun _ => ?_)
set_option maxHeartbeats 8000000 in
set_option maxRecDepth 100000 in
theorem pinfoldlaw0_SameLeases.calls (k : Nat) (A0 : Option Addr) (c0 : Nat) (l0 : List (S62)) (A1 : Option Addr) (c1 : Nat) (l1 : List (S62)) (r : Bool) (w : World) (hr0 : Kd.C k62 w A0 l0.length l0) (hc0 : l0.length ≤ c0) (hr1 : Kd.C k62 w A1 l1.length l1) (hc1 : l1.length ≤ c1) (h : pinfoldlaw0_SameLeases.f k l0 l1 = some r) :
  Calls Tryd.prog 60 #[.slice A0 l0.length c0, .slice A1 l1.length c1] w fun e w' => e = .returned (.bool r) ∧ Drawn0 w w' := by
 have hu62 := Tryd.underlying62
 have HR0 := am_ hr0
 have HC0 := am_ hc0
 clear hr0 hc0
 have HR1 := am_ hr1
 have HC1 := am_ hc1
 clear hr1 hc1
 have H : (if (l0.length : Int) = (l1.length : Int) then (pinfoldlaw0_SameLeases.l0 k l0 l1 0) else (some false)) = some r := h
 clear h
 by_cases c3 : (l0.length : Int) = (l1.length : Int)
 ·rw [if_pos c3] at H
  have c3b0 : ((l0.length : Int) == (l1.length : Int)) = true := beq_iff_eq.mpr c3
  have c3b1 : ((l0.length : Int) != (l1.length : Int)) = false := e1_ c3
  have c3b2 : (l0.length == l1.length) = true := by first | simpa using c3 | (simp at c3 ⊢; omega)
  clear c3
  have H' := am_ H
  clear H
  go_enter Tryd.func60, Tryd.ntmps60
  go_wp2
  repeat (go_quiet (fail); try go_wp2)
  go_loopg [5] k (fun kq v5 w' => ∃ (x5_1 : Int), v5 = .int .i64 x5_1 ∧ Aside0 (pinfoldlaw0_SameLeases.l0 kq l0 l1 x5_1 = some r) ∧ Aside0 (kq ≤ k) ∧ Drawn0 w w')
  case atStart => exact ⟨(0), (by first | rfl | (simp; done) | (simp [*]; done)), H', ⟨Nat.le_refl _⟩, by repeat (first | exact Drawn0.refl _ | apply Drawn0.step)⟩
  case round =>
   clear H'
   (try clear c1); (try clear c3); (try clear c3b0); (try clear c3b1); (try clear c3b2)
   obtain ⟨x5_1, rfl, HA, HK1, ⟨m1, rfl⟩⟩ := hrel
   cases gk with
   | zero => exact absurd HA.out (by simp [pinfoldlaw0_SameLeases.l0])
   | succ k1 =>
    have H := HA.out
    clear HA
    simp only [pinfoldlaw0_SameLeases.l0] at H
    by_cases c4 : x5_1 < (l0.length : Int)
    ·rw [if_pos c4] at H
     have c4b0 : decide (x5_1 < (l0.length : Int)) = true := decide_eq_true c4
     clear c4
     by_cases c5 : 0 ≤ x5_1
     rotate_left
     ·rw [if_neg c5] at H
      exact absurd H (by simp)
     rw [if_pos c5] at H
     have c5b0 : decide (0 ≤ x5_1) = true := decide_eq_true c5
     clear c5
     by_cases c6 : x5_1 < (l1.length : Int)
     rotate_left
     ·rw [if_neg c6] at H
      exact absurd H (by simp)
     rw [if_pos c6] at H
     have c6b0 : decide (x5_1 < (l1.length : Int)) = true := decide_eq_true c6
     clear c6
     by_cases c7 : (!(((rd_T62 l0 x5_1).f0) == ((rd_T62 l1 x5_1).f0)) || (!(((rd_T62 l0 x5_1).f1) == ((rd_T62 l1 x5_1).f1)) || (!((((rd_T62 l0 x5_1).f2).toList) == (((rd_T62 l1 x5_1).f2).toList)) || (!(((rd_T62 l0 x5_1).f3) == ((rd_T62 l1 x5_1).f3)) || (!((((rd_T62 l0 x5_1).f4).toList) == (((rd_T62 l1 x5_1).f4).toList)) || (!(((rd_T62 l0 x5_1).f5) == ((rd_T62 l1 x5_1).f5)))))))) = true
     ·rw [if_pos c7] at H
      have c7b0 : (!(((rd_T62 l0 x5_1).f0) == ((rd_T62 l1 x5_1).f0)) || (!(((rd_T62 l0 x5_1).f1) == ((rd_T62 l1 x5_1).f1)) || (!((((rd_T62 l0 x5_1).f2).toList) == (((rd_T62 l1 x5_1).f2).toList)) || (!(((rd_T62 l0 x5_1).f3) == ((rd_T62 l1 x5_1).f3)) || (!((((rd_T62 l0 x5_1).f4).toList) == (((rd_T62 l1 x5_1).f4).toList)) || (!(((rd_T62 l0 x5_1).f5) == ((rd_T62 l1 x5_1).f5)))))))) = true := c7
      clear c7
      obtain rfl := e5_ H
      have p196 : 0 ≤ (x5_1 : Int) := of_decide_eq_true (by first | (with_reducible assumption) | assumption)
      have q196 : x5_1 < (l0.length : Int) := of_decide_eq_true (by first | (with_reducible assumption) | assumption)
      obtain ⟨ad196, e196, hx196_0, hx196_1, hx196_2, hx196_3, hx196_4, hx196_5⟩ := at_T62 HR0.out x5_1 p196 q196
      cases e196
      replace p196 := eq_true p196
      replace q196 := eq_true q196
      have p197 : 0 ≤ (x5_1 : Int) := of_decide_eq_true (by first | (with_reducible assumption) | assumption)
      have q197 : x5_1 < (l1.length : Int) := of_decide_eq_true (by first | (with_reducible assumption) | assumption)
      obtain ⟨ad197, e197, hx197_0, hx197_1, hx197_2, hx197_3, hx197_4, hx197_5⟩ := at_T62 HR1.out x5_1 p197 q197
      cases e197
      replace p197 := eq_true p197
      replace q197 := eq_true q197
      go_wp2
      repeat (go_quiet (fail); try go_wp2)
      go_ret
      exact ⟨by first | rfl | (simp; done) | (simp [*]; done), by repeat (first | exact Drawn0.refl _ | apply Drawn0.step)⟩
     rw [if_neg c7] at H
     have c7b0 : (!(((rd_T62 l0 x5_1).f0) == ((rd_T62 l1 x5_1).f0)) || (!(((rd_T62 l0 x5_1).f1) == ((rd_T62 l1 x5_1).f1)) || (!((((rd_T62 l0 x5_1).f2).toList) == (((rd_T62 l1 x5_1).f2).toList)) || (!(((rd_T62 l0 x5_1).f3) == ((rd_T62 l1 x5_1).f3)) || (!((((rd_T62 l0 x5_1).f4).toList) == (((rd_T62 l1 x5_1).f4).toList)) || (!(((rd_T62 l0 x5_1).f5) == ((rd_T62 l1 x5_1).f5)))))))) = false := by simpa using c7
     clear c7
     have H' := am_ H
     clear H
     have p196 : 0 ≤ (x5_1 : Int) := of_decide_eq_true (by first | (with_reducible assumption) | assumption)
     have q196 : x5_1 < (l0.length : Int) := of_decide_eq_true (by first | (with_reducible assumption) | assumption)
     obtain ⟨ad196, e196, hx196_0, hx196_1, hx196_2, hx196_3, hx196_4, hx196_5⟩ := at_T62 HR0.out x5_1 p196 q196
     cases e196
     replace p196 := eq_true p196
     replace q196 := eq_true q196
     have p197 : 0 ≤ (x5_1 : Int) := of_decide_eq_true (by first | (with_reducible assumption) | assumption)
     have q197 : x5_1 < (l1.length : Int) := of_decide_eq_true (by first | (with_reducible assumption) | assumption)
     obtain ⟨ad197, e197, hx197_0, hx197_1, hx197_2, hx197_3, hx197_4, hx197_5⟩ := at_T62 HR1.out x5_1 p197 q197
     cases e197
     replace p197 := eq_true p197
     replace q197 := eq_true q197
     go_wp2
     repeat (go_quiet (fail); try go_wp2)
     go_roundg k1
     case measure => have := HK1.out; omega
     case rel => exact ⟨(wrap64 (x5_1 + 1)), (by first | rfl | (simp; done) | (simp [*]; done)), H', ⟨by have := HK1.out; omega⟩, by repeat (first | exact Drawn0.refl _ | apply Drawn0.step)⟩
    rw [if_neg c4] at H
    have c4b0 : decide (x5_1 < (l0.length : Int)) = false := decide_eq_false c4
    clear c4
    obtain rfl := e5_ H
    go_wp2
    repeat (go_quiet (fail); try go_wp2)
    go_ret
    exact ⟨by first | rfl | (simp; done) | (simp [*]; done), by repeat (first | exact Drawn0.refl _ | apply Drawn0.step)⟩
 rw [if_neg c3] at H
 have c3b0 : ((l0.length : Int) == (l1.length : Int)) = false := e2_ c3
 have c3b1 : ((l0.length : Int) != (l1.length : Int)) = true := bne_iff_ne.mpr c3
 have c3b2 : (l0.length == l1.length) = false := by first | simpa using c3 | (simp at c3 ⊢; omega)
 obtain rfl := e5_ H
 go_enter Tryd.func60, Tryd.ntmps60
 go_wp2
 repeat (go_quiet (fail); try go_wp2)
 go_ret
 exact ⟨by first | rfl | (simp; done) | (simp [*]; done), by repeat (first | exact Drawn0.refl _ | apply Drawn0.step)⟩

/-! ### pinfoldlaw0_KeptLeases: function 35 -/
-- BY HAND
-- what was lent stands as it was, with the two leases behind its end: asked of a row that LendLeases made.
def pinfoldlaw0_KeptLeases.f (k : Nat) (l0 : List (S62)) (l1 : List (S62)) : Option (Bool) := if l0.length + 2 < 2199023255552 then pinfoldlaw0_SameLeases.f k l0 l1 else none
theorem pinfoldlaw0_KeptLeases.mono : ∀ a0 a1 k, LeO (pinfoldlaw0_KeptLeases.f k a0 a1) (pinfoldlaw0_KeptLeases.f (k + 1) a0 a1) := by
 intro a0 a1 k
 unfold pinfoldlaw0_KeptLeases.f
 refine LeO.ite ?_ (LeO.none _)
 exact pinfoldlaw0_SameLeases.mono _ _ _
theorem pinfoldlaw0_KeptLeases.long (k : Nat) (l0 l1 : List S62) (h : pinfoldlaw0_SameLeases.f k l0 l1 = some true) : l1.length = l0.length := by
 unfold pinfoldlaw0_SameLeases.f at h
 by_cases e : (l0.length : Int) = (l1.length : Int)
 ·omega
 ·rw [if_neg e] at h
  exact absurd h (by simp)
theorem pinfoldlaw0_KeptLeases.cut_cap (t e : TypeId) (kh : IntKind) {i : TypeInfo} (ht : Tryd.prog.underlying t = some (.slice e)) (hi : Tryd.prog.info? e = some i) (A : Option Addr) (n c : Nat) (j : Int) (h0 : 0 ≤ j) (hc : j ≤ c) :
  ∀ W : World, (Instr.slice t (.slice A n c) none (some (.int kh j)) none).run Tryd.prog W = .ok (.slice A j.toNat c) W := by
 intro W
 have hel : Tryd.prog.elem t = e := by simp [Program.elem, ht]
 have hu : Tryd.prog.underlying t = some (.slice (Tryd.prog.elem t)) := by rw [hel]; exact ht
 have ha : (A.map fun x => x.add 0) = A := by cases A <;> simp [Addr.add]
 rw [run_slice_h W t A n c hu kh j h0 (by omega), hel]
 simp [sizeOf, typeInfo, hi, sliced, Result.andThen, ha]
set_option maxHeartbeats 8000000 in
set_option maxRecDepth 100000 in
theorem pinfoldlaw0_KeptLeases.calls (k : Nat) (A0 : Option Addr) (c0 : Nat) (l0 : List (S62)) (A1 : Option Addr) (c1 : Nat) (l1 : List (S62)) (r : Bool) (w : World) (hr0 : Kd.C k62 w A0 (pinfoldlaw0_LendLeases.full l0).length (pinfoldlaw0_LendLeases.full l0)) (hc0 : (pinfoldlaw0_LendLeases.full l0).length ≤ c0) (hr1 : Kd.C k62 w A1 l1.length l1) (hc1 : l1.length ≤ c1) (h : pinfoldlaw0_KeptLeases.f k l0 l1 = some r) :
  Calls Tryd.prog 35 #[.slice A0 l0.length c0, .slice A1 l1.length c1] w fun e w' => e = .returned (.bool r) ∧ Drawn0 w w' := by
 have hu := Tryd.underlying62
 unfold pinfoldlaw0_KeptLeases.f at h
 by_cases hlim : l0.length + 2 < 2199023255552
 rotate_left
 ·rw [if_neg hlim] at h
  exact absurd h (by simp)
 rw [if_pos hlim] at h
 have hfl := pinfoldlaw0_LendLeases.full_length l0
 have hpre := pinfoldlaw0_LendLeases.front hr0
 have hpc : l0.length ≤ c0 := by omega
 have hx0 : rd_T62 (pinfoldlaw0_LendLeases.full l0) (l0.length : Int) = (⟨77777, 0, (⟨#[]⟩ : ByteArray), 0, (⟨#[]⟩ : ByteArray), false⟩ : S62) := by
  unfold rd_T62 pinfoldlaw0_LendLeases.full
  rw [Int.toNat_natCast, List.getD_eq_getElem?_getD, List.getElem?_append_right (Nat.le_refl _), Nat.sub_self]
  rfl
 have hx1 : rd_T62 (pinfoldlaw0_LendLeases.full l0) ((l0.length : Int) + 1) = (⟨77777, 0, (⟨#[]⟩ : ByteArray), 0, (⟨#[]⟩ : ByteArray), false⟩ : S62) := by
  unfold rd_T62 pinfoldlaw0_LendLeases.full
  rw [show ((l0.length : Int) + 1).toNat = l0.length + 1 by omega, List.getD_eq_getElem?_getD, List.getElem?_append_right (by omega), show l0.length + 1 - l0.length = 1 by omega]
  rfl
 obtain ⟨ji3, hji3⟩ : ∃ j_ : Int, (wrap64 ((l0.length : Int) + 2)) = j_ := ⟨_, rfl⟩
 have ej : ji3 = (l0.length : Int) + 2 := by
  rw [← hji3]
  unfold wrap64
  omega
 have hji3w : (IntKind.i64.wrap ((l0.length : Int) + 2)) = ji3 := (i64_w _).trans hji3
 generalize hy197 : pinfoldlaw0_LendLeases.full l0 = y197 at hr0 hc0 hfl hx0 hx1
 have HR0 := am_ hpre
 have HC0 := am_ hpc
 have HR200 := am_ hr0
 have HC200 := am_ hc0
 have HR1 := am_ hr1
 have HC1 := am_ hc1
 have A6 : Aside0 (pinfoldlaw0_SameLeases.f k l0 l1 = some r) := am_ h
 have NY := am_ hy197
 have HP0 := am_ hx0
 have HP1 := am_ hx1
 have HFL := am_ hfl
 have HLI := am_ hlim
 clear h hr1 hc1 hpre hy197 hx0 hx1 hlim
 have c4b0 := eq_true (show 0 ≤ ji3 by omega)
 have c4b1 : decide (0 ≤ (ji3)) = true := decide_eq_true (by omega)
 obtain ⟨i014, hi014, _, hsz14, _⟩ := info_parts info62
 have hcutN := pinfoldlaw0_KeptLeases.cut_cap 52 62 .i64 Tryd.underlying52 hi014 A0 l0.length c0 (ji3) (by omega) (by omega)
 rw [show ji3.toNat = y197.length by omega] at hcutN
 clear hr0 hc0 hpc hi014 hsz14
 have EJ := am_ ej
 clear ej hfl
 by_cases c7 : r = true
 ·subst c7
  have hnil : ((⟨#[]⟩ : ByteArray).toList) = ([] : List UInt8) := by rw [ByteArray.toList_eq]
  have hll := pinfoldlaw0_KeptLeases.long k l0 l1 A6.out
  have c8b0 : decide (0 ≤ (l1.length : Int)) = true := decide_eq_true (by omega)
  have c8b1 : decide (0 ≤ l1.length) = true := decide_eq_true (by omega)
  have c9b0 : decide ((l1.length : Int) < (y197.length : Int)) = true := decide_eq_true (by have := HFL.out; omega)
  have c9b1 : decide (l1.length < y197.length) = true := decide_eq_true (by have := HFL.out; omega)
  have hp0 := HP0.out
  have hp1 := HP1.out
  rw [← hll] at hp0 hp1
  have c10b0 : (((rd_T62 y197 (l1.length : Int)).f0) == 77777 && (((rd_T62 y197 (l1.length : Int)).f1) == 0 && ((((rd_T62 y197 (l1.length : Int)).f2).toList) == ([] : List UInt8) && (((rd_T62 y197 (l1.length : Int)).f3) == 0 && ((((rd_T62 y197 (l1.length : Int)).f4).toList) == ([] : List UInt8) && (!((rd_T62 y197 (l1.length : Int)).f5))))))) = true := by
   rw [hp0]
   dsimp only
   rw [hnil]
   rfl
  obtain ⟨ji11, hji11⟩ : ∃ j_ : Int, (wrap64 ((l1.length : Int) + 1)) = j_ := ⟨_, rfl⟩
  have ej11 : ji11 = (l1.length : Int) + 1 := by
   rw [← hji11]
   have := HLI.out
   unfold wrap64
   omega
  have hji11w : (IntKind.i64.wrap ((l1.length : Int) + 1)) = ji11 := (i64_w _).trans hji11
  have c12b0 : decide (0 ≤ (ji11)) = true := decide_eq_true (by omega)
  have c13b0 : decide ((ji11) < (y197.length : Int)) = true := decide_eq_true (by have := HFL.out; omega)
  have c14b0 : (((rd_T62 y197 (ji11)).f0) == 77777 && (((rd_T62 y197 (ji11)).f1) == 0 && ((((rd_T62 y197 (ji11)).f2).toList) == ([] : List UInt8) && (((rd_T62 y197 (ji11)).f3) == 0 && ((((rd_T62 y197 (ji11)).f4).toList) == ([] : List UInt8) && (!((rd_T62 y197 (ji11)).f5))))))) = true := by
   rw [ej11, hp1]
   dsimp only
   rw [hnil]
   rfl
  have EJ11 := am_ ej11
  clear ej11 hp0 hp1 hnil
  have HLL := am_ hll
  clear hll
  go_enter Tryd.func35, Tryd.ntmps35
  go_wp2_with (first | ((with_reducible refine gate_callee (f := 60) rfl ?_); refine goesL_ (some 13) rfl rfl Tryd.func60 (by kernel_rfl) rfl #[.slice A0 l0.length c0, .slice A1 l1.length c1] rfl (by (try simp only [List.map_toArray, List.map_cons, List.map_nil]); first | done | rfl | (simp only [List.length_drop, List.length_take]; rfl)) ?_; (with_reducible refine (pinfoldlaw0_SameLeases.calls k _ _ l0 _ _ l1 true _ ?side1 ?side2 ?side3 ?side4 A6.out).mono ?_); (case side1 => repeat (first | exact HR0.out | (with_reducible refine c1_ ?_ _) | (with_reducible refine c2_ ?_ _) | (with_reducible refine c3_ ?_))); (case side2 => exact HC0.out); (case side3 => repeat (first | exact HR1.out | (with_reducible refine c1_ ?_ _) | (with_reducible refine c2_ ?_ _) | (with_reducible refine c3_ ?_))); (case side4 => exact HC1.out); rintro e w' ⟨rfl, ⟨nd, rfl⟩⟩; refine ⟨_, rfl, ?_⟩; have p202 : 0 ≤ ((l1.length : Int) : Int) := of_decide_eq_true (by first | (with_reducible assumption) | assumption); have q202 : (l1.length : Int) < (y197.length : Int) := of_decide_eq_true (by first | (with_reducible assumption) | assumption); obtain ⟨ad202, e202, hx202_0, hx202_1, hx202_2, hx202_3, hx202_4, hx202_5⟩ := at_T62 HR200.out (l1.length : Int) p202 q202; cases e202; (try simp only [Go.IntWalk.toNatUp] at hx202_0); (try simp only [Go.IntWalk.toNatUp] at hx202_1); (try simp only [Go.IntWalk.toNatUp] at hx202_2); (try simp only [Go.IntWalk.toNatUp] at hx202_3); (try simp only [Go.IntWalk.toNatUp] at hx202_4); (try simp only [Go.IntWalk.toNatUp] at hx202_5); replace p202 := eq_true p202; replace q202 := eq_true q202; have p203 : 0 ≤ ((ji11) : Int) := of_decide_eq_true (by first | (with_reducible assumption) | assumption); have q203 : (ji11) < (y197.length : Int) := of_decide_eq_true (by first | (with_reducible assumption) | assumption); obtain ⟨ad203, e203, hx203_0, hx203_1, hx203_2, hx203_3, hx203_4, hx203_5⟩ := at_T62 HR200.out (ji11) p203 q203; obtain rfl : ad202 = ad203 := (by injection e203); replace p203 := eq_true p203; replace q203 := eq_true q203))
  go_ret
  exact ⟨by first | rfl | (simp; done) | (simp; simpa using c14b0) | (simp [*]; done), by repeat (first | exact Drawn0.refl _ | apply Drawn0.step)⟩
  all_goals (rename_i h_; exact absurd (by simpa using c10b0) h_)
 replace c7 := e3_ c7
 subst c7
 go_enter Tryd.func35, Tryd.ntmps35
 go_wp2_with (first | ((with_reducible refine gate_callee (f := 60) rfl ?_); refine goesL_ (some 13) rfl rfl Tryd.func60 (by kernel_rfl) rfl #[.slice A0 l0.length c0, .slice A1 l1.length c1] rfl (by (try simp only [List.map_toArray, List.map_cons, List.map_nil]); first | done | rfl | (simp only [List.length_drop, List.length_take]; rfl)) ?_; (with_reducible refine (pinfoldlaw0_SameLeases.calls k _ _ l0 _ _ l1 false _ ?side1 ?side2 ?side3 ?side4 A6.out).mono ?_); (case side1 => repeat (first | exact HR0.out | (with_reducible refine c1_ ?_ _) | (with_reducible refine c2_ ?_ _) | (with_reducible refine c3_ ?_))); (case side2 => exact HC0.out); (case side3 => repeat (first | exact HR1.out | (with_reducible refine c1_ ?_ _) | (with_reducible refine c2_ ?_ _) | (with_reducible refine c3_ ?_))); (case side4 => exact HC1.out); rintro e w' ⟨rfl, ⟨nd, rfl⟩⟩; refine ⟨_, rfl, ?_⟩))
 go_ret
 exact ⟨by first | rfl | (simp; done) | (simp only [← hji3] <;> (first | rfl | simp)) | (simp [*]; done), by repeat (first | exact Drawn0.refl _ | apply Drawn0.step)⟩

/-! ### pinfoldlaw16_given: function 37 -/
def pinfoldlaw16_given.f  : Option (Int × Int × List Int × (List (S47)) × Int × ByteArray × (List (S49))) := some (10, 13, (([12] : List Int)), (([(⟨(⟨#[118, 105, 112]⟩ : ByteArray), 13⟩ : S47)] : List (S47))), 100, (⟨#[108, 97, 110]⟩ : ByteArray), (([(⟨(⟨#[119, 119, 119, 46, 108, 97, 110]⟩ : ByteArray), 1, 5, 7, (⟨#[]⟩ : ByteArray), (⟨#[]⟩ : ByteArray), 0⟩ : S49)] : List (S49))))
set_option maxHeartbeats 8000000 in
set_option maxRecDepth 100000 in
theorem pinfoldlaw16_given.calls  (r1 : Int) (r2 : Int) (r3 : List Int) (r4 : List (S47)) (r5 : Int) (r6 : ByteArray) (r7 : List (S49)) (w : World) (h : pinfoldlaw16_given.f  = some (r1, r2, r3, r4, r5, r6, r7)) :
  Calls Tryd.prog 37 #[] w fun e w' => ∃ v2_ v3_ v6_ : Value, e = .returned (.agg #[.int .i64 r1, .int .i64 r2, v2_, v3_, .int .i64 r5, .string r6, v6_]) ∧ Kd.R (Kd.int .i64) 3 w' w.heap.size (fun _ => True) v2_ r3 ∧ Kd.R k47 47 w' w.heap.size (fun _ => True) v3_ r4 ∧ Kd.R k49 49 w' w.heap.size (fun _ => True) v6_ r7 ∧ Below w.heap.size w w' := by
 have hu26 := Tryd.underlying26
 have hu47 := Tryd.underlying47
 have hu49 := Tryd.underlying49
 have HB := am_ (Below.refl w.heap.size w)
 have H : (some (10, 13, (([12] : List Int)), (([(⟨(⟨#[118, 105, 112]⟩ : ByteArray), 13⟩ : S47)] : List (S47))), 100, (⟨#[108, 97, 110]⟩ : ByteArray), (([(⟨(⟨#[119, 119, 119, 46, 108, 97, 110]⟩ : ByteArray), 1, 5, 7, (⟨#[]⟩ : ByteArray), (⟨#[]⟩ : ByteArray), 0⟩ : S49)] : List (S49))))) = some (r1, r2, r3, r4, r5, r6, r7) := h
 clear h
 obtain ⟨y199, hy199⟩ : ∃ y_ : List Int, y_ = (([12] : List Int)) := ⟨_, rfl⟩
 replace H : (some (10, 13, y199, (([(⟨(⟨#[118, 105, 112]⟩ : ByteArray), 13⟩ : S47)] : List (S47))), 100, (⟨#[108, 97, 110]⟩ : ByteArray), (([(⟨(⟨#[119, 119, 119, 46, 108, 97, 110]⟩ : ByteArray), 1, 5, 7, (⟨#[]⟩ : ByteArray), (⟨#[]⟩ : ByteArray), 0⟩ : S49)] : List (S49))))) = some (r1, r2, r3, r4, r5, r6, r7) := by first | (rw [hy199]; with_reducible exact H) | (have H2_ := (Option.bind_some _ _).symm.trans H; rw [hy199]; with_reducible exact H2_) | (have H2_ := (Option.bind_some _ _).symm.trans H; with_reducible exact H2_) | with_reducible exact H | (rw [hy199]; exact H) | exact H
 have Ny199 := am_ hy199
 clear hy199
 obtain ⟨y202, hy202⟩ : ∃ y_ : List (S47), y_ = (([(⟨(⟨#[118, 105, 112]⟩ : ByteArray), 13⟩ : S47)] : List (S47))) := ⟨_, rfl⟩
 replace H : (some (10, 13, y199, y202, 100, (⟨#[108, 97, 110]⟩ : ByteArray), (([(⟨(⟨#[119, 119, 119, 46, 108, 97, 110]⟩ : ByteArray), 1, 5, 7, (⟨#[]⟩ : ByteArray), (⟨#[]⟩ : ByteArray), 0⟩ : S49)] : List (S49))))) = some (r1, r2, r3, r4, r5, r6, r7) := by first | (rw [hy202]; with_reducible exact H) | (have H2_ := (Option.bind_some _ _).symm.trans H; rw [hy202]; with_reducible exact H2_) | (have H2_ := (Option.bind_some _ _).symm.trans H; with_reducible exact H2_) | with_reducible exact H | (rw [hy202]; exact H) | exact H
 have Ny202 := am_ hy202
 clear hy202
 obtain ⟨y205, hy205⟩ : ∃ y_ : List (S49), y_ = (([(⟨(⟨#[119, 119, 119, 46, 108, 97, 110]⟩ : ByteArray), 1, 5, 7, (⟨#[]⟩ : ByteArray), (⟨#[]⟩ : ByteArray), 0⟩ : S49)] : List (S49))) := ⟨_, rfl⟩
 replace H : (some (10, 13, y199, y202, 100, (⟨#[108, 97, 110]⟩ : ByteArray), y205)) = some (r1, r2, r3, r4, r5, r6, r7) := by first | (rw [hy205]; with_reducible exact H) | (have H2_ := (Option.bind_some _ _).symm.trans H; rw [hy205]; with_reducible exact H2_) | (have H2_ := (Option.bind_some _ _).symm.trans H; with_reducible exact H2_) | with_reducible exact H | (rw [hy205]; exact H) | exact H
 have Ny205 := am_ hy205
 clear hy205
 simp only [Option.some.injEq, Prod.mk.injEq] at H
 obtain ⟨rfl, rfl, rfl, rfl, rfl, rfl, rfl⟩ := H
 go_enter Tryd.func37, Tryd.ntmps37
 go_wp2_with (first | ((with_reducible refine gate_dst (N := 0) rfl ?_); refine box_event ?hg (N := 0) ?hd (cs := #[.int .i64 0, .int .i64 0, .slice none 0 0, .slice none 0 0, .int .i64 0, .string (⟨#[]⟩ : ByteArray), .slice none 0 0]) (t := 26) ?hr ?_; (case hd => rfl); (case hg => rfl); (case hr => first | (go_simp; done) | (go_simp; rfl)); intro gb198 hg w1 hbox hb; have n0_ := am_ (bt_ (by repeat (with_reducible first | exact HB.out | apply p3_ | apply p1_ | apply p2_)) hb); have n1_ := am_ (hbox); have n2_ := am_ ((by rw [hg]; exact (bz_ (by repeat (with_reducible first | exact HB.out | apply p3_ | apply p1_ | apply p2_))) : w.heap.size ≤ gb198)); have n3_ := am_ ((by rw [hg]; exact (bz_ (by repeat (with_reducible first | exact HB.out | apply p3_ | apply p1_ | apply p2_))) : w.heap.size ≤ gb198)); clear HB; have HB := n0_; have BK198 := n1_; have GW198 := n2_; have GE198 := n3_; clear n0_ n1_ n2_ n3_; clear hb hbox hg) | ((with_reducible refine gate_dst (N := 1) rfl ?_); refine Kd.R_lit (Kd.int .i64) _ 3 ?hg (N := 1) ?hd (xs := ([12] : List Int)) (inner := [.int .i64 12]) (ok := fun _ => True) (okp := fun _ => True) ?hr ?hp (fun _ hk => hk) trivial (Below.refl _ _) (Nat.le_refl _) (by simp) ?_; (case hd => rfl); (case hg => rfl); (case hr => first | (go_simp; done) | (go_simp; rfl)); (case hp => exact (Reps.one (show Kd.M (Kd.int .i64) _ _ _ 12 [.int .i64 12] from rfl) (Reps.none _ _))); intro v200 w2 ho3 hb hg_ hnew_; clear hg_ hnew_; (first | rw [← Ny199.out] at ho3 | (simp only [Int.reduceToNat] at ho3; rw [← Ny199.out] at ho3)); have n0_ := am_ (Kd.R_lower ho3 (bz_ (by repeat (with_reducible first | exact HB.out | apply p3_ | apply p1_ | apply p2_ | refine bs_ ?_ GE198.out)))); have n1_ := am_ (kb_ (g := gb198) (o := .cells #[.int .i64 0, .int .i64 0, .slice none 0 0, .slice none 0 0, .int .i64 0, .string (⟨#[]⟩ : ByteArray), .slice none 0 0] 26 (0, 0)) (by (with_reducible repeat (first | refine k2_ ?_ _ | refine k3_ ?_ | refine k1_ ?_ _)); exact BK198.out) hb); have n2_ := am_ (bt_ (by repeat (with_reducible first | exact HB.out | apply p3_ | apply p1_ | apply p2_ | refine bs_ ?_ GE198.out)) hb); clear BK198; clear HB; have HO201 := n0_; have BK198 := n1_; have HB := n2_; clear n0_ n1_ n2_; clear hb ho3) | ((with_reducible refine gate_dst (N := 3) rfl ?_); refine Kd.R_lit k47 _ 47 ?hg (N := 3) ?hd (xs := ([(⟨(⟨#[118, 105, 112]⟩ : ByteArray), 13⟩ : S47)] : List (S47))) (inner := [.string (⟨#[118, 105, 112]⟩ : ByteArray), .int .i64 13]) (ok := fun _ => True) (okp := fun _ => True) ?hr ?hp (fun _ hk => hk) trivial (Below.refl _ _) (Nat.le_refl _) (by simp) ?_; (case hd => rfl); (case hg => rfl); (case hr => first | (go_simp; done) | (go_simp; rfl)); (case hp => exact (Reps.c2 (show Kd.M k47 _ _ _ (⟨(⟨#[118, 105, 112]⟩ : ByteArray), 13⟩ : S47) [.string (⟨#[118, 105, 112]⟩ : ByteArray), .int .i64 13] from (k47_mkM _ _ _ (⟨(⟨#[118, 105, 112]⟩ : ByteArray), 13⟩ : S47) )) (Reps.none _ _))); intro v203 w4 ho5 hb hg_ hnew_; clear hg_ hnew_; (first | rw [← Ny202.out] at ho5 | (simp only [Int.reduceToNat] at ho5; rw [← Ny202.out] at ho5)); have n0_ := am_ (Kd.R_below (by (with_reducible repeat (first | apply r1_ | apply r2_ | apply r3_)); exact HO201.out) hb); have n1_ := am_ (Kd.R_lower ho5 (bz_ (by repeat (with_reducible first | exact HB.out | apply p3_ | apply p1_ | apply p2_ | refine bs_ ?_ GE198.out)))); have n2_ := am_ (kb_ (g := gb198) (o := .cells #[.int .i64 0, .int .i64 0, .slice none 0 0, .slice none 0 0, .int .i64 0, .string (⟨#[]⟩ : ByteArray), .slice none 0 0] 26 (0, 0)) (by (with_reducible repeat (first | refine k2_ ?_ _ | refine k3_ ?_ | refine k1_ ?_ _)); exact BK198.out) hb); have n3_ := am_ (bt_ (by repeat (with_reducible first | exact HB.out | apply p3_ | apply p1_ | apply p2_ | refine bs_ ?_ GE198.out)) hb); clear HO201; clear BK198; clear HB; have HO201 := n0_; have HO204 := n1_; have BK198 := n2_; have HB := n3_; clear n0_ n1_ n2_ n3_; clear hb ho5) | ((with_reducible refine gate_dst (N := 5) rfl ?_); refine Kd.R_lit k49 _ 49 ?hg (N := 5) ?hd (xs := ([(⟨(⟨#[119, 119, 119, 46, 108, 97, 110]⟩ : ByteArray), 1, 5, 7, (⟨#[]⟩ : ByteArray), (⟨#[]⟩ : ByteArray), 0⟩ : S49)] : List (S49))) (inner := [.string (⟨#[119, 119, 119, 46, 108, 97, 110]⟩ : ByteArray), .int .i64 1, .int .i64 5, .int .i64 7, .string (⟨#[]⟩ : ByteArray), .string (⟨#[]⟩ : ByteArray), .int .i64 0]) (ok := fun _ => True) (okp := fun _ => True) ?hr ?hp (fun _ hk => hk) trivial (Below.refl _ _) (Nat.le_refl _) (by simp) ?_; (case hd => rfl); (case hg => rfl); (case hr => first | (go_simp; done) | (go_simp; rfl)); (case hp => exact (Reps.c7 (show Kd.M k49 _ _ _ (⟨(⟨#[119, 119, 119, 46, 108, 97, 110]⟩ : ByteArray), 1, 5, 7, (⟨#[]⟩ : ByteArray), (⟨#[]⟩ : ByteArray), 0⟩ : S49) [.string (⟨#[119, 119, 119, 46, 108, 97, 110]⟩ : ByteArray), .int .i64 1, .int .i64 5, .int .i64 7, .string (⟨#[]⟩ : ByteArray), .string (⟨#[]⟩ : ByteArray), .int .i64 0] from (k49_mkM _ _ _ (⟨(⟨#[119, 119, 119, 46, 108, 97, 110]⟩ : ByteArray), 1, 5, 7, (⟨#[]⟩ : ByteArray), (⟨#[]⟩ : ByteArray), 0⟩ : S49) )) (Reps.none _ _))); intro v206 w6 ho7 hb hg_ hnew_; clear hg_ hnew_; (first | rw [← Ny205.out] at ho7 | (simp only [Int.reduceToNat] at ho7; rw [← Ny205.out] at ho7)); have n0_ := am_ (Kd.R_below (by (with_reducible repeat (first | apply r1_ | apply r2_ | apply r3_)); exact HO201.out) hb); have n1_ := am_ (Kd.R_below (by (with_reducible repeat (first | apply r1_ | apply r2_ | apply r3_)); exact HO204.out) hb); have n2_ := am_ (Kd.R_lower ho7 (bz_ (by repeat (with_reducible first | exact HB.out | apply p3_ | apply p1_ | apply p2_ | refine bs_ ?_ GE198.out)))); have n3_ := am_ (kb_ (g := gb198) (o := .cells #[.int .i64 0, .int .i64 0, .slice none 0 0, .slice none 0 0, .int .i64 0, .string (⟨#[]⟩ : ByteArray), .slice none 0 0] 26 (0, 0)) (by (with_reducible repeat (first | refine k2_ ?_ _ | refine k3_ ?_ | refine k1_ ?_ _)); exact BK198.out) hb); have n4_ := am_ (bt_ (by repeat (with_reducible first | exact HB.out | apply p3_ | apply p1_ | apply p2_ | refine bs_ ?_ GE198.out)) hb); clear HO201; clear HO204; clear BK198; clear HB; have HO201 := n0_; have HO204 := n1_; have HO207 := n2_; have BK198 := n3_; have HB := n4_; clear n0_ n1_ n2_ n3_ n4_; clear hb ho7; obtain ⟨Ao8, co8, eo8⟩ := Kd.R_slice HO207.out; subst eo8; obtain ⟨Ao9, co9, eo9⟩ := Kd.R_slice HO204.out; subst eo9; obtain ⟨Ao10, co10, eo10⟩ := Kd.R_slice HO201.out; subst eo10; have hcz11_0 : w6.cell? ⟨gb198, 0, none⟩ = some (.int .i64 0) := (bc_ BK198.out 0).trans rfl; have hcz11_1 : w6.cell? ⟨gb198, 1, none⟩ = some (.int .i64 0) := (bc_ BK198.out 1).trans rfl; have hcz11_2 : w6.cell? ⟨gb198, 2, none⟩ = some (.slice none 0 0) := (bc_ BK198.out 2).trans rfl; have hcz11_3 : w6.cell? ⟨gb198, 3, none⟩ = some (.slice none 0 0) := (bc_ BK198.out 3).trans rfl; have hcz11_4 : w6.cell? ⟨gb198, 4, none⟩ = some (.int .i64 0) := (bc_ BK198.out 4).trans rfl; have hcz11_5 : w6.cell? ⟨gb198, 5, none⟩ = some (.string (⟨#[]⟩ : ByteArray)) := (bc_ BK198.out 5).trans rfl; have hcz11_6 : w6.cell? ⟨gb198, 6, none⟩ = some (.slice none 0 0) := (bc_ BK198.out 6).trans rfl; have hfz11_0 := bf_ BK198.out 0; have hfz11_1 := bf_ BK198.out 1; have hfz11_2 := bf_ BK198.out 2; have hfz11_3 := bf_ BK198.out 3; have hfz11_4 := bf_ BK198.out 4; have hfz11_5 := bf_ BK198.out 5; have hfz11_6 := bf_ BK198.out 6))
 refine bodyPost_ret (results_cell_row rfl _ _ gb198 26 #[.int .i64 10, .int .i64 13, .slice Ao10 y199.length co10, .slice Ao9 y202.length co9, .int .i64 100, .string (⟨#[108, 97, 110]⟩ : ByteArray), .slice Ao8 y205.length co8] (0, 0) _ rfl (by (with_reducible repeat (first | refine k2_ ?_ _ | refine k3_ ?_ | refine k1_ ?_ _)); refine blk_put (cs := #[.int .i64 10, .int .i64 13, .slice Ao10 y199.length co10, .slice Ao9 y202.length co9, .int .i64 100, .string (⟨#[108, 97, 110]⟩ : ByteArray), .slice none 0 0]) ?_ 6 _ rfl; (with_reducible repeat (first | refine k2_ ?_ _ | refine k3_ ?_ | refine k1_ ?_ _)); refine blk_put (cs := #[.int .i64 10, .int .i64 13, .slice Ao10 y199.length co10, .slice Ao9 y202.length co9, .int .i64 100, .string (⟨#[]⟩ : ByteArray), .slice none 0 0]) ?_ 5 _ rfl; (with_reducible repeat (first | refine k2_ ?_ _ | refine k3_ ?_ | refine k1_ ?_ _)); refine blk_put (cs := #[.int .i64 10, .int .i64 13, .slice Ao10 y199.length co10, .slice Ao9 y202.length co9, .int .i64 0, .string (⟨#[]⟩ : ByteArray), .slice none 0 0]) ?_ 4 _ rfl; (with_reducible repeat (first | refine k2_ ?_ _ | refine k3_ ?_ | refine k1_ ?_ _)); refine blk_put (cs := #[.int .i64 10, .int .i64 13, .slice Ao10 y199.length co10, .slice none 0 0, .int .i64 0, .string (⟨#[]⟩ : ByteArray), .slice none 0 0]) ?_ 3 _ rfl; (with_reducible repeat (first | refine k2_ ?_ _ | refine k3_ ?_ | refine k1_ ?_ _)); refine blk_put (cs := #[.int .i64 10, .int .i64 13, .slice none 0 0, .slice none 0 0, .int .i64 0, .string (⟨#[]⟩ : ByteArray), .slice none 0 0]) ?_ 2 _ rfl; (with_reducible repeat (first | refine k2_ ?_ _ | refine k3_ ?_ | refine k1_ ?_ _)); refine blk_put (cs := #[.int .i64 10, .int .i64 0, .slice none 0 0, .slice none 0 0, .int .i64 0, .string (⟨#[]⟩ : ByteArray), .slice none 0 0]) ?_ 1 _ rfl; (with_reducible repeat (first | refine k2_ ?_ _ | refine k3_ ?_ | refine k1_ ?_ _)); refine blk_put (cs := #[.int .i64 0, .int .i64 0, .slice none 0 0, .slice none 0 0, .int .i64 0, .string (⟨#[]⟩ : ByteArray), .slice none 0 0]) ?_ 0 _ rfl; (with_reducible repeat (first | refine k2_ ?_ _ | refine k3_ ?_ | refine k1_ ?_ _)); exact BK198.out) Tryd.underlying26 rfl (by kernel_rfl)) rfl ?_
 exact ⟨_, _, _, by first | rfl | (simp [errW_none, errW_some] <;> rfl) | (simp [*, errW_none, errW_some] <;> rfl), by (with_reducible repeat (first | apply r1_ | apply r2_ | apply r3_)); exact Kd.R_mono (Kd.R_far (p := ⟨gb198, 6, none⟩) (Kd.R_far (p := ⟨gb198, 5, none⟩) (Kd.R_far (p := ⟨gb198, 4, none⟩) (Kd.R_far (p := ⟨gb198, 3, none⟩) (Kd.R_far (p := ⟨gb198, 2, none⟩) (Kd.R_far (p := ⟨gb198, 1, none⟩) (Kd.R_far (p := ⟨gb198, 0, none⟩) (Kd.R_types HO201.out BK198.out (by decide)) (fun _ hk => hk.2) (.int .i64 10)) (fun _ hk => hk.2) (.int .i64 13)) (fun _ hk => hk.2) (.slice Ao10 y199.length co10)) (fun _ hk => hk.2) (.slice Ao9 y202.length co9)) (fun _ hk => hk.2) (.int .i64 100)) (fun _ hk => hk.2) (.string (⟨#[108, 97, 110]⟩ : ByteArray))) (fun _ hk => hk.2) (.slice Ao8 y205.length co8)) (fun _ hk => trivial), by (with_reducible repeat (first | apply r1_ | apply r2_ | apply r3_)); exact Kd.R_mono (Kd.R_far (p := ⟨gb198, 6, none⟩) (Kd.R_far (p := ⟨gb198, 5, none⟩) (Kd.R_far (p := ⟨gb198, 4, none⟩) (Kd.R_far (p := ⟨gb198, 3, none⟩) (Kd.R_far (p := ⟨gb198, 2, none⟩) (Kd.R_far (p := ⟨gb198, 1, none⟩) (Kd.R_far (p := ⟨gb198, 0, none⟩) (Kd.R_types HO204.out BK198.out (by decide)) (fun _ hk => hk.2) (.int .i64 10)) (fun _ hk => hk.2) (.int .i64 13)) (fun _ hk => hk.2) (.slice Ao10 y199.length co10)) (fun _ hk => hk.2) (.slice Ao9 y202.length co9)) (fun _ hk => hk.2) (.int .i64 100)) (fun _ hk => hk.2) (.string (⟨#[108, 97, 110]⟩ : ByteArray))) (fun _ hk => hk.2) (.slice Ao8 y205.length co8)) (fun _ hk => trivial), by (with_reducible repeat (first | apply r1_ | apply r2_ | apply r3_)); exact Kd.R_mono (Kd.R_far (p := ⟨gb198, 6, none⟩) (Kd.R_far (p := ⟨gb198, 5, none⟩) (Kd.R_far (p := ⟨gb198, 4, none⟩) (Kd.R_far (p := ⟨gb198, 3, none⟩) (Kd.R_far (p := ⟨gb198, 2, none⟩) (Kd.R_far (p := ⟨gb198, 1, none⟩) (Kd.R_far (p := ⟨gb198, 0, none⟩) (Kd.R_types HO207.out BK198.out (by decide)) (fun _ hk => hk.2) (.int .i64 10)) (fun _ hk => hk.2) (.int .i64 13)) (fun _ hk => hk.2) (.slice Ao10 y199.length co10)) (fun _ hk => hk.2) (.slice Ao9 y202.length co9)) (fun _ hk => hk.2) (.int .i64 100)) (fun _ hk => hk.2) (.string (⟨#[108, 97, 110]⟩ : ByteArray))) (fun _ hk => hk.2) (.slice Ao8 y205.length co8)) (fun _ hk => trivial), by repeat (with_reducible first | exact HB.out | apply p3_ | apply p1_ | apply p2_ | refine bs_ ?_ GE198.out)⟩

end Go.Proofs.YtnjnfpnkcapilaaDoor.PRegises
