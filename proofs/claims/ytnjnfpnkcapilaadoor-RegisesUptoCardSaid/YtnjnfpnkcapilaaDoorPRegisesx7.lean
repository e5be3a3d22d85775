-- Made by wip/pr.py out of the translation (a turned copy of the kit's print; contracts by hand where said).
import Derived.Test.YtnjnfpnkcapilaaDoorPRegisesx0
import Derived.Test.YtnjnfpnkcapilaaDoorPRegisesx5
import Derived.Test.YtnjnfpnkcapilaaDoorPRegisesx6
namespace Go.Proofs.YtnjnfpnkcapilaaDoor.PRegises
open Go.RowKit Go.Proofs.YtnjnfpnkcapilaaDoorW.PrintWords Go.Proofs.YtnjnfpnkcapilaaDoorW.PrintLast Go.Proofs.YtnjnfpnkcapilaaDoorW.PrintMore
-- shrunk
attribute [local go_sem] max2_int min2_int max_two min_two max_three min_three max_four min_four   -- for this text's walks alone
set_option linter.unusedVariables false
set_option linter.unusedSimpArgs false

/-! ### rr_word: function 76 -/
def rr_word.f (a0 : Int) : Option (Bool) := if a0 ≥ 0 then (some (decide (a0 ≤ 4294967295))) else (some false)
set_option maxHeartbeats 8000000 in
set_option maxRecDepth 100000 in
theorem rr_word.calls (a0 : Int) (r : Bool) (w : World) (h : rr_word.f a0 = some r) :
  Calls Tryd.prog 76 #[.int .i64 a0] w fun e w' => e = .returned (.bool r) ∧ Drawn0 w w' := by
 have H : (if a0 ≥ 0 then (some (decide (a0 ≤ 4294967295))) else (some false)) = some r := h
 clear h
 by_cases c2 : a0 ≥ 0
 ·rw [if_pos c2] at H
  have c2b0 : decide (0 ≤ a0) = true := decide_eq_true c2
  clear c2
  obtain rfl := e5_ H
  go_enter Tryd.func76, Tryd.ntmps76
  go_wp2
  go_ret
  exact ⟨by first | rfl | (simp; done) | (simp [*]; done), by repeat (first | exact Drawn0.refl _ | apply Drawn0.step)⟩
 rw [if_neg c2] at H
 have c2b0 : decide (0 ≤ a0) = false := decide_eq_false c2
 clear c2
 obtain rfl := e5_ H
 go_enter Tryd.func76, Tryd.ntmps76
 go_wp2
 go_ret
 exact ⟨by first | rfl | (simp; done) | (simp [*]; done), by repeat (first | exact Drawn0.refl _ | apply Drawn0.step)⟩

/-! ### rr_word_c: function 76 -/
def rr_word_c.f (a0 : Int) : Option Bool := some (wordB a0)
theorem rr_word_c.calls (a0 : Int) (r : Bool) (w : World) (h : rr_word_c.f a0 = some r) :
  Calls Tryd.prog 76 #[.int .i64 a0] w fun e w' => e = .returned (.bool r) ∧ Drawn0 w w' := by
 refine rr_word.calls a0 r w ?_
 rw [← h]
 unfold rr_word.f rr_word_c.f wordB
 by_cases q : a0 ≥ 0
 ·rw [if_pos q]
  congr 1
  rw [Bool.eq_iff_iff, decide_eq_true_eq, decide_eq_true_eq]
  omega
 ·rw [if_neg q]
  congr 1
  symm
  rw [decide_eq_false_iff_not]
  omega

/-! ### rr_May: function 65 -/
-- BY HAND
/-- may a record be. -/
def rrB (name : ByteArray) (kind ttl addr : Int) (target text : ByteArray) (serial : Int) : Bool :=
 nameB (bytesOf name) && decide (0 ≤ ttl ∧ ttl ≤ 1048576) &&
 (if kind = 1 then wordB addr && decide (target.toList = [] ∧ text.toList = [] ∧ serial = 0)
  else decide (addr = 0) &&
  (if kind = 2 ∨ kind = 5 ∨ kind = 12 then nameB (bytesOf target) && decide (text.toList = [] ∧ serial = 0)
   else if kind = 6 then nameB (bytesOf target) && (decide (text.toList = []) && wordB serial)
   else if kind = 16 ∨ kind = 49 then decide (target.toList = [] ∧ text.size ≤ 64 ∧ serial = 0) else false))
def rr_May.f (a0_0 : ByteArray) (a0_1 : Int) (a0_2 : Int) (a0_3 : Int) (a0_4 : ByteArray) (a0_5 : ByteArray) (a0_6 : Int) : Option Bool := if a0_0.size ≤ 140737488351232 ∧ a0_4.size ≤ 140737488351232 ∧ (a0_1 = 1 ∨ a0_1 = 5 ∨ a0_1 = 16) then some (rrB a0_0 a0_1 a0_2 a0_3 a0_4 a0_5 a0_6) else none
set_option maxHeartbeats 8000000 in
set_option maxRecDepth 100000 in
theorem rr_May.calls (a0_0 : ByteArray) (a0_1 : Int) (a0_2 : Int) (a0_3 : Int) (a0_4 : ByteArray) (a0_5 : ByteArray) (a0_6 : Int) (r : Bool) (w : World) (h : rr_May.f a0_0 a0_1 a0_2 a0_3 a0_4 a0_5 a0_6 = some r) :
  Calls Tryd.prog 65 #[.agg #[.string a0_0, .int .i64 a0_1, .int .i64 a0_2, .int .i64 a0_3, .string a0_4, .string a0_5, .int .i64 a0_6]] w fun e w' => e = .returned (.bool r) ∧ Below w.heap.size w w' := by
 unfold rr_May.f at h
 by_cases hs : a0_0.size ≤ 140737488351232 ∧ a0_4.size ≤ 140737488351232 ∧ (a0_1 = 1 ∨ a0_1 = 5 ∨ a0_1 = 16)
 rotate_left
 ·rw [if_neg hs] at h
  cases h
 rw [if_pos hs] at h
 have HR := am_ (e5_ h)
 obtain ⟨n0, h0⟩ : ∃ b, nameB (bytesOf a0_0) = b := ⟨_, rfl⟩
 obtain ⟨n4, h4⟩ : ∃ b, nameB (bytesOf a0_4) = b := ⟨_, rfl⟩
 have C0 := am_ (fun W => name_May_c.calls a0_0 n0 W (by unfold name_May_c.f; rw [if_pos (by have := hs.1; omega), h0]))
 have C4 := am_ (fun W => name_May_c.calls a0_4 n4 W (by unfold name_May_c.f; rw [if_pos (by have := hs.2.1; omega), h4]))
 have Cw := am_ (fun x W => rr_word_c.calls x (wordB x) W rfl)
 have H0 := am_ h0
 have H4 := am_ h4
 have T4 := am_ (show a0_4.toList = [] → n4 = true from fun e => by rw [← H4.out, show bytesOf a0_4 = [] from List.length_eq_zero_iff.1 (by rw [bytesOf_length]; exact (toList_nil _).1 e)]; rfl)
 have T5 := am_ (show a0_5.toList = [] → a0_5.size = 0 from fun e => (toList_nil _).1 e)
 have HB := am_ (Below.refl w.heap.size w)
 have hq := hs.2.2
 clear h hs h0 h4
 rcases hq with rfl | rfl | rfl
 all_goals
  go_enter Tryd.func65, Tryd.ntmps65
  go_wp2_with fail
  all_goals try go_region_with (first
   | fail
   | (go_at_call 41; (with_reducible refine (C4.out _).mono ?_); rintro e w2 ⟨rfl, ⟨nd, rfl⟩⟩)
   | (go_at_call 76; (with_reducible refine (Cw.out _ _).mono ?_); rintro e w3 ⟨rfl, ⟨nd, rfl⟩⟩))
  all_goals go_wp2_with (first
   | (go_at_call 41; (with_reducible refine (C0.out _).mono ?_); rintro e w2 ⟨rfl, ⟨nd, rfl⟩⟩))
  all_goals go_ret
  all_goals refine ⟨ret_bool ?_, ?_⟩
  all_goals first
   | ((repeat (with_reducible first | exact HB.out | apply p3_ | apply p1_ | apply p2_ | refine Below.setCell ?_ (by simp) _)); done)
   | (have e0 := H0.out; have e4 := H4.out; have t4 := T4.out; have t5 := T5.out; have w0 : wordB 0 = true := rfl; rw [← HR.out]; simp only [rrB, e0, e4]; clear HR C0 C4 Cw H0 H4; simp_all <;> omega)

/-! ### conf_static: function 45 -/
-- BY HAND
/-- may a standing record be so. -/
def staticB (z : ByteArray) (x : S49) : Bool := decide (x.f1 = 1 ∨ x.f1 = 5 ∨ x.f1 = 16) && (rrB x.f0 x.f1 x.f2 x.f3 x.f4 x.f5 x.f6 && (underB (bytesOf x.f0) (bytesOf z) && decide (x.f0.toList ≠ z.toList)))
def staticsB (z : ByteArray) (l : List S49) : Bool := l.all (staticB z) && decide (l.length ≤ 8)
/-! a region that draws its order, walked in the order of its text: the first m of n operations have come up -/
def upto_ (n m : Nat) : Array Bool := (List.replicate m true ++ List.replicate (n - m) false).toArray
section
variable {P : Program} {ops : Array Oper} {Q : Exit → Act → World → Prop} {S : World → Prop}
theorem seqS {id : Nat} {a : Act} {w : World} (n : Nat) (hm : P.follows .mixedOrders = true) (hn : ops.size = n) (hl : Array.replicate n false = upto_ n 0) (hS : S w.drew)
  (h : S w.drew → wpAnyLast P .any ops Q S [] n (upto_ n (n - n)) a w.drew) : (Code.region id ops true).wp P Q a w := by
 rw [Nat.sub_self] at h
 exact start_ (upto_ n 0) hm hn hl hS h
theorem seqP {n fuel : Nat} {m : Tmp} {oi : Oper} {v : Value} {a : Act} {w : World} (hi : ops[n - (fuel + 1)]? = some oi) (hN : oi.dst = some m) (hc : anyB .any ops (upto_ n (n - (fuel + 1))) (upto_ n (n - fuel)) (n - (fuel + 1)) = true)
  (hQ : ∀ c a w, Q (.panic c) (a.put oi.dst v) w → Q (.panic c) a w) (hy : Yields P ops oi v a) {a' : Act} (ha : a.put (some m) v = a') (h : wpAnyLast P .any ops Q S [] fuel (upto_ n (n - fuel)) a' w) :
  wpAnyLast P .any ops Q S [] (fuel + 1) (upto_ n (n - (fuel + 1))) a w := pure_ (upto_ n (n - fuel)) hi hN hc hQ hy ha h
theorem seqL {n fuel : Nat} {m : Tmp} {oi : Oper} {v : Value} {a : Act} {w : World} (hi : ops[n - (fuel + 1)]? = some oi) (hN : oi.dst = some m) (hc : takeB .any ops [] (upto_ n (n - (fuel + 1))) (upto_ n (n - fuel)) (n - (fuel + 1)) = true)
  (hQ : ∀ c a w, Q (.panic c) (a.put oi.dst v) w → Q (.panic c) a w) (hy : YieldsIf P ops S oi v a) (hS : S w) {a' : Act} (ha : a.put (some m) v = a') (h : wpAnyLast P .any ops Q S [] fuel (upto_ n (n - fuel)) a' w) :
  wpAnyLast P .any ops Q S [] (fuel + 1) (upto_ n (n - (fuel + 1))) a w := take_ (upto_ n (n - fuel)) hi hN hc hQ hy hS ha h
theorem seqC {n fuel : Nat} {m : Tmp} {oi : Oper} {a : Act} {w : World} (hi : ops[n - (fuel + 1)]? = some oi) (hN : oi.dst = some m) (hc : readyB .any ops (upto_ n (n - (fuel + 1))) (upto_ n (n - fuel)) (n - (fuel + 1)) = true)
  (h : ∀ K : Act → World → Prop, Shut (∀ a' w', S w' → (S w' → wpAnyLast P .any ops Q S [] fuel (upto_ n (n - fuel)) a' w') → K a' w') → if Region.wanted oi (yielded ops a.tmps) = true then Oper.wp P oi a w K Q else K (a.put (some m) undef) w) :
  wpAnyLast P .any ops Q S [] (fuel + 1) (upto_ n (n - (fuel + 1))) a w := one_ (upto_ n (n - fuel)) hi hN hc (by simp) h
theorem seqG {n fuel : Nat} {m : Tmp} {oi : Oper} {a : Act} {w : World} {f : FuncId} {fn : Func} {as_ : Array Operand} {ts : Array TypeId} (hi : ops[n - (fuel + 1)]? = some oi) (hN : oi.dst = some m) (hc : readyB .any ops (upto_ n (n - (fuel + 1))) (upto_ n (n - fuel)) (n - (fuel + 1)) = true)
  (hop : oi.op = .call { callee := .value (.func f), args := as_, argTypes := ts }) (hf : P.funcs[f]? = some fn) (hname : (fn.name == "runtime.NumGoroutine") = false) (hb : fn.body.isSome = true) (args : Array Value) (hw : Region.wanted oi (yielded ops a.tmps) = true) (hargs : as_.map a.eval = args)
  (h : Calls P f args w fun e w' => ∃ v, e = .returned v ∧ S w' ∧ (S w' → ∃ a', a.put (some m) v = a' ∧ wpAnyLast P .any ops Q S [] fuel (upto_ n (n - fuel)) a' w')) :
  wpAnyLast P .any ops Q S [] (fuel + 1) (upto_ n (n - (fuel + 1))) a w := by
 refine seqC hi hN hc (fun K hK => goes_ hf hname hb args hw hN hop hargs (h.mono ?_))
 rintro e w' ⟨v, he, hS, hk⟩
 refine ⟨v, he, hK.out _ _ hS (fun hS2 => ?_)⟩
 obtain ⟨a', rfl, h2⟩ := hk hS2
 exact h2
theorem seqE {n : Nat} {a : Act} {w : World} (hr : (Region.ready .any ops (upto_ n (n - 0)) == []) = true) (h : Q .normal a w) : wpAnyLast P .any ops Q S [] 0 (upto_ n (n - 0)) a w := done_ hr h
end
theorem dropStat (l0 : List S49) (i : Int) (h0 : 0 ≤ i) (h1 : i < l0.length) : l0.drop i.toNat = rd_T49 l0 i :: l0.drop (i.toNat + 1) ∧ rd_T49 l0 i ∈ l0 := by
 have h : i.toNat < l0.length := by omega
 have e : rd_T49 l0 i = l0[i.toNat] := by
  unfold rd_T49
  rw [List.getD_eq_getElem?_getD, List.getElem?_eq_getElem h]
  rfl
 rw [e, List.drop_eq_getElem_cons h]
 exact ⟨rfl, List.getElem_mem h⟩
/-- where a record and a zone's name lie. -/
def conf_static.S (B g : Nat) (f0 : ByteArray) (f1 f2 f3 : Int) (f4 f5 : ByteArray) (f6 : Int) (z : ByteArray) (w' : World) : Prop := w'.cell? ⟨B, 0, none⟩ = some (.string f0) ∧ w'.cell? ⟨B, 1, none⟩ = some (.int .i64 f1) ∧ w'.cell? ⟨B, 2, none⟩ = some (.int .i64 f2) ∧ w'.cell? ⟨B, 3, none⟩ = some (.int .i64 f3) ∧ w'.cell? ⟨B, 4, none⟩ = some (.string f4) ∧ w'.cell? ⟨B, 5, none⟩ = some (.string f5) ∧ w'.cell? ⟨B, 6, none⟩ = some (.int .i64 f6) ∧ w'.cell? ⟨g, 5, none⟩ = some (.string z)
theorem conf_static.S_below {B g : Nat} {f0 : ByteArray} {f1 f2 f3 : Int} {f4 f5 : ByteArray} {f6 : Int} {z : ByteArray} {w w2 : World} (h : conf_static.S B g f0 f1 f2 f3 f4 f5 f6 z w) (hb : Below w.heap.size w w2) : conf_static.S B g f0 f1 f2 f3 f4 f5 f6 z w2 := by
 obtain ⟨s0, s1, s2, s3, s4, s5, s6, s7⟩ := h
 exact ⟨(hb.cell (wb_ _ _ s0)).trans s0, (hb.cell (wb_ _ _ s1)).trans s1, (hb.cell (wb_ _ _ s2)).trans s2, (hb.cell (wb_ _ _ s3)).trans s3, (hb.cell (wb_ _ _ s4)).trans s4, (hb.cell (wb_ _ _ s5)).trans s5, (hb.cell (wb_ _ _ s6)).trans s6, (hb.cell (wb_ _ _ s7)).trans s7⟩
set_option maxHeartbeats 8000000 in
set_option maxRecDepth 100000 in
theorem conf_static.calls (g : Nat) (z : ByteArray) (A0 : Option Addr) (c0 : Nat) (l0 : List S49) (w : World) (hz : w.cell? ⟨g, 5, none⟩ = some (.string z)) (hl : w.cell? ⟨g, 6, none⟩ = some (.slice A0 l0.length c0)) (hr0 : Kd.C k49 w A0 l0.length l0) (hs : l0.length ≤ 140737488351232) (hzs : z.size ≤ 140737488351232) (hx : ∀ x ∈ l0, x.f0.size ≤ 140737488351232 ∧ x.f4.size ≤ 140737488351232) :
  Calls Tryd.prog 45 #[.pointer (some ⟨g, 0, none⟩)] w fun e w' => e = .returned (.bool (staticsB z l0)) ∧ Below w.heap.size w w' := by
 have HR0 := am_ hr0
 have HZ := am_ hz
 have HL := am_ hl
 have HX := am_ hx
 have e4 : (l0.all (staticB z) && decide (l0.length ≤ 8)) = staticsB z l0 := rfl
 replace e4 := am_ e4
 obtain ⟨r, hr⟩ : ∃ r, staticsB z l0 = r := ⟨_, rfl⟩
 rw [hr] at e4 ⊢
 clear hr0 hr hx
 go_enter Tryd.func45, Tryd.ntmps45
 go_wp2
 go_loopg [10] l0.length (fun d v9 wr => ∃ (i : Int), 0 ≤ i ∧ i.toNat + d = l0.length ∧ v9 = .int .i64 i ∧ Aside0 (Below w.heap.size w wr) ∧ Aside0 (l0.all (staticB z) = (l0.drop i.toNat).all (staticB z)))
 case atStart => exact ⟨0, by omega, by simp, rfl, ⟨Below.refl _ _⟩, ⟨rfl⟩⟩
 case round =>
  obtain ⟨i, hi0, hd, rfl, HB, HS⟩ := hrel
  clear hz hl
  have hgl := wb_ w _ HZ.out
  have hgl2 : g < wr.heap.size := Nat.lt_of_lt_of_le hgl HB.out.size
  have hgne : g ≠ wr.heap.size := by omega
  have hz := (HB.out.cell (wb_ w _ HZ.out)).trans HZ.out
  have hl := (HB.out.cell (wb_ w _ HL.out)).trans HL.out
  by_cases hlt : i < (l0.length : Int)
  ·obtain ⟨ad, e1, hx0, hx1, hx2, hx3, hx4, hx5, hx6⟩ := at_T49 HR0.out i hi0 hlt
   cases e1
   replace hx0 := (HB.out.cell (wb_ w _ hx0)).trans hx0
   replace hx1 := (HB.out.cell (wb_ w _ hx1)).trans hx1
   replace hx2 := (HB.out.cell (wb_ w _ hx2)).trans hx2
   replace hx3 := (HB.out.cell (wb_ w _ hx3)).trans hx3
   replace hx4 := (HB.out.cell (wb_ w _ hx4)).trans hx4
   replace hx5 := (HB.out.cell (wb_ w _ hx5)).trans hx5
   replace hx6 := (HB.out.cell (wb_ w _ hx6)).trans hx6
   have HD := HS.out
   obtain ⟨hd1, hmem⟩ := dropStat l0 i hi0 hlt
   have hsz := HX.out _ hmem
   rw [hd1, List.all_cons] at HD
   clear HS hd1 hmem
   generalize rd_T49 l0 i = x at hx0 hx1 hx2 hx3 hx4 hx5 hx6 HD hsz
   obtain ⟨f0, f1, f2, f3, f4, f5, f6⟩ := x
   simp only at hx0 hx1 hx2 hx3 hx4 hx5 hx6 hsz
   have fin : staticB z ⟨f0, f1, f2, f3, f4, f5, f6⟩ = false → false = r := fun e => by rw [← e4.out, HD, e]; rfl
   have HN : staticB z ⟨f0, f1, f2, f3, f4, f5, f6⟩ = true → l0.all (staticB z) = (l0.drop (i.toNat + 1)).all (staticB z) := fun e => by rw [HD, e, Bool.true_and]
   clear HD
   by_cases qk : f1 = 1 ∨ f1 = 5 ∨ f1 = 16
   ·obtain ⟨b1, hb1⟩ : ∃ b, rrB f0 f1 f2 f3 f4 f5 f6 = b := ⟨_, rfl⟩
    obtain ⟨b2, hb2⟩ : ∃ b, underB (bytesOf f0) (bytesOf z) = b := ⟨_, rfl⟩
    have C1 := am_ (fun W => rr_May.calls f0 f1 f2 f3 f4 f5 f6 b1 W (by unfold rr_May.f; rw [if_pos ⟨hsz.1, hsz.2, qk⟩, hb1]))
    have C2 := am_ (fun W => name_Under_c.calls f0 z b2 W (by unfold name_Under_c.f; rw [if_pos ⟨hsz.1, hzs⟩, hb2]))
    have hst : staticB z ⟨f0, f1, f2, f3, f4, f5, f6⟩ = (b1 && (b2 && decide (f0.toList ≠ z.toList))) := by
     unfold staticB
     rw [decide_eq_true qk, hb1, hb2, Bool.true_and]
    rw [hst] at fin HN
    replace fin := am_ fin
    replace HN := am_ HN
    clear hst hb1 hb2 hsz
    obtain ⟨b3, hb3⟩ : ∃ b3 : Bool, (f0.toList == z.toList) = b3 := ⟨_, rfl⟩
    clear hb3 b3
    obtain ⟨f1', hf1⟩ : ∃ x, x = f1 := ⟨f1, rfl⟩
    have HC1 := am_ (show ∀ W, Calls Tryd.prog 65 #[.agg #[.string f0, .int .i64 f1', .int .i64 f2, .int .i64 f3, .string f4, .string f5, .int .i64 f6]] W fun e w' => e = .returned (.bool b1) ∧ Below W.heap.size W w' by rw [hf1]; exact C1.out)
    rcases qk with rfl | rfl | rfl
    all_goals
     go_wp2_with fail
     have HB1 := am_ (below_drew (p3_ HB.out (.cells #[.string f0, .int .i64 f1', .int .i64 f2, .int .i64 f3, .string f4, .string f5, .int .i64 f6] 49)))
     subst hf1
    ·refine seqS (S := conf_static.S wr.heap.size g f0 1 f2 f3 f4 f5 f6 z) 37 (by kernel_rfl) rfl rfl (by unfold conf_static.S; go_simp) ?_
     intro hHeld
     iterate 4 first | (refine seqP (v := ?_) (a' := ?_) rfl rfl (by kernel_rfl) (fun _ _ _ h => h) (Or.inl ⟨by kernel_rfl, ?_⟩) ?_ ?_; rotate_left; (intro w'; go_simp; with_reducible rfl); rotate_left; (simp only [Act.put, List.setIfInBounds_toArray, List.set_cons_zero, List.set_cons_succ, i64_w, i32_w]; rfl)) | (refine seqL (v := ?_) (a' := ?_) rfl rfl (by kernel_rfl) (fun _ _ _ h => h) (Or.inl ⟨by kernel_rfl, ?_⟩) hHeld ?_ ?_; rotate_left; (rintro w' ⟨s0, s1, s2, s3, s4, s5, s6, s7⟩; go_simp; with_reducible rfl); rotate_left; (simp only [Act.put, List.setIfInBounds_toArray, List.set_cons_zero, List.set_cons_succ, i64_w, i32_w]; rfl))
     iterate 3 (refine seqP (v := undef) (a' := ?_) rfl rfl (by kernel_rfl) (fun _ _ _ h => h) (Or.inr ⟨by kernel_rfl, rfl⟩) ?_ ?_; rotate_left; (simp only [Act.put, List.setIfInBounds_toArray, List.set_cons_zero, List.set_cons_succ, i64_w, i32_w]; rfl))
     iterate 2 first | (refine seqP (v := ?_) (a' := ?_) rfl rfl (by kernel_rfl) (fun _ _ _ h => h) (Or.inl ⟨by kernel_rfl, ?_⟩) ?_ ?_; rotate_left; (intro w'; go_simp; with_reducible rfl); rotate_left; (simp only [Act.put, List.setIfInBounds_toArray, List.set_cons_zero, List.set_cons_succ, i64_w, i32_w]; rfl)) | (refine seqL (v := ?_) (a' := ?_) rfl rfl (by kernel_rfl) (fun _ _ _ h => h) (Or.inl ⟨by kernel_rfl, ?_⟩) hHeld ?_ ?_; rotate_left; (rintro w' ⟨s0, s1, s2, s3, s4, s5, s6, s7⟩; go_simp; with_reducible rfl); rotate_left; (simp only [Act.put, List.setIfInBounds_toArray, List.set_cons_zero, List.set_cons_succ, i64_w, i32_w]; rfl))
     iterate 3 (refine seqP (v := undef) (a' := ?_) rfl rfl (by kernel_rfl) (fun _ _ _ h => h) (Or.inr ⟨by kernel_rfl, rfl⟩) ?_ ?_; rotate_left; (simp only [Act.put, List.setIfInBounds_toArray, List.set_cons_zero, List.set_cons_succ, i64_w, i32_w]; rfl))
     iterate 2 first | (refine seqP (v := ?_) (a' := ?_) rfl rfl (by kernel_rfl) (fun _ _ _ h => h) (Or.inl ⟨by kernel_rfl, ?_⟩) ?_ ?_; rotate_left; (intro w'; go_simp; with_reducible rfl); rotate_left; (simp only [Act.put, List.setIfInBounds_toArray, List.set_cons_zero, List.set_cons_succ, i64_w, i32_w]; rfl)) | (refine seqL (v := ?_) (a' := ?_) rfl rfl (by kernel_rfl) (fun _ _ _ h => h) (Or.inl ⟨by kernel_rfl, ?_⟩) hHeld ?_ ?_; rotate_left; (rintro w' ⟨s0, s1, s2, s3, s4, s5, s6, s7⟩; go_simp; with_reducible rfl); rotate_left; (simp only [Act.put, List.setIfInBounds_toArray, List.set_cons_zero, List.set_cons_succ, i64_w, i32_w]; rfl))
     iterate 1 first | (refine seqP (v := ?_) (a' := ?_) rfl rfl (by kernel_rfl) (fun _ _ _ h => h) (Or.inl ⟨by kernel_rfl, ?_⟩) ?_ ?_; rotate_left; (intro w'; go_simp; with_reducible rfl); rotate_left; (simp only [Act.put, List.setIfInBounds_toArray, List.set_cons_zero, List.set_cons_succ, i64_w, i32_w]; rfl)) | (refine seqL (v := ?_) (a' := ?_) rfl rfl (by kernel_rfl) (fun _ _ _ h => h) (Or.inl ⟨by kernel_rfl, ?_⟩) hHeld ?_ ?_; rotate_left; (rintro w' ⟨s0, s1, s2, s3, s4, s5, s6, s7⟩; go_simp; with_reducible rfl); rotate_left; (simp only [Act.put, List.setIfInBounds_toArray, List.set_cons_zero, List.set_cons_succ, i64_w, i32_w]; rfl))
     refine seqG (fn := Tryd.f65) rfl rfl (by kernel_rfl) rfl Tryd.func65 (by kernel_rfl) (by kernel_rfl) #[.agg #[.string f0, .int .i64 1, .int .i64 f2, .int .i64 f3, .string f4, .string f5, .int .i64 f6]] (by kernel_rfl) (by (try simp only [List.map_toArray, List.map_cons, List.map_nil]); first | done | rfl) ?_
     with_reducible refine (C1.out _).mono ?_
     rintro e w2 ⟨rfl, hb2⟩
     have HB2 := am_ (bt_ HB1.out hb2)
     refine ⟨_, rfl, conf_static.S_below hHeld hb2, fun hHeld => ⟨?_, ?_, ?_⟩⟩
     rotate_left
     ·simp only [Act.put, List.setIfInBounds_toArray, List.set_cons_zero, List.set_cons_succ, i64_w, i32_w]
      rfl
     iterate 3 first | (refine seqP (v := ?_) (a' := ?_) rfl rfl (by kernel_rfl) (fun _ _ _ h => h) (Or.inl ⟨by kernel_rfl, ?_⟩) ?_ ?_; rotate_left; (intro w'; go_simp; with_reducible rfl); rotate_left; (simp only [Act.put, List.setIfInBounds_toArray, List.set_cons_zero, List.set_cons_succ, i64_w, i32_w]; rfl)) | (refine seqL (v := ?_) (a' := ?_) rfl rfl (by kernel_rfl) (fun _ _ _ h => h) (Or.inl ⟨by kernel_rfl, ?_⟩) hHeld ?_ ?_; rotate_left; (rintro w' ⟨s0, s1, s2, s3, s4, s5, s6, s7⟩; go_simp; with_reducible rfl); rotate_left; (simp only [Act.put, List.setIfInBounds_toArray, List.set_cons_zero, List.set_cons_succ, i64_w, i32_w]; rfl))
     cases b1 with
     | false =>
      iterate 8 (refine seqP (v := undef) (a' := ?_) rfl rfl (by kernel_rfl) (fun _ _ _ h => h) (Or.inr ⟨by kernel_rfl, rfl⟩) ?_ ?_; rotate_left; (simp only [Act.put, List.setIfInBounds_toArray, List.set_cons_zero, List.set_cons_succ, i64_w, i32_w]; rfl))
      iterate 2 first | (refine seqP (v := ?_) (a' := ?_) rfl rfl (by kernel_rfl) (fun _ _ _ h => h) (Or.inl ⟨by kernel_rfl, ?_⟩) ?_ ?_; rotate_left; (intro w'; go_simp; with_reducible rfl); rotate_left; (simp only [Act.put, List.setIfInBounds_toArray, List.set_cons_zero, List.set_cons_succ, i64_w, i32_w]; rfl)) | (refine seqL (v := ?_) (a' := ?_) rfl rfl (by kernel_rfl) (fun _ _ _ h => h) (Or.inl ⟨by kernel_rfl, ?_⟩) hHeld ?_ ?_; rotate_left; (rintro w' ⟨s0, s1, s2, s3, s4, s5, s6, s7⟩; go_simp; with_reducible rfl); rotate_left; (simp only [Act.put, List.setIfInBounds_toArray, List.set_cons_zero, List.set_cons_succ, i64_w, i32_w]; rfl))
      iterate 7 (refine seqP (v := undef) (a' := ?_) rfl rfl (by kernel_rfl) (fun _ _ _ h => h) (Or.inr ⟨by kernel_rfl, rfl⟩) ?_ ?_; rotate_left; (simp only [Act.put, List.setIfInBounds_toArray, List.set_cons_zero, List.set_cons_succ, i64_w, i32_w]; rfl))
      iterate 1 first | (refine seqP (v := ?_) (a' := ?_) rfl rfl (by kernel_rfl) (fun _ _ _ h => h) (Or.inl ⟨by kernel_rfl, ?_⟩) ?_ ?_; rotate_left; (intro w'; go_simp; with_reducible rfl); rotate_left; (simp only [Act.put, List.setIfInBounds_toArray, List.set_cons_zero, List.set_cons_succ, i64_w, i32_w]; rfl)) | (refine seqL (v := ?_) (a' := ?_) rfl rfl (by kernel_rfl) (fun _ _ _ h => h) (Or.inl ⟨by kernel_rfl, ?_⟩) hHeld ?_ ?_; rotate_left; (rintro w' ⟨s0, s1, s2, s3, s4, s5, s6, s7⟩; go_simp; with_reducible rfl); rotate_left; (simp only [Act.put, List.setIfInBounds_toArray, List.set_cons_zero, List.set_cons_succ, i64_w, i32_w]; rfl))
      refine seqE (by kernel_rfl) ?_
      go_wp2
      go_ret
      exact ⟨ret_bool (fin.out (by simp)), by repeat (with_reducible first | exact HB2.out | exact HB1.out | apply p3_ | apply p1_ | apply p2_)⟩
     | true =>
      iterate 6 first | (refine seqP (v := ?_) (a' := ?_) rfl rfl (by kernel_rfl) (fun _ _ _ h => h) (Or.inl ⟨by kernel_rfl, ?_⟩) ?_ ?_; rotate_left; (intro w'; go_simp; with_reducible rfl); rotate_left; (simp only [Act.put, List.setIfInBounds_toArray, List.set_cons_zero, List.set_cons_succ, i64_w, i32_w]; rfl)) | (refine seqL (v := ?_) (a' := ?_) rfl rfl (by kernel_rfl) (fun _ _ _ h => h) (Or.inl ⟨by kernel_rfl, ?_⟩) hHeld ?_ ?_; rotate_left; (rintro w' ⟨s0, s1, s2, s3, s4, s5, s6, s7⟩; go_simp; with_reducible rfl); rotate_left; (simp only [Act.put, List.setIfInBounds_toArray, List.set_cons_zero, List.set_cons_succ, i64_w, i32_w]; rfl))
      refine seqG (fn := Tryd.f58) rfl rfl (by kernel_rfl) rfl Tryd.func58 (by kernel_rfl) (by kernel_rfl) #[.string f0, .string z] (by kernel_rfl) (by (try simp only [List.map_toArray, List.map_cons, List.map_nil]); first | done | rfl) ?_
      with_reducible refine (C2.out _).mono ?_
      rintro e w3 ⟨rfl, ⟨nd, rfl⟩⟩
      skip
      refine ⟨_, rfl, conf_static.S_below hHeld (p1_ (Below.refl _ _) _), fun hHeld => ⟨?_, ?_, ?_⟩⟩
      rotate_left
      ·simp only [Act.put, List.setIfInBounds_toArray, List.set_cons_zero, List.set_cons_succ, i64_w, i32_w]
       rfl
      iterate 3 first | (refine seqP (v := ?_) (a' := ?_) rfl rfl (by kernel_rfl) (fun _ _ _ h => h) (Or.inl ⟨by kernel_rfl, ?_⟩) ?_ ?_; rotate_left; (intro w'; go_simp; with_reducible rfl); rotate_left; (simp only [Act.put, List.setIfInBounds_toArray, List.set_cons_zero, List.set_cons_succ, i64_w, i32_w]; rfl)) | (refine seqL (v := ?_) (a' := ?_) rfl rfl (by kernel_rfl) (fun _ _ _ h => h) (Or.inl ⟨by kernel_rfl, ?_⟩) hHeld ?_ ?_; rotate_left; (rintro w' ⟨s0, s1, s2, s3, s4, s5, s6, s7⟩; go_simp; with_reducible rfl); rotate_left; (simp only [Act.put, List.setIfInBounds_toArray, List.set_cons_zero, List.set_cons_succ, i64_w, i32_w]; rfl))
      cases b2 with
      | false =>
       iterate 7 (refine seqP (v := undef) (a' := ?_) rfl rfl (by kernel_rfl) (fun _ _ _ h => h) (Or.inr ⟨by kernel_rfl, rfl⟩) ?_ ?_; rotate_left; (simp only [Act.put, List.setIfInBounds_toArray, List.set_cons_zero, List.set_cons_succ, i64_w, i32_w]; rfl))
       iterate 1 first | (refine seqP (v := ?_) (a' := ?_) rfl rfl (by kernel_rfl) (fun _ _ _ h => h) (Or.inl ⟨by kernel_rfl, ?_⟩) ?_ ?_; rotate_left; (intro w'; go_simp; with_reducible rfl); rotate_left; (simp only [Act.put, List.setIfInBounds_toArray, List.set_cons_zero, List.set_cons_succ, i64_w, i32_w]; rfl)) | (refine seqL (v := ?_) (a' := ?_) rfl rfl (by kernel_rfl) (fun _ _ _ h => h) (Or.inl ⟨by kernel_rfl, ?_⟩) hHeld ?_ ?_; rotate_left; (rintro w' ⟨s0, s1, s2, s3, s4, s5, s6, s7⟩; go_simp; with_reducible rfl); rotate_left; (simp only [Act.put, List.setIfInBounds_toArray, List.set_cons_zero, List.set_cons_succ, i64_w, i32_w]; rfl))
       refine seqE (by kernel_rfl) ?_
       go_wp2
       go_ret
       exact ⟨ret_bool (fin.out (by simp)), by repeat (with_reducible first | exact HB2.out | exact HB1.out | apply p3_ | apply p1_ | apply p2_)⟩
      | true =>
       iterate 8 first | (refine seqP (v := ?_) (a' := ?_) rfl rfl (by kernel_rfl) (fun _ _ _ h => h) (Or.inl ⟨by kernel_rfl, ?_⟩) ?_ ?_; rotate_left; (intro w'; go_simp; with_reducible rfl); rotate_left; (simp only [Act.put, List.setIfInBounds_toArray, List.set_cons_zero, List.set_cons_succ, i64_w, i32_w]; rfl)) | (refine seqL (v := ?_) (a' := ?_) rfl rfl (by kernel_rfl) (fun _ _ _ h => h) (Or.inl ⟨by kernel_rfl, ?_⟩) hHeld ?_ ?_; rotate_left; (rintro w' ⟨s0, s1, s2, s3, s4, s5, s6, s7⟩; go_simp; with_reducible rfl); rotate_left; (simp only [Act.put, List.setIfInBounds_toArray, List.set_cons_zero, List.set_cons_succ, i64_w, i32_w]; rfl))
       refine seqE (by kernel_rfl) ?_
       generalize hq : (f0.toList == z.toList) = b3
       cases b3 with
       | true =>
        replace hq := am_ hq
        go_wp2
        go_ret
        exact ⟨ret_bool (fin.out (by simpa using hq.out)), by repeat (with_reducible first | exact HB2.out | exact HB1.out | apply p3_ | apply p1_ | apply p2_)⟩
       | false =>
        have HS2 := am_ (HN.out (by simpa using hq))
        replace hq := am_ hq
        go_wp2
        go_roundg (l0.length - (i.toNat + 1))
        case measure => first | omega | (simp; omega)
        case rel =>
         have e2 : (i + 1).toNat = i.toNat + 1 := by omega
         exact ⟨i + 1, by omega, by omega, by go_num, ⟨by repeat (with_reducible first | exact HB2.out | exact HB1.out | apply p3_ | apply p1_ | apply p2_)⟩, ⟨by rw [e2]; exact HS2.out⟩⟩
    ·refine seqS (S := conf_static.S wr.heap.size g f0 5 f2 f3 f4 f5 f6 z) 37 (by kernel_rfl) rfl rfl (by unfold conf_static.S; go_simp) ?_
     intro hHeld
     iterate 4 first | (refine seqP (v := ?_) (a' := ?_) rfl rfl (by kernel_rfl) (fun _ _ _ h => h) (Or.inl ⟨by kernel_rfl, ?_⟩) ?_ ?_; rotate_left; (intro w'; go_simp; with_reducible rfl); rotate_left; (simp only [Act.put, List.setIfInBounds_toArray, List.set_cons_zero, List.set_cons_succ, i64_w, i32_w]; rfl)) | (refine seqL (v := ?_) (a' := ?_) rfl rfl (by kernel_rfl) (fun _ _ _ h => h) (Or.inl ⟨by kernel_rfl, ?_⟩) hHeld ?_ ?_; rotate_left; (rintro w' ⟨s0, s1, s2, s3, s4, s5, s6, s7⟩; go_simp; with_reducible rfl); rotate_left; (simp only [Act.put, List.setIfInBounds_toArray, List.set_cons_zero, List.set_cons_succ, i64_w, i32_w]; rfl))
     iterate 3 first | (refine seqP (v := ?_) (a' := ?_) rfl rfl (by kernel_rfl) (fun _ _ _ h => h) (Or.inl ⟨by kernel_rfl, ?_⟩) ?_ ?_; rotate_left; (intro w'; go_simp; with_reducible rfl); rotate_left; (simp only [Act.put, List.setIfInBounds_toArray, List.set_cons_zero, List.set_cons_succ, i64_w, i32_w]; rfl)) | (refine seqL (v := ?_) (a' := ?_) rfl rfl (by kernel_rfl) (fun _ _ _ h => h) (Or.inl ⟨by kernel_rfl, ?_⟩) hHeld ?_ ?_; rotate_left; (rintro w' ⟨s0, s1, s2, s3, s4, s5, s6, s7⟩; go_simp; with_reducible rfl); rotate_left; (simp only [Act.put, List.setIfInBounds_toArray, List.set_cons_zero, List.set_cons_succ, i64_w, i32_w]; rfl))
     iterate 2 first | (refine seqP (v := ?_) (a' := ?_) rfl rfl (by kernel_rfl) (fun _ _ _ h => h) (Or.inl ⟨by kernel_rfl, ?_⟩) ?_ ?_; rotate_left; (intro w'; go_simp; with_reducible rfl); rotate_left; (simp only [Act.put, List.setIfInBounds_toArray, List.set_cons_zero, List.set_cons_succ, i64_w, i32_w]; rfl)) | (refine seqL (v := ?_) (a' := ?_) rfl rfl (by kernel_rfl) (fun _ _ _ h => h) (Or.inl ⟨by kernel_rfl, ?_⟩) hHeld ?_ ?_; rotate_left; (rintro w' ⟨s0, s1, s2, s3, s4, s5, s6, s7⟩; go_simp; with_reducible rfl); rotate_left; (simp only [Act.put, List.setIfInBounds_toArray, List.set_cons_zero, List.set_cons_succ, i64_w, i32_w]; rfl))
     iterate 3 (refine seqP (v := undef) (a' := ?_) rfl rfl (by kernel_rfl) (fun _ _ _ h => h) (Or.inr ⟨by kernel_rfl, rfl⟩) ?_ ?_; rotate_left; (simp only [Act.put, List.setIfInBounds_toArray, List.set_cons_zero, List.set_cons_succ, i64_w, i32_w]; rfl))
     iterate 2 first | (refine seqP (v := ?_) (a' := ?_) rfl rfl (by kernel_rfl) (fun _ _ _ h => h) (Or.inl ⟨by kernel_rfl, ?_⟩) ?_ ?_; rotate_left; (intro w'; go_simp; with_reducible rfl); rotate_left; (simp only [Act.put, List.setIfInBounds_toArray, List.set_cons_zero, List.set_cons_succ, i64_w, i32_w]; rfl)) | (refine seqL (v := ?_) (a' := ?_) rfl rfl (by kernel_rfl) (fun _ _ _ h => h) (Or.inl ⟨by kernel_rfl, ?_⟩) hHeld ?_ ?_; rotate_left; (rintro w' ⟨s0, s1, s2, s3, s4, s5, s6, s7⟩; go_simp; with_reducible rfl); rotate_left; (simp only [Act.put, List.setIfInBounds_toArray, List.set_cons_zero, List.set_cons_succ, i64_w, i32_w]; rfl))
     iterate 1 first | (refine seqP (v := ?_) (a' := ?_) rfl rfl (by kernel_rfl) (fun _ _ _ h => h) (Or.inl ⟨by kernel_rfl, ?_⟩) ?_ ?_; rotate_left; (intro w'; go_simp; with_reducible rfl); rotate_left; (simp only [Act.put, List.setIfInBounds_toArray, List.set_cons_zero, List.set_cons_succ, i64_w, i32_w]; rfl)) | (refine seqL (v := ?_) (a' := ?_) rfl rfl (by kernel_rfl) (fun _ _ _ h => h) (Or.inl ⟨by kernel_rfl, ?_⟩) hHeld ?_ ?_; rotate_left; (rintro w' ⟨s0, s1, s2, s3, s4, s5, s6, s7⟩; go_simp; with_reducible rfl); rotate_left; (simp only [Act.put, List.setIfInBounds_toArray, List.set_cons_zero, List.set_cons_succ, i64_w, i32_w]; rfl))
     refine seqG (fn := Tryd.f65) rfl rfl (by kernel_rfl) rfl Tryd.func65 (by kernel_rfl) (by kernel_rfl) #[.agg #[.string f0, .int .i64 5, .int .i64 f2, .int .i64 f3, .string f4, .string f5, .int .i64 f6]] (by kernel_rfl) (by (try simp only [List.map_toArray, List.map_cons, List.map_nil]); first | done | rfl) ?_
     with_reducible refine (C1.out _).mono ?_
     rintro e w2 ⟨rfl, hb2⟩
     have HB2 := am_ (bt_ HB1.out hb2)
     refine ⟨_, rfl, conf_static.S_below hHeld hb2, fun hHeld => ⟨?_, ?_, ?_⟩⟩
     rotate_left
     ·simp only [Act.put, List.setIfInBounds_toArray, List.set_cons_zero, List.set_cons_succ, i64_w, i32_w]
      rfl
     iterate 3 first | (refine seqP (v := ?_) (a' := ?_) rfl rfl (by kernel_rfl) (fun _ _ _ h => h) (Or.inl ⟨by kernel_rfl, ?_⟩) ?_ ?_; rotate_left; (intro w'; go_simp; with_reducible rfl); rotate_left; (simp only [Act.put, List.setIfInBounds_toArray, List.set_cons_zero, List.set_cons_succ, i64_w, i32_w]; rfl)) | (refine seqL (v := ?_) (a' := ?_) rfl rfl (by kernel_rfl) (fun _ _ _ h => h) (Or.inl ⟨by kernel_rfl, ?_⟩) hHeld ?_ ?_; rotate_left; (rintro w' ⟨s0, s1, s2, s3, s4, s5, s6, s7⟩; go_simp; with_reducible rfl); rotate_left; (simp only [Act.put, List.setIfInBounds_toArray, List.set_cons_zero, List.set_cons_succ, i64_w, i32_w]; rfl))
     cases b1 with
     | false =>
      iterate 8 (refine seqP (v := undef) (a' := ?_) rfl rfl (by kernel_rfl) (fun _ _ _ h => h) (Or.inr ⟨by kernel_rfl, rfl⟩) ?_ ?_; rotate_left; (simp only [Act.put, List.setIfInBounds_toArray, List.set_cons_zero, List.set_cons_succ, i64_w, i32_w]; rfl))
      iterate 2 first | (refine seqP (v := ?_) (a' := ?_) rfl rfl (by kernel_rfl) (fun _ _ _ h => h) (Or.inl ⟨by kernel_rfl, ?_⟩) ?_ ?_; rotate_left; (intro w'; go_simp; with_reducible rfl); rotate_left; (simp only [Act.put, List.setIfInBounds_toArray, List.set_cons_zero, List.set_cons_succ, i64_w, i32_w]; rfl)) | (refine seqL (v := ?_) (a' := ?_) rfl rfl (by kernel_rfl) (fun _ _ _ h => h) (Or.inl ⟨by kernel_rfl, ?_⟩) hHeld ?_ ?_; rotate_left; (rintro w' ⟨s0, s1, s2, s3, s4, s5, s6, s7⟩; go_simp; with_reducible rfl); rotate_left; (simp only [Act.put, List.setIfInBounds_toArray, List.set_cons_zero, List.set_cons_succ, i64_w, i32_w]; rfl))
      iterate 7 (refine seqP (v := undef) (a' := ?_) rfl rfl (by kernel_rfl) (fun _ _ _ h => h) (Or.inr ⟨by kernel_rfl, rfl⟩) ?_ ?_; rotate_left; (simp only [Act.put, List.setIfInBounds_toArray, List.set_cons_zero, List.set_cons_succ, i64_w, i32_w]; rfl))
      iterate 1 first | (refine seqP (v := ?_) (a' := ?_) rfl rfl (by kernel_rfl) (fun _ _ _ h => h) (Or.inl ⟨by kernel_rfl, ?_⟩) ?_ ?_; rotate_left; (intro w'; go_simp; with_reducible rfl); rotate_left; (simp only [Act.put, List.setIfInBounds_toArray, List.set_cons_zero, List.set_cons_succ, i64_w, i32_w]; rfl)) | (refine seqL (v := ?_) (a' := ?_) rfl rfl (by kernel_rfl) (fun _ _ _ h => h) (Or.inl ⟨by kernel_rfl, ?_⟩) hHeld ?_ ?_; rotate_left; (rintro w' ⟨s0, s1, s2, s3, s4, s5, s6, s7⟩; go_simp; with_reducible rfl); rotate_left; (simp only [Act.put, List.setIfInBounds_toArray, List.set_cons_zero, List.set_cons_succ, i64_w, i32_w]; rfl))
      refine seqE (by kernel_rfl) ?_
      go_wp2
      go_ret
      exact ⟨ret_bool (fin.out (by simp)), by repeat (with_reducible first | exact HB2.out | exact HB1.out | apply p3_ | apply p1_ | apply p2_)⟩
     | true =>
      iterate 6 first | (refine seqP (v := ?_) (a' := ?_) rfl rfl (by kernel_rfl) (fun _ _ _ h => h) (Or.inl ⟨by kernel_rfl, ?_⟩) ?_ ?_; rotate_left; (intro w'; go_simp; with_reducible rfl); rotate_left; (simp only [Act.put, List.setIfInBounds_toArray, List.set_cons_zero, List.set_cons_succ, i64_w, i32_w]; rfl)) | (refine seqL (v := ?_) (a' := ?_) rfl rfl (by kernel_rfl) (fun _ _ _ h => h) (Or.inl ⟨by kernel_rfl, ?_⟩) hHeld ?_ ?_; rotate_left; (rintro w' ⟨s0, s1, s2, s3, s4, s5, s6, s7⟩; go_simp; with_reducible rfl); rotate_left; (simp only [Act.put, List.setIfInBounds_toArray, List.set_cons_zero, List.set_cons_succ, i64_w, i32_w]; rfl))
      refine seqG (fn := Tryd.f58) rfl rfl (by kernel_rfl) rfl Tryd.func58 (by kernel_rfl) (by kernel_rfl) #[.string f0, .string z] (by kernel_rfl) (by (try simp only [List.map_toArray, List.map_cons, List.map_nil]); first | done | rfl) ?_
      with_reducible refine (C2.out _).mono ?_
      rintro e w3 ⟨rfl, ⟨nd, rfl⟩⟩
      skip
      refine ⟨_, rfl, conf_static.S_below hHeld (p1_ (Below.refl _ _) _), fun hHeld => ⟨?_, ?_, ?_⟩⟩
      rotate_left
      ·simp only [Act.put, List.setIfInBounds_toArray, List.set_cons_zero, List.set_cons_succ, i64_w, i32_w]
       rfl
      iterate 3 first | (refine seqP (v := ?_) (a' := ?_) rfl rfl (by kernel_rfl) (fun _ _ _ h => h) (Or.inl ⟨by kernel_rfl, ?_⟩) ?_ ?_; rotate_left; (intro w'; go_simp; with_reducible rfl); rotate_left; (simp only [Act.put, List.setIfInBounds_toArray, List.set_cons_zero, List.set_cons_succ, i64_w, i32_w]; rfl)) | (refine seqL (v := ?_) (a' := ?_) rfl rfl (by kernel_rfl) (fun _ _ _ h => h) (Or.inl ⟨by kernel_rfl, ?_⟩) hHeld ?_ ?_; rotate_left; (rintro w' ⟨s0, s1, s2, s3, s4, s5, s6, s7⟩; go_simp; with_reducible rfl); rotate_left; (simp only [Act.put, List.setIfInBounds_toArray, List.set_cons_zero, List.set_cons_succ, i64_w, i32_w]; rfl))
      cases b2 with
      | false =>
       iterate 7 (refine seqP (v := undef) (a' := ?_) rfl rfl (by kernel_rfl) (fun _ _ _ h => h) (Or.inr ⟨by kernel_rfl, rfl⟩) ?_ ?_; rotate_left; (simp only [Act.put, List.setIfInBounds_toArray, List.set_cons_zero, List.set_cons_succ, i64_w, i32_w]; rfl))
       iterate 1 first | (refine seqP (v := ?_) (a' := ?_) rfl rfl (by kernel_rfl) (fun _ _ _ h => h) (Or.inl ⟨by kernel_rfl, ?_⟩) ?_ ?_; rotate_left; (intro w'; go_simp; with_reducible rfl); rotate_left; (simp only [Act.put, List.setIfInBounds_toArray, List.set_cons_zero, List.set_cons_succ, i64_w, i32_w]; rfl)) | (refine seqL (v := ?_) (a' := ?_) rfl rfl (by kernel_rfl) (fun _ _ _ h => h) (Or.inl ⟨by kernel_rfl, ?_⟩) hHeld ?_ ?_; rotate_left; (rintro w' ⟨s0, s1, s2, s3, s4, s5, s6, s7⟩; go_simp; with_reducible rfl); rotate_left; (simp only [Act.put, List.setIfInBounds_toArray, List.set_cons_zero, List.set_cons_succ, i64_w, i32_w]; rfl))
       refine seqE (by kernel_rfl) ?_
       go_wp2
       go_ret
       exact ⟨ret_bool (fin.out (by simp)), by repeat (with_reducible first | exact HB2.out | exact HB1.out | apply p3_ | apply p1_ | apply p2_)⟩
      | true =>
       iterate 8 first | (refine seqP (v := ?_) (a' := ?_) rfl rfl (by kernel_rfl) (fun _ _ _ h => h) (Or.inl ⟨by kernel_rfl, ?_⟩) ?_ ?_; rotate_left; (intro w'; go_simp; with_reducible rfl); rotate_left; (simp only [Act.put, List.setIfInBounds_toArray, List.set_cons_zero, List.set_cons_succ, i64_w, i32_w]; rfl)) | (refine seqL (v := ?_) (a' := ?_) rfl rfl (by kernel_rfl) (fun _ _ _ h => h) (Or.inl ⟨by kernel_rfl, ?_⟩) hHeld ?_ ?_; rotate_left; (rintro w' ⟨s0, s1, s2, s3, s4, s5, s6, s7⟩; go_simp; with_reducible rfl); rotate_left; (simp only [Act.put, List.setIfInBounds_toArray, List.set_cons_zero, List.set_cons_succ, i64_w, i32_w]; rfl))
       refine seqE (by kernel_rfl) ?_
       generalize hq : (f0.toList == z.toList) = b3
       cases b3 with
       | true =>
        replace hq := am_ hq
        go_wp2
        go_ret
        exact ⟨ret_bool (fin.out (by simpa using hq.out)), by repeat (with_reducible first | exact HB2.out | exact HB1.out | apply p3_ | apply p1_ | apply p2_)⟩
       | false =>
        have HS2 := am_ (HN.out (by simpa using hq))
        replace hq := am_ hq
        go_wp2
        go_roundg (l0.length - (i.toNat + 1))
        case measure => first | omega | (simp; omega)
        case rel =>
         have e2 : (i + 1).toNat = i.toNat + 1 := by omega
         exact ⟨i + 1, by omega, by omega, by go_num, ⟨by repeat (with_reducible first | exact HB2.out | exact HB1.out | apply p3_ | apply p1_ | apply p2_)⟩, ⟨by rw [e2]; exact HS2.out⟩⟩
    ·refine seqS (S := conf_static.S wr.heap.size g f0 16 f2 f3 f4 f5 f6 z) 37 (by kernel_rfl) rfl rfl (by unfold conf_static.S; go_simp) ?_
     intro hHeld
     iterate 14 first | (refine seqP (v := ?_) (a' := ?_) rfl rfl (by kernel_rfl) (fun _ _ _ h => h) (Or.inl ⟨by kernel_rfl, ?_⟩) ?_ ?_; rotate_left; (intro w'; go_simp; with_reducible rfl); rotate_left; (simp only [Act.put, List.setIfInBounds_toArray, List.set_cons_zero, List.set_cons_succ, i64_w, i32_w]; rfl)) | (refine seqL (v := ?_) (a' := ?_) rfl rfl (by kernel_rfl) (fun _ _ _ h => h) (Or.inl ⟨by kernel_rfl, ?_⟩) hHeld ?_ ?_; rotate_left; (rintro w' ⟨s0, s1, s2, s3, s4, s5, s6, s7⟩; go_simp; with_reducible rfl); rotate_left; (simp only [Act.put, List.setIfInBounds_toArray, List.set_cons_zero, List.set_cons_succ, i64_w, i32_w]; rfl))
     iterate 1 first | (refine seqP (v := ?_) (a' := ?_) rfl rfl (by kernel_rfl) (fun _ _ _ h => h) (Or.inl ⟨by kernel_rfl, ?_⟩) ?_ ?_; rotate_left; (intro w'; go_simp; with_reducible rfl); rotate_left; (simp only [Act.put, List.setIfInBounds_toArray, List.set_cons_zero, List.set_cons_succ, i64_w, i32_w]; rfl)) | (refine seqL (v := ?_) (a' := ?_) rfl rfl (by kernel_rfl) (fun _ _ _ h => h) (Or.inl ⟨by kernel_rfl, ?_⟩) hHeld ?_ ?_; rotate_left; (rintro w' ⟨s0, s1, s2, s3, s4, s5, s6, s7⟩; go_simp; with_reducible rfl); rotate_left; (simp only [Act.put, List.setIfInBounds_toArray, List.set_cons_zero, List.set_cons_succ, i64_w, i32_w]; rfl))
     refine seqG (fn := Tryd.f65) rfl rfl (by kernel_rfl) rfl Tryd.func65 (by kernel_rfl) (by kernel_rfl) #[.agg #[.string f0, .int .i64 16, .int .i64 f2, .int .i64 f3, .string f4, .string f5, .int .i64 f6]] (by kernel_rfl) (by (try simp only [List.map_toArray, List.map_cons, List.map_nil]); first | done | rfl) ?_
     with_reducible refine (C1.out _).mono ?_
     rintro e w2 ⟨rfl, hb2⟩
     have HB2 := am_ (bt_ HB1.out hb2)
     refine ⟨_, rfl, conf_static.S_below hHeld hb2, fun hHeld => ⟨?_, ?_, ?_⟩⟩
     rotate_left
     ·simp only [Act.put, List.setIfInBounds_toArray, List.set_cons_zero, List.set_cons_succ, i64_w, i32_w]
      rfl
     iterate 3 first | (refine seqP (v := ?_) (a' := ?_) rfl rfl (by kernel_rfl) (fun _ _ _ h => h) (Or.inl ⟨by kernel_rfl, ?_⟩) ?_ ?_; rotate_left; (intro w'; go_simp; with_reducible rfl); rotate_left; (simp only [Act.put, List.setIfInBounds_toArray, List.set_cons_zero, List.set_cons_succ, i64_w, i32_w]; rfl)) | (refine seqL (v := ?_) (a' := ?_) rfl rfl (by kernel_rfl) (fun _ _ _ h => h) (Or.inl ⟨by kernel_rfl, ?_⟩) hHeld ?_ ?_; rotate_left; (rintro w' ⟨s0, s1, s2, s3, s4, s5, s6, s7⟩; go_simp; with_reducible rfl); rotate_left; (simp only [Act.put, List.setIfInBounds_toArray, List.set_cons_zero, List.set_cons_succ, i64_w, i32_w]; rfl))
     cases b1 with
     | false =>
      iterate 8 (refine seqP (v := undef) (a' := ?_) rfl rfl (by kernel_rfl) (fun _ _ _ h => h) (Or.inr ⟨by kernel_rfl, rfl⟩) ?_ ?_; rotate_left; (simp only [Act.put, List.setIfInBounds_toArray, List.set_cons_zero, List.set_cons_succ, i64_w, i32_w]; rfl))
      iterate 2 first | (refine seqP (v := ?_) (a' := ?_) rfl rfl (by kernel_rfl) (fun _ _ _ h => h) (Or.inl ⟨by kernel_rfl, ?_⟩) ?_ ?_; rotate_left; (intro w'; go_simp; with_reducible rfl); rotate_left; (simp only [Act.put, List.setIfInBounds_toArray, List.set_cons_zero, List.set_cons_succ, i64_w, i32_w]; rfl)) | (refine seqL (v := ?_) (a' := ?_) rfl rfl (by kernel_rfl) (fun _ _ _ h => h) (Or.inl ⟨by kernel_rfl, ?_⟩) hHeld ?_ ?_; rotate_left; (rintro w' ⟨s0, s1, s2, s3, s4, s5, s6, s7⟩; go_simp; with_reducible rfl); rotate_left; (simp only [Act.put, List.setIfInBounds_toArray, List.set_cons_zero, List.set_cons_succ, i64_w, i32_w]; rfl))
      iterate 7 (refine seqP (v := undef) (a' := ?_) rfl rfl (by kernel_rfl) (fun _ _ _ h => h) (Or.inr ⟨by kernel_rfl, rfl⟩) ?_ ?_; rotate_left; (simp only [Act.put, List.setIfInBounds_toArray, List.set_cons_zero, List.set_cons_succ, i64_w, i32_w]; rfl))
      iterate 1 first | (refine seqP (v := ?_) (a' := ?_) rfl rfl (by kernel_rfl) (fun _ _ _ h => h) (Or.inl ⟨by kernel_rfl, ?_⟩) ?_ ?_; rotate_left; (intro w'; go_simp; with_reducible rfl); rotate_left; (simp only [Act.put, List.setIfInBounds_toArray, List.set_cons_zero, List.set_cons_succ, i64_w, i32_w]; rfl)) | (refine seqL (v := ?_) (a' := ?_) rfl rfl (by kernel_rfl) (fun _ _ _ h => h) (Or.inl ⟨by kernel_rfl, ?_⟩) hHeld ?_ ?_; rotate_left; (rintro w' ⟨s0, s1, s2, s3, s4, s5, s6, s7⟩; go_simp; with_reducible rfl); rotate_left; (simp only [Act.put, List.setIfInBounds_toArray, List.set_cons_zero, List.set_cons_succ, i64_w, i32_w]; rfl))
      refine seqE (by kernel_rfl) ?_
      go_wp2
      go_ret
      exact ⟨ret_bool (fin.out (by simp)), by repeat (with_reducible first | exact HB2.out | exact HB1.out | apply p3_ | apply p1_ | apply p2_)⟩
     | true =>
      iterate 6 first | (refine seqP (v := ?_) (a' := ?_) rfl rfl (by kernel_rfl) (fun _ _ _ h => h) (Or.inl ⟨by kernel_rfl, ?_⟩) ?_ ?_; rotate_left; (intro w'; go_simp; with_reducible rfl); rotate_left; (simp only [Act.put, List.setIfInBounds_toArray, List.set_cons_zero, List.set_cons_succ, i64_w, i32_w]; rfl)) | (refine seqL (v := ?_) (a' := ?_) rfl rfl (by kernel_rfl) (fun _ _ _ h => h) (Or.inl ⟨by kernel_rfl, ?_⟩) hHeld ?_ ?_; rotate_left; (rintro w' ⟨s0, s1, s2, s3, s4, s5, s6, s7⟩; go_simp; with_reducible rfl); rotate_left; (simp only [Act.put, List.setIfInBounds_toArray, List.set_cons_zero, List.set_cons_succ, i64_w, i32_w]; rfl))
      refine seqG (fn := Tryd.f58) rfl rfl (by kernel_rfl) rfl Tryd.func58 (by kernel_rfl) (by kernel_rfl) #[.string f0, .string z] (by kernel_rfl) (by (try simp only [List.map_toArray, List.map_cons, List.map_nil]); first | done | rfl) ?_
      with_reducible refine (C2.out _).mono ?_
      rintro e w3 ⟨rfl, ⟨nd, rfl⟩⟩
      skip
      refine ⟨_, rfl, conf_static.S_below hHeld (p1_ (Below.refl _ _) _), fun hHeld => ⟨?_, ?_, ?_⟩⟩
      rotate_left
      ·simp only [Act.put, List.setIfInBounds_toArray, List.set_cons_zero, List.set_cons_succ, i64_w, i32_w]
       rfl
      iterate 3 first | (refine seqP (v := ?_) (a' := ?_) rfl rfl (by kernel_rfl) (fun _ _ _ h => h) (Or.inl ⟨by kernel_rfl, ?_⟩) ?_ ?_; rotate_left; (intro w'; go_simp; with_reducible rfl); rotate_left; (simp only [Act.put, List.setIfInBounds_toArray, List.set_cons_zero, List.set_cons_succ, i64_w, i32_w]; rfl)) | (refine seqL (v := ?_) (a' := ?_) rfl rfl (by kernel_rfl) (fun _ _ _ h => h) (Or.inl ⟨by kernel_rfl, ?_⟩) hHeld ?_ ?_; rotate_left; (rintro w' ⟨s0, s1, s2, s3, s4, s5, s6, s7⟩; go_simp; with_reducible rfl); rotate_left; (simp only [Act.put, List.setIfInBounds_toArray, List.set_cons_zero, List.set_cons_succ, i64_w, i32_w]; rfl))
      cases b2 with
      | false =>
       iterate 7 (refine seqP (v := undef) (a' := ?_) rfl rfl (by kernel_rfl) (fun _ _ _ h => h) (Or.inr ⟨by kernel_rfl, rfl⟩) ?_ ?_; rotate_left; (simp only [Act.put, List.setIfInBounds_toArray, List.set_cons_zero, List.set_cons_succ, i64_w, i32_w]; rfl))
       iterate 1 first | (refine seqP (v := ?_) (a' := ?_) rfl rfl (by kernel_rfl) (fun _ _ _ h => h) (Or.inl ⟨by kernel_rfl, ?_⟩) ?_ ?_; rotate_left; (intro w'; go_simp; with_reducible rfl); rotate_left; (simp only [Act.put, List.setIfInBounds_toArray, List.set_cons_zero, List.set_cons_succ, i64_w, i32_w]; rfl)) | (refine seqL (v := ?_) (a' := ?_) rfl rfl (by kernel_rfl) (fun _ _ _ h => h) (Or.inl ⟨by kernel_rfl, ?_⟩) hHeld ?_ ?_; rotate_left; (rintro w' ⟨s0, s1, s2, s3, s4, s5, s6, s7⟩; go_simp; with_reducible rfl); rotate_left; (simp only [Act.put, List.setIfInBounds_toArray, List.set_cons_zero, List.set_cons_succ, i64_w, i32_w]; rfl))
       refine seqE (by kernel_rfl) ?_
       go_wp2
       go_ret
       exact ⟨ret_bool (fin.out (by simp)), by repeat (with_reducible first | exact HB2.out | exact HB1.out | apply p3_ | apply p1_ | apply p2_)⟩
      | true =>
       iterate 8 first | (refine seqP (v := ?_) (a' := ?_) rfl rfl (by kernel_rfl) (fun _ _ _ h => h) (Or.inl ⟨by kernel_rfl, ?_⟩) ?_ ?_; rotate_left; (intro w'; go_simp; with_reducible rfl); rotate_left; (simp only [Act.put, List.setIfInBounds_toArray, List.set_cons_zero, List.set_cons_succ, i64_w, i32_w]; rfl)) | (refine seqL (v := ?_) (a' := ?_) rfl rfl (by kernel_rfl) (fun _ _ _ h => h) (Or.inl ⟨by kernel_rfl, ?_⟩) hHeld ?_ ?_; rotate_left; (rintro w' ⟨s0, s1, s2, s3, s4, s5, s6, s7⟩; go_simp; with_reducible rfl); rotate_left; (simp only [Act.put, List.setIfInBounds_toArray, List.set_cons_zero, List.set_cons_succ, i64_w, i32_w]; rfl))
       refine seqE (by kernel_rfl) ?_
       generalize hq : (f0.toList == z.toList) = b3
       cases b3 with
       | true =>
        replace hq := am_ hq
        go_wp2
        go_ret
        exact ⟨ret_bool (fin.out (by simpa using hq.out)), by repeat (with_reducible first | exact HB2.out | exact HB1.out | apply p3_ | apply p1_ | apply p2_)⟩
       | false =>
        have HS2 := am_ (HN.out (by simpa using hq))
        replace hq := am_ hq
        go_wp2
        go_roundg (l0.length - (i.toNat + 1))
        case measure => first | omega | (simp; omega)
        case rel =>
         have e2 : (i + 1).toNat = i.toNat + 1 := by omega
         exact ⟨i + 1, by omega, by omega, by go_num, ⟨by repeat (with_reducible first | exact HB2.out | exact HB1.out | apply p3_ | apply p1_ | apply p2_)⟩, ⟨by rw [e2]; exact HS2.out⟩⟩
   ·have q1 : (f1 != 1) = true := by simp; omega
    have q5 : (f1 != 5) = true := by simp; omega
    have q16 : (f1 != 16) = true := by simp; omega
    have ff := fin (by unfold staticB; rw [decide_eq_false qk]; rfl)
    replace ff := am_ ff
    clear qk hsz fin HN
    go_wp2_with fail
    go_quiet (fail)
    go_wp2
    go_ret
    exact ⟨ret_bool ff.out, by repeat (with_reducible first | exact HB.out | apply p3_ | apply p1_ | apply p2_)⟩
  ·have e3 : l0.drop i.toNat = [] := List.drop_eq_nil_of_le (by omega)
   have HE := am_ (show l0.all (staticB z) = true by rw [HS.out, e3]; rfl)
   clear HS
   go_wp2
   go_ret
   refine ⟨ret_bool ?_, HB.out⟩
   rw [← e4.out, HE.out, Bool.true_and]
   exact decide_eq_decide.2 (by omega)

/-! ### conf_May: function 20 -/
-- BY HAND
/-- may a configuration be. -/
def confB (a0 a1 : Int) (l2 : List Int) (l3 : List S47) (a4 : Int) (z : ByteArray) (l6 : List S49) : Bool :=
 decide (2 ≤ a0 ∧ a0 ≤ a1 ∧ a1 ≤ 254 ∧ a1 - a0 < 8) && (decide (z.toList ≠ []) && (nameB (bytesOf z) && decide ((labelsS z).length ≤ 4))) && (decide (1 ≤ a4 ∧ a4 ≤ 1048576) && (hostsB a0 a1 l2 8 && (reservedB a0 a1 l3 && staticsB z l6)))
/-- how long the parts of a configuration may be, that the walks reach. -/
def confFit (l2 : List Int) (l3 : List S47) (z : ByteArray) (l6 : List S49) : Prop := l2.length ≤ 140737488351232 ∧ l3.length ≤ 5864062014805 ∧ z.size ≤ 140737488351232 ∧ l6.length ≤ 140737488351232 ∧ ∀ x ∈ l6, x.f0.size ≤ 140737488351232 ∧ x.f4.size ≤ 140737488351232
instance (l2 : List Int) (l3 : List S47) (z : ByteArray) (l6 : List S49) : Decidable (confFit l2 l3 z l6) := by unfold confFit; infer_instance
def conf_May.f (a0_0 : Int) (a0_1 : Int) (l0_2 : List Int) (l0_3 : List S47) (a0_4 : Int) (a0_5 : ByteArray) (l0_6 : List S49) : Option Bool := if confFit l0_2 l0_3 a0_5 l0_6 then some (confB a0_0 a0_1 l0_2 l0_3 a0_4 a0_5 l0_6) else none
set_option maxHeartbeats 8000000 in
set_option maxRecDepth 100000 in
theorem conf_May.calls (a0_0 : Int) (a0_1 : Int) (A0_2 : Option Addr) (c0_2 : Nat) (l0_2 : List Int) (A0_3 : Option Addr) (c0_3 : Nat) (l0_3 : List S47) (a0_4 : Int) (a0_5 : ByteArray) (A0_6 : Option Addr) (c0_6 : Nat) (l0_6 : List S49) (r : Bool) (w : World) (hr0_2 : Kd.C (Kd.int .i64) w A0_2 l0_2.length l0_2) (hc0_2 : l0_2.length ≤ c0_2) (hr0_3 : Kd.C k47 w A0_3 l0_3.length l0_3) (hc0_3 : l0_3.length ≤ c0_3) (hr0_6 : Kd.C k49 w A0_6 l0_6.length l0_6) (hc0_6 : l0_6.length ≤ c0_6) (h : conf_May.f a0_0 a0_1 l0_2 l0_3 a0_4 a0_5 l0_6 = some r) :
  Calls Tryd.prog 20 #[.agg #[.int .i64 a0_0, .int .i64 a0_1, .slice A0_2 l0_2.length c0_2, .slice A0_3 l0_3.length c0_3, .int .i64 a0_4, .string a0_5, .slice A0_6 l0_6.length c0_6]] w fun e w' => e = .returned (.bool r) ∧ Below w.heap.size w w' := by
 unfold conf_May.f at h
 by_cases hs : confFit l0_2 l0_3 a0_5 l0_6
 rotate_left
 ·rw [if_neg hs] at h
  cases h
 rw [if_pos hs] at h
 have HR := am_ (e5_ h)
 obtain ⟨f2, f3, fz, f6, fx⟩ := hs
 obtain ⟨n5, h5⟩ : ∃ b, nameB (bytesOf a0_5) = b := ⟨_, rfl⟩
 obtain ⟨L, hL⟩ : ∃ b, labelsS a0_5 = b := ⟨_, rfl⟩
 obtain ⟨b2, hb2⟩ : ∃ b, hostsB a0_0 a0_1 l0_2 8 = b := ⟨_, rfl⟩
 obtain ⟨b3, hb3⟩ : ∃ b, reservedB a0_0 a0_1 l0_3 = b := ⟨_, rfl⟩
 obtain ⟨b6, hb6⟩ : ∃ b, staticsB a0_5 l0_6 = b := ⟨_, rfl⟩
 have CN := am_ (fun W => name_May_c.calls a0_5 n5 W (by unfold name_May_c.f; rw [if_pos (by omega), h5]))
 have CL := am_ (fun W => name_Labels_c.calls a0_5 L W (by unfold name_Labels_c.f; rw [if_pos (by omega), hL]))
 have CH := am_ (fun W (bk : W.heap[w.heap.size]? = some (.cells #[.int .i64 a0_0, .int .i64 a0_1, .slice A0_2 l0_2.length c0_2, .slice A0_3 l0_3.length c0_3, .int .i64 a0_4, .string a0_5, .slice A0_6 l0_6.length c0_6] 26)) (hb : Below w.heap.size w W) (h2 : 2 ≤ a0_0 ∧ a0_1 ≤ 254) => by have := conf_hosts.calls w.heap.size a0_0 a0_1 A0_2 c0_2 l0_2 8 W ((bc_ bk 0).trans rfl) ((bc_ bk 1).trans rfl) h2 (c4_ hr0_2 hb) f2; rw [hb2] at this; exact this)
 have CR := am_ (fun W (bk : W.heap[w.heap.size]? = some (.cells #[.int .i64 a0_0, .int .i64 a0_1, .slice A0_2 l0_2.length c0_2, .slice A0_3 l0_3.length c0_3, .int .i64 a0_4, .string a0_5, .slice A0_6 l0_6.length c0_6] 26)) (hb : Below w.heap.size w W) (h2 : 2 ≤ a0_0 ∧ a0_1 ≤ 254) => by have := conf_reserved.calls w.heap.size a0_0 a0_1 A0_3 c0_3 l0_3 W ((bc_ bk 0).trans rfl) ((bc_ bk 1).trans rfl) ((bc_ bk 3).trans rfl) h2 (c4_ hr0_3 hb) f3; rw [hb3] at this; exact this)
 have CS := am_ (fun W (bk : W.heap[w.heap.size]? = some (.cells #[.int .i64 a0_0, .int .i64 a0_1, .slice A0_2 l0_2.length c0_2, .slice A0_3 l0_3.length c0_3, .int .i64 a0_4, .string a0_5, .slice A0_6 l0_6.length c0_6] 26)) (hb : Below w.heap.size w W) => by have := conf_static.calls w.heap.size a0_5 A0_6 c0_6 l0_6 W ((bc_ bk 5).trans rfl) ((bc_ bk 6).trans rfl) (c4_ hr0_6 hb) f6 (by omega) (fun x hx => by have := fx x hx; omega); rw [hb6] at this; exact this)
 have HR2 := am_ (show (decide (2 ≤ a0_0 ∧ a0_0 ≤ a0_1 ∧ a0_1 ≤ 254 ∧ a0_1 - a0_0 < 8) && (decide (a0_5.toList ≠ []) && (n5 && decide (L.length ≤ 4))) && (decide (1 ≤ a0_4 ∧ a0_4 ≤ 1048576) && (b2 && (b3 && b6)))) = r by rw [← HR.out, ← h5, ← hL, ← hb2, ← hb3, ← hb6]; rfl)
 have HB := am_ (Below.refl w.heap.size w)
 have BK := am_ (blk_new w (.cells #[.int .i64 a0_0, .int .i64 a0_1, .slice A0_2 l0_2.length c0_2, .slice A0_3 l0_3.length c0_3, .int .i64 a0_4, .string a0_5, .slice A0_6 l0_6.length c0_6] 26))
 clear h h5 hL hb2 hb3 hb6 HR f2 f3 fz f6 fx hr0_2 hr0_3 hr0_6 hc0_2 hc0_3 hc0_6
 go_enter Tryd.func20, Tryd.ntmps20
 go_wp2_with (first
  | (go_at_call 41; (with_reducible refine (CN.out _).mono ?_); rintro e w1 ⟨rfl, ⟨nd, rfl⟩⟩)
  | (go_at_call 42; (with_reducible refine (CL.out _).mono ?_); rintro e w2 ⟨v, rfl, hR, hb2⟩; obtain ⟨A, c, rfl, hcl, hCl⟩ := Kd.R_reads hR; clear hcl hCl hR; replace BK := am_ (kb_ (show _ from by (with_reducible repeat (first | refine k2_ ?_ _ | refine k3_ ?_ | refine k1_ ?_ _)); exact BK.out) hb2); replace HB := am_ (bt_ (show Below w.heap.size w _ by repeat (with_reducible first | exact HB.out | apply p3_ | apply p1_ | apply p2_)) hb2); clear hb2; have u0 := bc_ BK.out 0; have u1 := bc_ BK.out 1; have u2 := bc_ BK.out 2; have u3 := bc_ BK.out 3; have u4 := bc_ BK.out 4; have u5 := bc_ BK.out 5; have u6 := bc_ BK.out 6)
  | (go_at_call 43; (with_reducible refine (CH.out _ (by (with_reducible repeat (first | refine k2_ ?_ _ | refine k3_ ?_ | refine k1_ ?_ _)); exact BK.out) (by repeat (with_reducible first | exact HB.out | apply p3_ | apply p1_ | apply p2_)) (by omega)).mono ?_); rintro e w3 ⟨rfl, hb2⟩; replace BK := am_ (kb_ (show _ from (by (with_reducible repeat (first | refine k2_ ?_ _ | refine k3_ ?_ | refine k1_ ?_ _)); exact BK.out)) hb2); replace HB := am_ (bt_ (show Below w.heap.size w _ from (by repeat (with_reducible first | exact HB.out | apply p3_ | apply p1_ | apply p2_))) hb2); clear hb2)
  | (go_at_call 44; (with_reducible refine (CR.out _ (by (with_reducible repeat (first | refine k2_ ?_ _ | refine k3_ ?_ | refine k1_ ?_ _)); exact BK.out) (by repeat (with_reducible first | exact HB.out | apply p3_ | apply p1_ | apply p2_)) (by omega)).mono ?_); rintro e w4 ⟨rfl, hb2⟩; replace BK := am_ (kb_ (show _ from (by (with_reducible repeat (first | refine k2_ ?_ _ | refine k3_ ?_ | refine k1_ ?_ _)); exact BK.out)) hb2); replace HB := am_ (bt_ (show Below w.heap.size w _ from (by repeat (with_reducible first | exact HB.out | apply p3_ | apply p1_ | apply p2_))) hb2); clear hb2)
  | (go_at_call 45; (with_reducible refine (CS.out _ (by (with_reducible repeat (first | refine k2_ ?_ _ | refine k3_ ?_ | refine k1_ ?_ _)); exact BK.out) (by repeat (with_reducible first | exact HB.out | apply p3_ | apply p1_ | apply p2_))).mono ?_); rintro e w5 ⟨rfl, hb2⟩; replace BK := am_ (kb_ (show _ from (by (with_reducible repeat (first | refine k2_ ?_ _ | refine k3_ ?_ | refine k1_ ?_ _)); exact BK.out)) hb2); replace HB := am_ (bt_ (show Below w.heap.size w _ from (by repeat (with_reducible first | exact HB.out | apply p3_ | apply p1_ | apply p2_))) hb2); clear hb2))
 all_goals go_ret
 all_goals refine ⟨ret_bool ?_, ?_⟩
 all_goals first
  | ((repeat (with_reducible first | exact HB.out | apply p3_ | apply p1_ | apply p2_)); done)
  | (rw [← HR2.out]; clear HR2 CN CL CH CR CS; simp [*] <;> omega)
  | (have q0 : a0_5.toList.isEmpty = false := (by simpa using (show ¬ a0_5.toList = [] by assumption)); rw [← HR2.out, decide_eq_true (show 2 ≤ a0_0 ∧ a0_0 ≤ a0_1 ∧ a0_1 ≤ 254 ∧ a0_1 - a0_0 < 8 by omega), decide_eq_true (show a0_5.toList ≠ [] by assumption), decide_eq_true (show L.length ≤ 4 by omega), decide_eq_true (show 1 ≤ a0_4 ∧ a0_4 ≤ 1048576 by omega)]; simp only [*, q0, Bool.not_false, Bool.true_and])

/-! ### regis_Full: function 33 -/
def regis_Full.j0 : Nat → ByteArray → Int → Int → List Int → List (S47) → Int → ByteArray → List (S49) → Option (ByteArray)
 | 0, _, _, _, _, _, _, _, _ => none
 | k + 1, x5, x153000, x153001, x153002, x153003, x153004, x153005, x153006 => (name_May_c.f x5).bind fun t157 => (if t157 = true then ((conf_May.f x153000 x153001 x153002 x153003 x153004 x153005 x153006).bind fun t158 => (if t158 = true then (some x5) else (some (⟨#[]⟩ : ByteArray)))) else (some (⟨#[]⟩ : ByteArray)))
def regis_Full.f (k : Nat) (a0_0 : Int) (a0_1 : Int) (l0_2 : List Int) (l0_3 : List (S47)) (a0_4 : Int) (a0_5 : ByteArray) (l0_6 : List (S49)) (a1 : ByteArray) : Option (ByteArray) := (name_Labels_c.f a1).bind fun t153 => (if (t153.length : Int) = 1 then (if a1.size + 1 ≤ 9223372036854775807 then (if (a1 ++ (⟨#[46]⟩ : ByteArray)).size + a0_5.size ≤ 9223372036854775807 then (regis_Full.j0 k ((a1 ++ (⟨#[46]⟩ : ByteArray)) ++ a0_5) a0_0 a0_1 l0_2 l0_3 a0_4 a0_5 l0_6) else (none)) else (none)) else (if a1.toList = a0_5.toList then (some (⟨#[]⟩ : ByteArray)) else ((name_Under_c.f a1 a0_5).bind fun t156 => (if t156 = true then (regis_Full.j0 k a1 a0_0 a0_1 l0_2 l0_3 a0_4 a0_5 l0_6) else (some (⟨#[]⟩ : ByteArray))))))
theorem regis_Full.mono_l : ∀ k, (∀ y0 y1 y2 y3 y4 y5 y6 y7, LeO (regis_Full.j0 k y0 y1 y2 y3 y4 y5 y6 y7) (regis_Full.j0 (k + 1) y0 y1 y2 y3 y4 y5 y6 y7))
 | 0 => fun _ _ _ _ _ _ _ _ r h => by simp [regis_Full.j0] at h
 | k + 1 => by
  have ih0 := regis_Full.mono_l k
  ·intro y0 y1 y2 y3 y4 y5 y6 y7
   unfold regis_Full.j0
   repeat' first
   | (with_reducible exact ih0 _ _ _ _ _ _ _ _)
   | (with_reducible exact LeO.refl _)
   | (with_reducible exact LeO.none _)
   | (with_reducible refine LeO.ite ?_ ?_)
   | (with_reducible refine LeO.bind ?_ (fun _ => ?_))
   | exact ih0 _ _ _ _ _ _ _ _
   | exact LeO.none _
   | refine LeO.ite ?_ ?_
   | refine LeO.bind ?_ (fun _ => ?_)
theorem regis_Full.mono : ∀ a0 a1 a2 a3 a4 a5 a6 a7 k, LeO (regis_Full.f k a0 a1 a2 a3 a4 a5 a6 a7) (regis_Full.f (k + 1) a0 a1 a2 a3 a4 a5 a6 a7) := by
 intro a0 a1 a2 a3 a4 a5 a6 a7 k
 have ih0 := regis_Full.mono_l k
 unfold regis_Full.f
 repeat' first
   | (with_reducible exact ih0 _ _ _ _ _ _ _ _)
   | (with_reducible exact LeO.refl _)
   | (with_reducible exact LeO.none _)
   | (with_reducible refine LeO.ite ?_ ?_)
   | (with_reducible refine LeO.bind ?_ (fun _ => ?_))
   | exact ih0 _ _ _ _ _ _ _ _
   | exact LeO.none _
   | refine LeO.ite ?_ ?_
   | refine LeO.bind ?_ (fun _ => ?_)
set_option maxHeartbeats 8000000 in
set_option maxRecDepth 100000 in
theorem regis_Full.calls (k : Nat) (a0_0 : Int) (a0_1 : Int) (A0_2 : Option Addr) (c0_2 : Nat) (l0_2 : List Int) (A0_3 : Option Addr) (c0_3 : Nat) (l0_3 : List (S47)) (a0_4 : Int) (a0_5 : ByteArray) (A0_6 : Option Addr) (c0_6 : Nat) (l0_6 : List (S49)) (a1 : ByteArray) (r : ByteArray) (w : World) (hr0_2 : Kd.C (Kd.int .i64) w A0_2 l0_2.length l0_2) (hc0_2 : l0_2.length ≤ c0_2) (hr0_3 : Kd.C k47 w A0_3 l0_3.length l0_3) (hc0_3 : l0_3.length ≤ c0_3) (hr0_6 : Kd.C k49 w A0_6 l0_6.length l0_6) (hc0_6 : l0_6.length ≤ c0_6) (h : regis_Full.f k a0_0 a0_1 l0_2 l0_3 a0_4 a0_5 l0_6 a1 = some r) :
  Calls Tryd.prog 33 #[.agg #[.int .i64 a0_0, .int .i64 a0_1, .slice A0_2 l0_2.length c0_2, .slice A0_3 l0_3.length c0_3, .int .i64 a0_4, .string a0_5, .slice A0_6 l0_6.length c0_6], .string a1] w fun e w' => e = .returned (.string r) ∧ Below w.heap.size w w' := by
 have hu26 := Tryd.underlying26
 have HR0_2 := am_ hr0_2
 have HC0_2 := am_ hc0_2
 clear hr0_2 hc0_2
 have HR0_3 := am_ hr0_3
 have HC0_3 := am_ hc0_3
 clear hr0_3 hc0_3
 have HR0_6 := am_ hr0_6
 have HC0_6 := am_ hc0_6
 clear hr0_6 hc0_6
 have HB := am_ (Below.refl w.heap.size w)
 have H : ((name_Labels_c.f a1).bind fun t153 => (if (t153.length : Int) = 1 then (if a1.size + 1 ≤ 9223372036854775807 then (if (a1 ++ (⟨#[46]⟩ : ByteArray)).size + a0_5.size ≤ 9223372036854775807 then (regis_Full.j0 k ((a1 ++ (⟨#[46]⟩ : ByteArray)) ++ a0_5) a0_0 a0_1 l0_2 l0_3 a0_4 a0_5 l0_6) else (none)) else (none)) else (if a1.toList = a0_5.toList then (some (⟨#[]⟩ : ByteArray)) else ((name_Under_c.f a1 a0_5).bind fun t156 => (if t156 = true then (regis_Full.j0 k a1 a0_0 a0_1 l0_2 l0_3 a0_4 a0_5 l0_6) else (some (⟨#[]⟩ : ByteArray))))))) = some r := h
 clear h
 replace H := e4_ H
 obtain ⟨t153, A30, H⟩ := H
 replace H : (if (t153.length : Int) = 1 then (if a1.size + 1 ≤ 9223372036854775807 then (if (a1 ++ (⟨#[46]⟩ : ByteArray)).size + a0_5.size ≤ 9223372036854775807 then (regis_Full.j0 k ((a1 ++ (⟨#[46]⟩ : ByteArray)) ++ a0_5) a0_0 a0_1 l0_2 l0_3 a0_4 a0_5 l0_6) else (none)) else (none)) else (if a1.toList = a0_5.toList then (some (⟨#[]⟩ : ByteArray)) else ((name_Under_c.f a1 a0_5).bind fun t156 => (if t156 = true then (regis_Full.j0 k a1 a0_0 a0_1 l0_2 l0_3 a0_4 a0_5 l0_6) else (some (⟨#[]⟩ : ByteArray)))))) = some r := H
 have A3 := am_ A30
 clear A30
 have HC4 := am_ H
 clear H
 go_enter Tryd.func33, Tryd.ntmps33
 go_upto_block 0 with (first | ((with_reducible refine gate_dst (N := 2) rfl ?_); refine box_event ?hg (N := 2) ?hd (cs := #[.int .i64 a0_0, .int .i64 a0_1, .slice A0_2 l0_2.length c0_2, .slice A0_3 l0_3.length c0_3, .int .i64 a0_4, .string a0_5, .slice A0_6 l0_6.length c0_6]) (t := 26) ?hr ?_; (case hd => rfl); (case hg => rfl); (case hr => first | (go_simp; done) | (go_simp; rfl)); intro gb152 hg w5 hbox hb; have n0_ := am_ (bt_ (by repeat (with_reducible first | exact HB.out | apply p3_ | apply p1_ | apply p2_)) hb); have n1_ := am_ (hbox); have n2_ := am_ ((by rw [hg]; exact (bz_ (by repeat (with_reducible first | exact HB.out | apply p3_ | apply p1_ | apply p2_))) : w.heap.size ≤ gb152)); have n3_ := am_ ((by rw [hg]; exact (bz_ (by repeat (with_reducible first | exact HB.out | apply p3_ | apply p1_ | apply p2_))) : w.heap.size ≤ gb152)); clear HB; have HB := n0_; have BK152 := n1_; have GW152 := n2_; have GE152 := n3_; clear n0_ n1_ n2_ n3_; clear hb hbox hg) | ((with_reducible refine gate_callee (f := 42) rfl ?_); refine goesL_ (some 9) rfl rfl Tryd.func42 (by kernel_rfl) rfl #[.string a1] rfl (by (try simp only [List.map_toArray, List.map_cons, List.map_nil]); first | done | rfl | (simp only [List.length_drop, List.length_take]; rfl)) ?_; (with_reducible refine (name_Labels_c.calls a1 t153 _ A3.out).mono ?_); rintro e w6 ⟨v154, rfl, ho0, hb⟩; refine ⟨_, rfl, ?_⟩; have n0_ := am_ (Kd.R_lower ho0 (bz_ (by repeat (with_reducible first | exact HB.out | apply p3_ | apply p1_ | apply p2_ | refine bs_ ?_ GE152.out)))); have n1_ := am_ (kb_ (g := gb152) (o := .cells #[.int .i64 a0_0, .int .i64 a0_1, .slice A0_2 l0_2.length c0_2, .slice A0_3 l0_3.length c0_3, .int .i64 a0_4, .string a0_5, .slice A0_6 l0_6.length c0_6] 26 (0, 0)) (by (with_reducible repeat (first | refine k2_ ?_ _ | refine k3_ ?_ | refine k1_ ?_ _)); exact BK152.out) hb); have n2_ := am_ (bt_ (by repeat (with_reducible first | exact HB.out | apply p3_ | apply p1_ | apply p2_ | refine bs_ ?_ GE152.out)) hb); clear BK152; clear HB; have HO155 := n0_; have BK152 := n1_; have HB := n2_; clear n0_ n1_ n2_; (try clear hb); (try clear ho0)))
 (try simp only [Act.put, List.setIfInBounds_toArray, List.set_cons_zero, List.set_cons_succ])
 go_cut [5] (fun v5 wc => ∃ (kq : Nat) (x5_3 : ByteArray), v5 = .string x5_3 ∧ Aside0 (regis_Full.j0 kq x5_3 a0_0 a0_1 l0_2 l0_3 a0_4 a0_5 l0_6 = some r) ∧ Aside0 (kq ≤ k) ∧ Aside0 (wc.heap[gb152]? = some (.cells #[.int .i64 a0_0, .int .i64 a0_1, (.slice A0_2 l0_2.length c0_2), (.slice A0_3 l0_3.length c0_3), .int .i64 a0_4, .string a0_5, (.slice A0_6 l0_6.length c0_6)] 26 (0, 0))) ∧ Aside0 (Below w.heap.size w wc))
 case first =>
  have H := HC4.out
  clear HC4
  by_cases c7 : (t153.length : Int) = 1
  ·rw [if_pos c7] at H
   have c7b0 : ((t153.length : Int) == 1) = true := beq_iff_eq.mpr c7
   have c7b1 : ((t153.length : Int) != 1) = false := e1_ c7
   clear c7
   (first | rw [c7b0] | (simp only [i64_w, i32_w]; rw [c7b0]) | skip)
   by_cases c8 : a1.size + 1 ≤ 9223372036854775807
   rotate_left
   ·rw [if_neg c8] at H
    exact absurd H (by simp)
   rw [if_pos c8] at H
   have c8b0 := eq_true c8
   have c8b1 : decide (a1.size + 1 ≤ 9223372036854775807) = true := decide_eq_true c8
   try have c8b2 : (9223372036854775807 < a1.size + 1) = False := eq_false (Nat.not_lt.2 c8)
   by_cases c9 : (a1 ++ (⟨#[46]⟩ : ByteArray)).size + a0_5.size ≤ 9223372036854775807
   rotate_left
   ·rw [if_neg c9] at H
    exact absurd H (by simp)
   rw [if_pos c9] at H
   have c9b0 := eq_true c9
   have c9b1 : decide ((a1 ++ (⟨#[46]⟩ : ByteArray)).size + a0_5.size ≤ 9223372036854775807) = true := decide_eq_true c9
   try have c9b2 : (9223372036854775807 < (a1 ++ (⟨#[46]⟩ : ByteArray)).size + a0_5.size) = False := eq_false (Nat.not_lt.2 c9)
   have H' := am_ H
   clear H
   obtain ⟨Ao10, co10, eo10⟩ := Kd.R_slice HO155.out
   subst eo10
   have hcz11_0 : w6.cell? ⟨gb152, 0, none⟩ = some (.int .i64 a0_0) := (bc_ BK152.out 0).trans rfl; have hcz11_1 : w6.cell? ⟨gb152, 1, none⟩ = some (.int .i64 a0_1) := (bc_ BK152.out 1).trans rfl; have hcz11_2 : w6.cell? ⟨gb152, 2, none⟩ = some (.slice A0_2 l0_2.length c0_2) := (bc_ BK152.out 2).trans rfl; have hcz11_3 : w6.cell? ⟨gb152, 3, none⟩ = some (.slice A0_3 l0_3.length c0_3) := (bc_ BK152.out 3).trans rfl; have hcz11_4 : w6.cell? ⟨gb152, 4, none⟩ = some (.int .i64 a0_4) := (bc_ BK152.out 4).trans rfl; have hcz11_5 : w6.cell? ⟨gb152, 5, none⟩ = some (.string a0_5) := (bc_ BK152.out 5).trans rfl; have hcz11_6 : w6.cell? ⟨gb152, 6, none⟩ = some (.slice A0_6 l0_6.length c0_6) := (bc_ BK152.out 6).trans rfl; have hfz11_0 := bf_ BK152.out 0; have hfz11_1 := bf_ BK152.out 1; have hfz11_2 := bf_ BK152.out 2; have hfz11_3 := bf_ BK152.out 3; have hfz11_4 := bf_ BK152.out 4; have hfz11_5 := bf_ BK152.out 5; have hfz11_6 := bf_ BK152.out 6
   go_wp2
   go_meet
   case rel => exact ⟨_, ((a1 ++ (⟨#[46]⟩ : ByteArray)) ++ a0_5), (by first | rfl | (simp; done) | (simp [*]; done)), H', ⟨by first | omega | exact Nat.le_refl _⟩, ⟨by (with_reducible repeat (first | refine k2_ ?_ _ | refine k3_ ?_ | refine k1_ ?_ _)); exact BK152.out⟩, ⟨by repeat (with_reducible first | exact HB.out | apply p3_ | apply p1_ | apply p2_ | refine bs_ ?_ GE152.out)⟩⟩
  rw [if_neg c7] at H
  have c7b0 : ((t153.length : Int) == 1) = false := e2_ c7
  have c7b1 : ((t153.length : Int) != 1) = true := bne_iff_ne.mpr c7
  (first | rw [c7b0] | (simp only [i64_w, i32_w]; rw [c7b0]) | skip)
  by_cases c12 : a1.toList = a0_5.toList
  ·rw [if_pos c12] at H
   have c12b0 : (a1.toList == a0_5.toList) = true := beq_iff_eq.mpr c12
   have c12b1 : (a1.toList != a0_5.toList) = false := e1_ c12
   clear c12
   obtain rfl := e5_ H
   obtain ⟨Ao13, co13, eo13⟩ := Kd.R_slice HO155.out
   subst eo13
   have hcz14_0 : w6.cell? ⟨gb152, 0, none⟩ = some (.int .i64 a0_0) := (bc_ BK152.out 0).trans rfl; have hcz14_1 : w6.cell? ⟨gb152, 1, none⟩ = some (.int .i64 a0_1) := (bc_ BK152.out 1).trans rfl; have hcz14_2 : w6.cell? ⟨gb152, 2, none⟩ = some (.slice A0_2 l0_2.length c0_2) := (bc_ BK152.out 2).trans rfl; have hcz14_3 : w6.cell? ⟨gb152, 3, none⟩ = some (.slice A0_3 l0_3.length c0_3) := (bc_ BK152.out 3).trans rfl; have hcz14_4 : w6.cell? ⟨gb152, 4, none⟩ = some (.int .i64 a0_4) := (bc_ BK152.out 4).trans rfl; have hcz14_5 : w6.cell? ⟨gb152, 5, none⟩ = some (.string a0_5) := (bc_ BK152.out 5).trans rfl; have hcz14_6 : w6.cell? ⟨gb152, 6, none⟩ = some (.slice A0_6 l0_6.length c0_6) := (bc_ BK152.out 6).trans rfl; have hfz14_0 := bf_ BK152.out 0; have hfz14_1 := bf_ BK152.out 1; have hfz14_2 := bf_ BK152.out 2; have hfz14_3 := bf_ BK152.out 3; have hfz14_4 := bf_ BK152.out 4; have hfz14_5 := bf_ BK152.out 5; have hfz14_6 := bf_ BK152.out 6
   go_wp2
   go_ret
   exact ⟨by first | rfl | (simp [errW_none, errW_some] <;> rfl) | (simp [*, errW_none, errW_some] <;> rfl), by repeat (with_reducible first | exact HB.out | apply p3_ | apply p1_ | apply p2_ | refine bs_ ?_ GE152.out)⟩
  rw [if_neg c12] at H
  have c12b0 : (a1.toList == a0_5.toList) = false := e2_ c12
  have c12b1 : (a1.toList != a0_5.toList) = true := bne_iff_ne.mpr c12
  replace H := e4_ H
  obtain ⟨t156, A150, H⟩ := H
  replace H : (if t156 = true then (regis_Full.j0 k a1 a0_0 a0_1 l0_2 l0_3 a0_4 a0_5 l0_6) else (some (⟨#[]⟩ : ByteArray))) = some r := H
  have A15 := am_ A150
  clear A150
  by_cases c16 : t156 = true
  ·subst c16
   have H1 : (regis_Full.j0 k a1 a0_0 a0_1 l0_2 l0_3 a0_4 a0_5 l0_6) = some r := by rw [if_pos rfl] at H; exact H
   clear H
   have H := H1
   clear H1
   have H' := am_ H
   clear H
   obtain ⟨Ao17, co17, eo17⟩ := Kd.R_slice HO155.out
   subst eo17
   have hcz18_0 : w6.cell? ⟨gb152, 0, none⟩ = some (.int .i64 a0_0) := (bc_ BK152.out 0).trans rfl; have hcz18_1 : w6.cell? ⟨gb152, 1, none⟩ = some (.int .i64 a0_1) := (bc_ BK152.out 1).trans rfl; have hcz18_2 : w6.cell? ⟨gb152, 2, none⟩ = some (.slice A0_2 l0_2.length c0_2) := (bc_ BK152.out 2).trans rfl; have hcz18_3 : w6.cell? ⟨gb152, 3, none⟩ = some (.slice A0_3 l0_3.length c0_3) := (bc_ BK152.out 3).trans rfl; have hcz18_4 : w6.cell? ⟨gb152, 4, none⟩ = some (.int .i64 a0_4) := (bc_ BK152.out 4).trans rfl; have hcz18_5 : w6.cell? ⟨gb152, 5, none⟩ = some (.string a0_5) := (bc_ BK152.out 5).trans rfl; have hcz18_6 : w6.cell? ⟨gb152, 6, none⟩ = some (.slice A0_6 l0_6.length c0_6) := (bc_ BK152.out 6).trans rfl; have hfz18_0 := bf_ BK152.out 0; have hfz18_1 := bf_ BK152.out 1; have hfz18_2 := bf_ BK152.out 2; have hfz18_3 := bf_ BK152.out 3; have hfz18_4 := bf_ BK152.out 4; have hfz18_5 := bf_ BK152.out 5; have hfz18_6 := bf_ BK152.out 6
   go_wp2_with (first | (go_at_call 58; (with_reducible refine (name_Under_c.calls a1 a0_5 true _ A15.out).mono ?_); rintro e w' ⟨rfl, ⟨nd, rfl⟩⟩))
   go_meet
   case rel => exact ⟨_, (a1), (by first | rfl | (simp; done) | (simp [*]; done)), H', ⟨by first | omega | exact Nat.le_refl _⟩, ⟨by (with_reducible repeat (first | refine k2_ ?_ _ | refine k3_ ?_ | refine k1_ ?_ _)); exact BK152.out⟩, ⟨by repeat (with_reducible first | exact HB.out | apply p3_ | apply p1_ | apply p2_ | refine bs_ ?_ GE152.out)⟩⟩
  replace c16 := e3_ c16
  subst c16
  have H1 : (some (⟨#[]⟩ : ByteArray)) = some r := by rw [if_neg (show ¬ (false = true) by decide)] at H; exact H
  clear H
  have H := H1
  clear H1
  obtain rfl := e5_ H
  obtain ⟨Ao19, co19, eo19⟩ := Kd.R_slice HO155.out
  subst eo19
  have hcz20_0 : w6.cell? ⟨gb152, 0, none⟩ = some (.int .i64 a0_0) := (bc_ BK152.out 0).trans rfl; have hcz20_1 : w6.cell? ⟨gb152, 1, none⟩ = some (.int .i64 a0_1) := (bc_ BK152.out 1).trans rfl; have hcz20_2 : w6.cell? ⟨gb152, 2, none⟩ = some (.slice A0_2 l0_2.length c0_2) := (bc_ BK152.out 2).trans rfl; have hcz20_3 : w6.cell? ⟨gb152, 3, none⟩ = some (.slice A0_3 l0_3.length c0_3) := (bc_ BK152.out 3).trans rfl; have hcz20_4 : w6.cell? ⟨gb152, 4, none⟩ = some (.int .i64 a0_4) := (bc_ BK152.out 4).trans rfl; have hcz20_5 : w6.cell? ⟨gb152, 5, none⟩ = some (.string a0_5) := (bc_ BK152.out 5).trans rfl; have hcz20_6 : w6.cell? ⟨gb152, 6, none⟩ = some (.slice A0_6 l0_6.length c0_6) := (bc_ BK152.out 6).trans rfl; have hfz20_0 := bf_ BK152.out 0; have hfz20_1 := bf_ BK152.out 1; have hfz20_2 := bf_ BK152.out 2; have hfz20_3 := bf_ BK152.out 3; have hfz20_4 := bf_ BK152.out 4; have hfz20_5 := bf_ BK152.out 5; have hfz20_6 := bf_ BK152.out 6
  go_wp2_with (first | (go_at_call 58; (with_reducible refine (name_Under_c.calls a1 a0_5 false _ A15.out).mono ?_); rintro e w' ⟨rfl, ⟨nd, rfl⟩⟩))
  go_ret
  exact ⟨by first | rfl | (simp [errW_none, errW_some] <;> rfl) | (simp [*, errW_none, errW_some] <;> rfl), by repeat (with_reducible first | exact HB.out | apply p3_ | apply p1_ | apply p2_ | refine bs_ ?_ GE152.out)⟩
 case rest =>
  clear HC4
  obtain ⟨kq, x5_3, rfl, HA, HJ3, BK152, HB⟩ := hcut
  cases kq with
  | zero => exact absurd HA.out (by simp [regis_Full.j0])
  | succ kj3 =>
   have H := HA.out
   clear HA
   simp only [regis_Full.j0] at H
   replace H := e4_ H
   obtain ⟨t157, A210, H⟩ := H
   replace H : (if t157 = true then ((conf_May.f a0_0 a0_1 l0_2 l0_3 a0_4 a0_5 l0_6).bind fun t158 => (if t158 = true then (some x5_3) else (some (⟨#[]⟩ : ByteArray)))) else (some (⟨#[]⟩ : ByteArray))) = some r := H
   have A21 := am_ A210
   clear A210
   by_cases c22 : t157 = true
   ·subst c22
    have H1 : ((conf_May.f a0_0 a0_1 l0_2 l0_3 a0_4 a0_5 l0_6).bind fun t158 => (if t158 = true then (some x5_3) else (some (⟨#[]⟩ : ByteArray)))) = some r := by rw [if_pos rfl] at H; exact H
    clear H
    have H := H1
    clear H1
    replace H := e4_ H
    obtain ⟨t158, A230, H⟩ := H
    replace H : (if t158 = true then (some x5_3) else (some (⟨#[]⟩ : ByteArray))) = some r := H
    have A23 := am_ A230
    clear A230
    by_cases c24 : t158 = true
    ·subst c24
     have H1 : (some x5_3) = some r := by rw [if_pos rfl] at H; exact H
     clear H
     have H := H1
     clear H1
     obtain rfl := e5_ H
     go_wp2_with (first | ((with_reducible refine gate_callee (f := 41) rfl ?_); refine goesL_ (some 32) rfl rfl Tryd.func41 (by kernel_rfl) rfl #[.string x5_3] rfl (by (try simp only [List.map_toArray, List.map_cons, List.map_nil]); first | done | rfl | (simp only [List.length_drop, List.length_take]; rfl)) ?_; (with_reducible refine (name_May_c.calls x5_3 true _ A21.out).mono ?_); rintro e w' ⟨rfl, ⟨nd, rfl⟩⟩; refine ⟨_, rfl, ?_⟩; have hcz25_0 : wc.cell? ⟨gb152, 0, none⟩ = some (.int .i64 a0_0) := (bc_ BK152.out 0).trans rfl; have hcz25_1 : wc.cell? ⟨gb152, 1, none⟩ = some (.int .i64 a0_1) := (bc_ BK152.out 1).trans rfl; have hcz25_2 : wc.cell? ⟨gb152, 2, none⟩ = some (.slice A0_2 l0_2.length c0_2) := (bc_ BK152.out 2).trans rfl; have hcz25_3 : wc.cell? ⟨gb152, 3, none⟩ = some (.slice A0_3 l0_3.length c0_3) := (bc_ BK152.out 3).trans rfl; have hcz25_4 : wc.cell? ⟨gb152, 4, none⟩ = some (.int .i64 a0_4) := (bc_ BK152.out 4).trans rfl; have hcz25_5 : wc.cell? ⟨gb152, 5, none⟩ = some (.string a0_5) := (bc_ BK152.out 5).trans rfl; have hcz25_6 : wc.cell? ⟨gb152, 6, none⟩ = some (.slice A0_6 l0_6.length c0_6) := (bc_ BK152.out 6).trans rfl; have hfz25_0 := bf_ BK152.out 0; have hfz25_1 := bf_ BK152.out 1; have hfz25_2 := bf_ BK152.out 2; have hfz25_3 := bf_ BK152.out 3; have hfz25_4 := bf_ BK152.out 4; have hfz25_5 := bf_ BK152.out 5; have hfz25_6 := bf_ BK152.out 6) | (go_at_call 20; (with_reducible refine (conf_May.calls a0_0 a0_1 _ _ l0_2 _ _ l0_3 a0_4 a0_5 _ _ l0_6 true _ ?side1 ?side2 ?side3 ?side4 ?side5 ?side6 A23.out).mono ?_); (case side1 => repeat (first | exact (c4_ HR0_2.out (by repeat (with_reducible first | exact HB.out | apply p3_ | apply p1_ | apply p2_ | refine bs_ ?_ GE152.out))) | (with_reducible refine c1_ ?_ _) | (with_reducible refine c2_ ?_ _) | (with_reducible refine c3_ ?_))); (case side2 => exact HC0_2.out); (case side3 => repeat (first | exact (c4_ HR0_3.out (by repeat (with_reducible first | exact HB.out | apply p3_ | apply p1_ | apply p2_ | refine bs_ ?_ GE152.out))) | (with_reducible refine c1_ ?_ _) | (with_reducible refine c2_ ?_ _) | (with_reducible refine c3_ ?_))); (case side4 => exact HC0_3.out); (case side5 => repeat (first | exact (c4_ HR0_6.out (by repeat (with_reducible first | exact HB.out | apply p3_ | apply p1_ | apply p2_ | refine bs_ ?_ GE152.out))) | (with_reducible refine c1_ ?_ _) | (with_reducible refine c2_ ?_ _) | (with_reducible refine c3_ ?_))); (case side6 => exact HC0_6.out); rintro e w26 ⟨rfl, hb⟩; have n0_ := am_ (kb_ (g := gb152) (o := .cells #[.int .i64 a0_0, .int .i64 a0_1, .slice A0_2 l0_2.length c0_2, .slice A0_3 l0_3.length c0_3, .int .i64 a0_4, .string a0_5, .slice A0_6 l0_6.length c0_6] 26 (0, 0)) (by (with_reducible repeat (first | refine k2_ ?_ _ | refine k3_ ?_ | refine k1_ ?_ _)); exact BK152.out) hb); have n1_ := am_ (bt_ (by repeat (with_reducible first | exact HB.out | apply p3_ | apply p1_ | apply p2_ | refine bs_ ?_ GE152.out)) hb); clear BK152; clear HB; have BK152 := n0_; have HB := n1_; clear n0_ n1_; (try clear hb)))
     go_ret
     exact ⟨by first | rfl | (simp [errW_none, errW_some] <;> rfl) | (simp [*, errW_none, errW_some] <;> rfl), by repeat (with_reducible first | exact HB.out | apply p3_ | apply p1_ | apply p2_ | refine bs_ ?_ GE152.out)⟩
    replace c24 := e3_ c24
    subst c24
    have H1 : (some (⟨#[]⟩ : ByteArray)) = some r := by rw [if_neg (show ¬ (false = true) by decide)] at H; exact H
    clear H
    have H := H1
    clear H1
    obtain rfl := e5_ H
    go_wp2_with (first | ((with_reducible refine gate_callee (f := 41) rfl ?_); refine goesL_ (some 32) rfl rfl Tryd.func41 (by kernel_rfl) rfl #[.string x5_3] rfl (by (try simp only [List.map_toArray, List.map_cons, List.map_nil]); first | done | rfl | (simp only [List.length_drop, List.length_take]; rfl)) ?_; (with_reducible refine (name_May_c.calls x5_3 true _ A21.out).mono ?_); rintro e w' ⟨rfl, ⟨nd, rfl⟩⟩; refine ⟨_, rfl, ?_⟩; have hcz27_0 : wc.cell? ⟨gb152, 0, none⟩ = some (.int .i64 a0_0) := (bc_ BK152.out 0).trans rfl; have hcz27_1 : wc.cell? ⟨gb152, 1, none⟩ = some (.int .i64 a0_1) := (bc_ BK152.out 1).trans rfl; have hcz27_2 : wc.cell? ⟨gb152, 2, none⟩ = some (.slice A0_2 l0_2.length c0_2) := (bc_ BK152.out 2).trans rfl; have hcz27_3 : wc.cell? ⟨gb152, 3, none⟩ = some (.slice A0_3 l0_3.length c0_3) := (bc_ BK152.out 3).trans rfl; have hcz27_4 : wc.cell? ⟨gb152, 4, none⟩ = some (.int .i64 a0_4) := (bc_ BK152.out 4).trans rfl; have hcz27_5 : wc.cell? ⟨gb152, 5, none⟩ = some (.string a0_5) := (bc_ BK152.out 5).trans rfl; have hcz27_6 : wc.cell? ⟨gb152, 6, none⟩ = some (.slice A0_6 l0_6.length c0_6) := (bc_ BK152.out 6).trans rfl; have hfz27_0 := bf_ BK152.out 0; have hfz27_1 := bf_ BK152.out 1; have hfz27_2 := bf_ BK152.out 2; have hfz27_3 := bf_ BK152.out 3; have hfz27_4 := bf_ BK152.out 4; have hfz27_5 := bf_ BK152.out 5; have hfz27_6 := bf_ BK152.out 6) | (go_at_call 20; (with_reducible refine (conf_May.calls a0_0 a0_1 _ _ l0_2 _ _ l0_3 a0_4 a0_5 _ _ l0_6 false _ ?side1 ?side2 ?side3 ?side4 ?side5 ?side6 A23.out).mono ?_); (case side1 => repeat (first | exact (c4_ HR0_2.out (by repeat (with_reducible first | exact HB.out | apply p3_ | apply p1_ | apply p2_ | refine bs_ ?_ GE152.out))) | (with_reducible refine c1_ ?_ _) | (with_reducible refine c2_ ?_ _) | (with_reducible refine c3_ ?_))); (case side2 => exact HC0_2.out); (case side3 => repeat (first | exact (c4_ HR0_3.out (by repeat (with_reducible first | exact HB.out | apply p3_ | apply p1_ | apply p2_ | refine bs_ ?_ GE152.out))) | (with_reducible refine c1_ ?_ _) | (with_reducible refine c2_ ?_ _) | (with_reducible refine c3_ ?_))); (case side4 => exact HC0_3.out); (case side5 => repeat (first | exact (c4_ HR0_6.out (by repeat (with_reducible first | exact HB.out | apply p3_ | apply p1_ | apply p2_ | refine bs_ ?_ GE152.out))) | (with_reducible refine c1_ ?_ _) | (with_reducible refine c2_ ?_ _) | (with_reducible refine c3_ ?_))); (case side6 => exact HC0_6.out); rintro e w28 ⟨rfl, hb⟩; have n0_ := am_ (kb_ (g := gb152) (o := .cells #[.int .i64 a0_0, .int .i64 a0_1, .slice A0_2 l0_2.length c0_2, .slice A0_3 l0_3.length c0_3, .int .i64 a0_4, .string a0_5, .slice A0_6 l0_6.length c0_6] 26 (0, 0)) (by (with_reducible repeat (first | refine k2_ ?_ _ | refine k3_ ?_ | refine k1_ ?_ _)); exact BK152.out) hb); have n1_ := am_ (bt_ (by repeat (with_reducible first | exact HB.out | apply p3_ | apply p1_ | apply p2_ | refine bs_ ?_ GE152.out)) hb); clear BK152; clear HB; have BK152 := n0_; have HB := n1_; clear n0_ n1_; (try clear hb)))
    go_ret
    exact ⟨by first | rfl | (simp [errW_none, errW_some] <;> rfl) | (simp [*, errW_none, errW_some] <;> rfl), by repeat (with_reducible first | exact HB.out | apply p3_ | apply p1_ | apply p2_ | refine bs_ ?_ GE152.out)⟩
   replace c22 := e3_ c22
   subst c22
   have H1 : (some (⟨#[]⟩ : ByteArray)) = some r := by rw [if_neg (show ¬ (false = true) by decide)] at H; exact H
   clear H
   have H := H1
   clear H1
   obtain rfl := e5_ H
   go_wp2_with (first | ((with_reducible refine gate_callee (f := 41) rfl ?_); refine goesL_ (some 32) rfl rfl Tryd.func41 (by kernel_rfl) rfl #[.string x5_3] rfl (by (try simp only [List.map_toArray, List.map_cons, List.map_nil]); first | done | rfl | (simp only [List.length_drop, List.length_take]; rfl)) ?_; (with_reducible refine (name_May_c.calls x5_3 false _ A21.out).mono ?_); rintro e w' ⟨rfl, ⟨nd, rfl⟩⟩; refine ⟨_, rfl, ?_⟩))
   go_ret
   exact ⟨by first | rfl | (simp [errW_none, errW_some] <;> rfl) | (simp [*, errW_none, errW_some] <;> rfl), by repeat (with_reducible first | exact HB.out | apply p3_ | apply p1_ | apply p2_ | refine bs_ ?_ GE152.out)⟩

/-! ### regis_Full_c: function 33 -/
/-- a host's whole name. -/
def fullB (a0 a1 : Int) (l2 : List Int) (l3 : List S47) (a4 : Int) (z : ByteArray) (l6 : List S49) (h : ByteArray) : ByteArray :=
 if (labelsS h).length = 1 then (if nameB (bytesOf (h ++ (⟨#[46]⟩ : ByteArray) ++ z)) && confB a0 a1 l2 l3 a4 z l6 then h ++ (⟨#[46]⟩ : ByteArray) ++ z else ⟨#[]⟩)
 else if h.toList = z.toList ∨ underB (bytesOf h) (bytesOf z) = false then ⟨#[]⟩ else if nameB (bytesOf h) && confB a0 a1 l2 l3 a4 z l6 then h else ⟨#[]⟩
def fullFit (l2 : List Int) (l3 : List S47) (z : ByteArray) (l6 : List S49) (h : ByteArray) : Prop := confFit l2 l3 z l6 ∧ h.size ≤ 140737488351232
instance (l2 : List Int) (l3 : List S47) (z : ByteArray) (l6 : List S49) (h : ByteArray) : Decidable (fullFit l2 l3 z l6 h) := by unfold fullFit; infer_instance
theorem regis_Full.eq (a0 a1 : Int) (l2 : List Int) (l3 : List S47) (a4 : Int) (z : ByteArray) (l6 : List S49) (h : ByteArray) (hf : fullFit l2 l3 z l6 h) : regis_Full.f 1 a0 a1 l2 l3 a4 z l6 h = some (fullB a0 a1 l2 l3 a4 z l6 h) := by
 have hz := hf.2
 have hzs := hf.1.2.2.1
 have e1 : ∀ (k : Nat) (x : ByteArray), x.size ≤ 562949953421312 → regis_Full.j0 (k + 1) x a0 a1 l2 l3 a4 z l6 = some (if nameB (bytesOf x) && confB a0 a1 l2 l3 a4 z l6 then x else ⟨#[]⟩) := fun k x hx => by
  unfold regis_Full.j0 name_May_c.f conf_May.f
  dsimp only
  rw [if_pos hx, Option.bind_some]
  cases nameB (bytesOf x) with
  | false => rfl
  | true =>
   rw [if_pos rfl, if_pos hf.1, Option.bind_some, Bool.true_and]
   cases confB a0 a1 l2 l3 a4 z l6 <;> rfl
 unfold regis_Full.f fullB name_Labels_c.f name_Under_c.f
 rw [if_pos (by omega), Option.bind_some]
 by_cases q : (labelsS h).length = 1
 ·have s1 : (h ++ (⟨#[46]⟩ : ByteArray)).size = h.size + 1 := by rw [ByteArray.size_append]; rfl
  rw [if_pos (by omega), if_pos (by omega), if_pos (by omega), if_pos q, e1 0 _ (by rw [ByteArray.size_append]; omega)]
 ·rw [if_neg (by omega), if_neg q]
  by_cases q2 : h.toList = z.toList
  ·rw [if_pos q2, if_pos (Or.inl q2)]
  ·rw [if_neg q2, if_pos (by omega), Option.bind_some]
   cases q3 : underB (bytesOf h) (bytesOf z) with
   | false => rw [if_neg (by simp), if_pos (Or.inr rfl)]
   | true => rw [if_pos rfl, if_neg (by simp [q2]), e1 0 _ (by omega)]
def regis_Full_c.f (a0_0 : Int) (a0_1 : Int) (l0_2 : List Int) (l0_3 : List S47) (a0_4 : Int) (a0_5 : ByteArray) (l0_6 : List S49) (a1 : ByteArray) : Option ByteArray := if fullFit l0_2 l0_3 a0_5 l0_6 a1 then some (fullB a0_0 a0_1 l0_2 l0_3 a0_4 a0_5 l0_6 a1) else none
theorem regis_Full_c.calls (a0_0 : Int) (a0_1 : Int) (A0_2 : Option Addr) (c0_2 : Nat) (l0_2 : List Int) (A0_3 : Option Addr) (c0_3 : Nat) (l0_3 : List S47) (a0_4 : Int) (a0_5 : ByteArray) (A0_6 : Option Addr) (c0_6 : Nat) (l0_6 : List S49) (a1 : ByteArray) (r : ByteArray) (w : World) (hr0_2 : Kd.C (Kd.int .i64) w A0_2 l0_2.length l0_2) (hc0_2 : l0_2.length ≤ c0_2) (hr0_3 : Kd.C k47 w A0_3 l0_3.length l0_3) (hc0_3 : l0_3.length ≤ c0_3) (hr0_6 : Kd.C k49 w A0_6 l0_6.length l0_6) (hc0_6 : l0_6.length ≤ c0_6) (h : regis_Full_c.f a0_0 a0_1 l0_2 l0_3 a0_4 a0_5 l0_6 a1 = some r) :
  Calls Tryd.prog 33 #[.agg #[.int .i64 a0_0, .int .i64 a0_1, .slice A0_2 l0_2.length c0_2, .slice A0_3 l0_3.length c0_3, .int .i64 a0_4, .string a0_5, .slice A0_6 l0_6.length c0_6], .string a1] w fun e w' => e = .returned (.string r) ∧ Below w.heap.size w w' := by
 unfold regis_Full_c.f at h
 by_cases hs : fullFit l0_2 l0_3 a0_5 l0_6 a1
 ·rw [if_pos hs] at h
  obtain rfl := e5_ h
  exact regis_Full.calls 1 a0_0 a0_1 A0_2 c0_2 l0_2 A0_3 c0_3 l0_3 a0_4 a0_5 A0_6 c0_6 l0_6 a1 _ w hr0_2 hc0_2 hr0_3 hc0_3 hr0_6 hc0_6 (regis_Full.eq _ _ _ _ _ _ _ _ hs)
 ·rw [if_neg hs] at h
  cases h

/-- A state of type 62 at block g of W; what its slices lead to came in by w0. -/
def IsS62 (w0 W : World) (g : Nat) (f0 : Int) (f1 : Int) (f2 : ByteArray) (f3 : Int) (f4 : ByteArray) (f5 : Bool) : Prop := W.heap[g]? = some (.cells #[.int .i64 f0, .int .i64 f1, .string f2, .int .i64 f3, .string f4, .bool f5] 62 (0, 0)) ∧ w0.heap.size ≤ g
theorem IsS62.grown {w0 W : World} {g : Nat} {f0 : Int} {f1 : Int} {f2 : ByteArray} {f3 : Int} {f4 : ByteArray} {f5 : Bool} {W1 : World} {row : Option Nat} (h : IsS62 w0 W g f0 f1 f2 f3 f4 f5) (hw : W.grownBy W1 row) (hne : some g ≠ row) : IsS62 w0 W1 g f0 f1 f2 f3 f4 f5 := by
 obtain ⟨hb, hg⟩ := h
 exact ⟨blk_grown hb hw hne, hg⟩
theorem IsS62.own_neN {w0 W : World} {g : Nat} {f0 : Int} {f1 : Int} {f2 : ByteArray} {f3 : Int} {f4 : ByteArray} {f5 : Bool} {α : Type} {d : Kd α} {e : Nat} {base : Nat} {ok : Nat → Prop} {v : Value} {xs : List α} (h : IsS62 w0 W g f0 f1 f2 f3 f4 f5) (ho : Kd.N d e W base ok v xs) (ht : e ≠ 62) : some g ≠ v.ownBlock := by
 obtain ⟨hb, hg⟩ := h
 exact Kd.N_ne ho hb ht
theorem IsS62.fresh {w0 W : World} {g : Nat} {f0 : Int} {f1 : Int} {f2 : ByteArray} {f3 : Int} {f4 : ByteArray} {f5 : Bool} (h : IsS62 w0 W g f0 f1 f2 f3 f4 f5) : ∀ k, W.heap.size ≤ k → k ≠ g := by
 obtain ⟨hb, hg⟩ := h
 exact Kd.freshB hb
theorem IsS62.kept {w0 W : World} {g : Nat} {f0 : Int} {f1 : Int} {f2 : ByteArray} {f3 : Int} {f4 : ByteArray} {f5 : Bool} {W1 : World} {S : Nat → Prop} (h : IsS62 w0 W g f0 f1 f2 f3 f4 f5) (hk : Kept W W1 S) (hne : ¬ S g) : IsS62 w0 W1 g f0 f1 f2 f3 f4 f5 := by
 obtain ⟨hb, hg⟩ := h
 exact ⟨blk_kept hb hk hne, hg⟩
theorem IsS62.below {w0 W : World} {g : Nat} {f0 : Int} {f1 : Int} {f2 : ByteArray} {f3 : Int} {f4 : ByteArray} {f5 : Bool} {W1 : World} (h : IsS62 w0 W g f0 f1 f2 f3 f4 f5) (hw : Below W.heap.size W W1) : IsS62 w0 W1 g f0 f1 f2 f3 f4 f5 := h.grown (grown_of_below hw none) (by simp)
theorem IsS62.alloc {w0 W : World} {g : Nat} {f0 : Int} {f1 : Int} {f2 : ByteArray} {f3 : Int} {f4 : ByteArray} {f5 : Bool} (h : IsS62 w0 W g f0 f1 f2 f3 f4 f5) (o : Obj) : IsS62 w0 (W.alloc o) g f0 f1 f2 f3 f4 f5 := h.below (p3_ (Below.refl _ _) o)
theorem IsS62.drewN {w0 W : World} {g : Nat} {f0 : Int} {f1 : Int} {f2 : ByteArray} {f3 : Int} {f4 : ByteArray} {f5 : Bool} (h : IsS62 w0 W g f0 f1 f2 f3 f4 f5) (m : Nat) : IsS62 w0 (W.drewN m) g f0 f1 f2 f3 f4 f5 := h
theorem IsS62.drew {w0 W : World} {g : Nat} {f0 : Int} {f1 : Int} {f2 : ByteArray} {f3 : Int} {f4 : ByteArray} {f5 : Bool} (h : IsS62 w0 W g f0 f1 f2 f3 f4 f5) : IsS62 w0 W.drew g f0 f1 f2 f3 f4 f5 := h
theorem IsS62.at_ {w0 W : World} {g : Nat} {f0 : Int} {f1 : Int} {f2 : ByteArray} {f3 : Int} {f4 : ByteArray} {f5 : Bool} {w' : World} {m : Nat} (hq : W.drewN m = w') (h : IsS62 w0 W g f0 f1 f2 f3 f4 f5) : IsS62 w0 w' g f0 f1 f2 f3 f4 f5 := by subst hq; exact IsS62.drewN h m
theorem IsS62.apart {w0 W : World} {g : Nat} {f0 : Int} {f1 : Int} {f2 : ByteArray} {f3 : Int} {f4 : ByteArray} {f5 : Bool} {α : Type} {d : Kd α} {e : Nat} {base : Nat} {ok : Nat → Prop} {v : Value} {xs : List α} (h : IsS62 w0 W g f0 f1 f2 f3 f4 f5) (ho : d.R e W base ok v xs) (ht : ∀ q, q ∈ e :: d.E → q ≠ 62) : d.R e W base (fun k => ok k ∧ k ≠ g) v xs := by
 obtain ⟨hb, hg⟩ := h
 exact Kd.R_types ho hb ht
theorem IsS62.own_ne {w0 W : World} {g : Nat} {f0 : Int} {f1 : Int} {f2 : ByteArray} {f3 : Int} {f4 : ByteArray} {f5 : Bool} {α : Type} {d : Kd α} {e : Nat} {base : Nat} {ok : Nat → Prop} {v : Value} {xs : List α} (h : IsS62 w0 W g f0 f1 f2 f3 f4 f5) (ho : d.R e W base ok v xs) (ht : e ≠ 62) : some g ≠ v.ownBlock := by
 obtain ⟨hb, hg⟩ := h
 exact Kd.R_ne ho hb ht
theorem IsS62.apartQ {w0 W : World} {g : Nat} {f0 : Int} {f1 : Int} {f2 : ByteArray} {f3 : Int} {f4 : ByteArray} {f5 : Bool} {α : Type} {d : Kd α} {e : Nat} {base : Nat} {ok : Nat → Prop} {v : Value} {xs : List α} (h : IsS62 w0 W g f0 f1 f2 f3 f4 f5) (ho : d.Q e W base ok v xs) (ht : ∀ q, q ∈ e :: d.E → q ≠ 62) : d.Q e W base (fun k => ok k ∧ k ≠ g) v xs := by
 obtain ⟨hb, hg⟩ := h
 exact Kd.Q_types ho hb ht
theorem IsS62.own_neQ {w0 W : World} {g : Nat} {f0 : Int} {f1 : Int} {f2 : ByteArray} {f3 : Int} {f4 : ByteArray} {f5 : Bool} {α : Type} {d : Kd α} {e : Nat} {base : Nat} {ok : Nat → Prop} {v : Value} {xs : List α} (h : IsS62 w0 W g f0 f1 f2 f3 f4 f5) (ho : d.Q e W base ok v xs) (ht : e ≠ 62) : some g ≠ v.ownBlock := by
 obtain ⟨hb, hg⟩ := h
 exact Kd.Q_ne ho hb ht
theorem IsS62.apartS {w0 W : World} {g : Nat} {f0 : Int} {f1 : Int} {f2 : ByteArray} {f3 : Int} {f4 : ByteArray} {f5 : Bool} {α : Type} {d : Kd α} {e : Nat} {base : Nat} {ok : Nat → Prop} {v : Value} {xs : List α} (h : IsS62 w0 W g f0 f1 f2 f3 f4 f5) (ho : d.S e W base ok v xs) (ht : ∀ q, q ∈ e :: d.E → q ≠ 62) : d.S e W base (fun k => ok k ∧ k ≠ g) v xs := by
 obtain ⟨hb, hg⟩ := h
 exact Kd.S_types ho hb ht
theorem IsS62.own_neS {w0 W : World} {g : Nat} {f0 : Int} {f1 : Int} {f2 : ByteArray} {f3 : Int} {f4 : ByteArray} {f5 : Bool} {α : Type} {d : Kd α} {e : Nat} {base : Nat} {ok : Nat → Prop} {v : Value} {xs : List α} (h : IsS62 w0 W g f0 f1 f2 f3 f4 f5) (ho : d.S e W base ok v xs) (ht : e ≠ 62) : some g ≠ v.ownBlock := by
 obtain ⟨hb, hg⟩ := h
 exact Kd.S_ne ho hb ht
theorem IsS62.lt {w0 W : World} {g : Nat} {f0 : Int} {f1 : Int} {f2 : ByteArray} {f3 : Int} {f4 : ByteArray} {f5 : Bool} (h : IsS62 w0 W g f0 f1 f2 f3 f4 f5) : g < W.heap.size := by
 obtain ⟨hb, hg⟩ := h
 exact blk_lt hb
theorem IsS62.ge {w0 W : World} {g : Nat} {f0 : Int} {f1 : Int} {f2 : ByteArray} {f3 : Int} {f4 : ByteArray} {f5 : Bool} (h : IsS62 w0 W g f0 f1 f2 f3 f4 f5) : w0.heap.size ≤ g := by
 obtain ⟨hb, hg⟩ := h
 exact hg
theorem IsS62.ne_blk {w0 W : World} {g : Nat} {f0 : Int} {f1 : Int} {f2 : ByteArray} {f3 : Int} {f4 : ByteArray} {f5 : Bool} {a : Nat} {cs : Array Value} {t : TypeId} {fr : Nat × Nat} (h : IsS62 w0 W g f0 f1 f2 f3 f4 f5) (hb2 : W.heap[a]? = some (.cells cs t fr)) (ht : t ≠ 62) : g ≠ a := by
 obtain ⟨hb, hg⟩ := h
 rintro rfl
 rw [hb] at hb2
 injection hb2 with hb2
 injection hb2 with _ ht2
 exact ht ht2.symm
theorem IsS62.far {w0 W : World} {g : Nat} {f0 : Int} {f1 : Int} {f2 : ByteArray} {f3 : Int} {f4 : ByteArray} {f5 : Bool} {p : Addr} (h : IsS62 w0 W g f0 f1 f2 f3 f4 f5) (hne : g ≠ p.block) (u : Value) : IsS62 w0 (W.setCell p u) g f0 f1 f2 f3 f4 f5 := by
 obtain ⟨hb, hg⟩ := h
 exact ⟨blk_far hb hne u, hg⟩
theorem cellS62_0 {W : World} {g : Nat} {f0 : Int} {f1 : Int} {f2 : ByteArray} {f3 : Int} {f4 : ByteArray} {f5 : Bool} (h : W.heap[g]? = some (.cells #[.int .i64 f0, .int .i64 f1, .string f2, .int .i64 f3, .string f4, .bool f5] 62 (0, 0))) : W.cell? ⟨g, 0, none⟩ = some (.int .i64 f0) := (bc_ h 0).trans rfl
theorem IsS62.set_0 {w0 W : World} {g : Nat} {f0 : Int} {f1 : Int} {f2 : ByteArray} {f3 : Int} {f4 : ByteArray} {f5 : Bool} (h : IsS62 w0 W g f0 f1 f2 f3 f4 f5) (x : Int) : IsS62 w0 (W.setCell ⟨g, 0, none⟩ (.int .i64 x)) g x f1 f2 f3 f4 f5 := by
 obtain ⟨hb, hg⟩ := h
 exact ⟨by simpa using blk_set hb 0 (.int .i64 x), hg⟩
theorem cellS62_1 {W : World} {g : Nat} {f0 : Int} {f1 : Int} {f2 : ByteArray} {f3 : Int} {f4 : ByteArray} {f5 : Bool} (h : W.heap[g]? = some (.cells #[.int .i64 f0, .int .i64 f1, .string f2, .int .i64 f3, .string f4, .bool f5] 62 (0, 0))) : W.cell? ⟨g, 1, none⟩ = some (.int .i64 f1) := (bc_ h 1).trans rfl
theorem IsS62.set_1 {w0 W : World} {g : Nat} {f0 : Int} {f1 : Int} {f2 : ByteArray} {f3 : Int} {f4 : ByteArray} {f5 : Bool} (h : IsS62 w0 W g f0 f1 f2 f3 f4 f5) (x : Int) : IsS62 w0 (W.setCell ⟨g, 1, none⟩ (.int .i64 x)) g f0 x f2 f3 f4 f5 := by
 obtain ⟨hb, hg⟩ := h
 exact ⟨by simpa using blk_set hb 1 (.int .i64 x), hg⟩
theorem cellS62_2 {W : World} {g : Nat} {f0 : Int} {f1 : Int} {f2 : ByteArray} {f3 : Int} {f4 : ByteArray} {f5 : Bool} (h : W.heap[g]? = some (.cells #[.int .i64 f0, .int .i64 f1, .string f2, .int .i64 f3, .string f4, .bool f5] 62 (0, 0))) : W.cell? ⟨g, 2, none⟩ = some (.string f2) := (bc_ h 2).trans rfl
theorem IsS62.set_2 {w0 W : World} {g : Nat} {f0 : Int} {f1 : Int} {f2 : ByteArray} {f3 : Int} {f4 : ByteArray} {f5 : Bool} (h : IsS62 w0 W g f0 f1 f2 f3 f4 f5) (x : ByteArray) : IsS62 w0 (W.setCell ⟨g, 2, none⟩ (.string x)) g f0 f1 x f3 f4 f5 := by
 obtain ⟨hb, hg⟩ := h
 exact ⟨by simpa using blk_set hb 2 (.string x), hg⟩
theorem cellS62_3 {W : World} {g : Nat} {f0 : Int} {f1 : Int} {f2 : ByteArray} {f3 : Int} {f4 : ByteArray} {f5 : Bool} (h : W.heap[g]? = some (.cells #[.int .i64 f0, .int .i64 f1, .string f2, .int .i64 f3, .string f4, .bool f5] 62 (0, 0))) : W.cell? ⟨g, 3, none⟩ = some (.int .i64 f3) := (bc_ h 3).trans rfl
theorem IsS62.set_3 {w0 W : World} {g : Nat} {f0 : Int} {f1 : Int} {f2 : ByteArray} {f3 : Int} {f4 : ByteArray} {f5 : Bool} (h : IsS62 w0 W g f0 f1 f2 f3 f4 f5) (x : Int) : IsS62 w0 (W.setCell ⟨g, 3, none⟩ (.int .i64 x)) g f0 f1 f2 x f4 f5 := by
 obtain ⟨hb, hg⟩ := h
 exact ⟨by simpa using blk_set hb 3 (.int .i64 x), hg⟩
theorem cellS62_4 {W : World} {g : Nat} {f0 : Int} {f1 : Int} {f2 : ByteArray} {f3 : Int} {f4 : ByteArray} {f5 : Bool} (h : W.heap[g]? = some (.cells #[.int .i64 f0, .int .i64 f1, .string f2, .int .i64 f3, .string f4, .bool f5] 62 (0, 0))) : W.cell? ⟨g, 4, none⟩ = some (.string f4) := (bc_ h 4).trans rfl
theorem IsS62.set_4 {w0 W : World} {g : Nat} {f0 : Int} {f1 : Int} {f2 : ByteArray} {f3 : Int} {f4 : ByteArray} {f5 : Bool} (h : IsS62 w0 W g f0 f1 f2 f3 f4 f5) (x : ByteArray) : IsS62 w0 (W.setCell ⟨g, 4, none⟩ (.string x)) g f0 f1 f2 f3 x f5 := by
 obtain ⟨hb, hg⟩ := h
 exact ⟨by simpa using blk_set hb 4 (.string x), hg⟩
theorem cellS62_5 {W : World} {g : Nat} {f0 : Int} {f1 : Int} {f2 : ByteArray} {f3 : Int} {f4 : ByteArray} {f5 : Bool} (h : W.heap[g]? = some (.cells #[.int .i64 f0, .int .i64 f1, .string f2, .int .i64 f3, .string f4, .bool f5] 62 (0, 0))) : W.cell? ⟨g, 5, none⟩ = some (.bool f5) := (bc_ h 5).trans rfl
theorem IsS62.set_5 {w0 W : World} {g : Nat} {f0 : Int} {f1 : Int} {f2 : ByteArray} {f3 : Int} {f4 : ByteArray} {f5 : Bool} (h : IsS62 w0 W g f0 f1 f2 f3 f4 f5) (x : Bool) : IsS62 w0 (W.setCell ⟨g, 5, none⟩ (.bool x)) g f0 f1 f2 f3 f4 x := by
 obtain ⟨hb, hg⟩ := h
 exact ⟨by simpa using blk_set hb 5 (.bool x), hg⟩
theorem IsS62.new (w0 W : World) (f0 : Int) (f1 : Int) (f2 : ByteArray) (f3 : Int) (f4 : ByteArray) (f5 : Bool) (hB : Below w0.heap.size w0 W) : IsS62 w0 (W.alloc (.cells #[.int .i64 f0, .int .i64 f1, .string f2, .int .i64 f3, .string f4, .bool f5] 62)) W.heap.size f0 f1 f2 f3 f4 f5 := ⟨by simpa using heap_alloc_new W _, hB.size⟩

/-! ### lease_state: function 78 -/
-- BY HAND
/-- may a lease's state be so. -/
def stateB (st : Int) (cl nm : ByteArray) (won : Bool) : Bool :=
 if st = 0 ∨ st = 3 then decide (nm.toList = []) && !won else if st = 1 then decide (cl.toList ≠ []) && decide (nm.toList = []) && !won else if st = 2 then decide (cl.toList ≠ []) && (decide (nm.toList ≠ []) || !won) else false
/-- may a lease be. -/
def leaseB (h st : Int) (cl : ByteArray) (un : Int) (nm : ByteArray) (won : Bool) : Bool :=
 decide (2 ≤ h ∧ h ≤ 254) && stateB st cl nm won && decide (cl.size ≤ 16) && decide (0 ≤ un ∧ un ≤ 1099511627776) && nameB (bytesOf nm)
/-- does a lease hold. -/
def liveB (h st : Int) (cl : ByteArray) (un : Int) (nm : ByteArray) (won : Bool) (now : Int) : Bool := leaseB h st cl un nm won && decide (st ≠ 0) && decide (un > now)
def holdsB (h st : Int) (cl : ByteArray) (un : Int) (nm : ByteArray) (won : Bool) (c : ByteArray) (now : Int) : Bool := liveB h st cl un nm won now && (decide (st ≠ 3) && decide (cl.toList = c.toList))
def boundB (h st : Int) (cl : ByteArray) (un : Int) (nm : ByteArray) (won : Bool) (c : ByteArray) (now : Int) : Bool := holdsB h st cl un nm won c now && decide (st = 2)
set_option maxHeartbeats 8000000 in
set_option maxRecDepth 100000 in
theorem lease_state.calls (g : Nat) (s0 s1 : Int) (s2 : ByteArray) (s3 : Int) (s4 : ByteArray) (s5 : Bool) (r : Bool) (w : World) (hb : w.heap[g]? = some (.cells #[.int .i64 s0, .int .i64 s1, .string s2, .int .i64 s3, .string s4, .bool s5] 62)) (h : stateB s1 s2 s4 s5 = r) :
  Calls Tryd.prog 78 #[.pointer (some ⟨g, 0, none⟩)] w fun e w' => e = .returned (.bool r) ∧ Below w.heap.size w w' := by
 unfold stateB at h
 have HR := am_ h
 have HB := am_ (Below.refl w.heap.size w)
 have v0 := bc_ hb 0
 have v1 := bc_ hb 1
 have v2 := bc_ hb 2
 have v3 := bc_ hb 3
 have v4 := bc_ hb 4
 have v5 := bc_ hb 5
 clear h hb
 go_enter Tryd.func78, Tryd.ntmps78
 go_wp2
 all_goals go_ret
 all_goals refine ⟨ret_bool ?_, ?_⟩
 all_goals first
  | ((repeat (with_reducible first | exact HB.out | apply p3_ | apply p1_ | apply p2_)); done)
  | (rw [← HR.out]; clear HR HB v0 v1 v2 v3 v4 v5; simp_all; done)

/-! ### lease_Time: function 79 -/
def lease_Time.f (a0 : Int) : Option (Bool) := if a0 ≥ 0 then (some (decide (a0 ≤ 1099511627776))) else (some false)
set_option maxHeartbeats 8000000 in
set_option maxRecDepth 100000 in
theorem lease_Time.calls (a0 : Int) (r : Bool) (w : World) (h : lease_Time.f a0 = some r) :
  Calls Tryd.prog 79 #[.int .i64 a0] w fun e w' => e = .returned (.bool r) ∧ Drawn0 w w' := by
 have H : (if a0 ≥ 0 then (some (decide (a0 ≤ 1099511627776))) else (some false)) = some r := h
 clear h
 by_cases c2 : a0 ≥ 0
 ·rw [if_pos c2] at H
  have c2b0 : decide (0 ≤ a0) = true := decide_eq_true c2
  clear c2
  obtain rfl := e5_ H
  go_enter Tryd.func79, Tryd.ntmps79
  go_wp2
  go_ret
  exact ⟨by first | rfl | (simp; done) | (simp [*]; done), by repeat (first | exact Drawn0.refl _ | apply Drawn0.step)⟩
 rw [if_neg c2] at H
 have c2b0 : decide (0 ≤ a0) = false := decide_eq_false c2
 clear c2
 obtain rfl := e5_ H
 go_enter Tryd.func79, Tryd.ntmps79
 go_wp2
 go_ret
 exact ⟨by first | rfl | (simp; done) | (simp [*]; done), by repeat (first | exact Drawn0.refl _ | apply Drawn0.step)⟩

/-! ### lease_Time_c: function 79 -/
def lease_Time_c.f (a0 : Int) : Option Bool := some (decide (0 ≤ a0 ∧ a0 ≤ 1099511627776))
theorem lease_Time_c.calls (a0 : Int) (r : Bool) (w : World) (h : lease_Time_c.f a0 = some r) :
  Calls Tryd.prog 79 #[.int .i64 a0] w fun e w' => e = .returned (.bool r) ∧ Drawn0 w w' := by
 refine lease_Time.calls a0 r w ?_
 rw [← h]
 unfold lease_Time.f lease_Time_c.f
 by_cases q : a0 ≥ 0
 ·rw [if_pos q]
  congr 1
  rw [Bool.eq_iff_iff, decide_eq_true_eq, decide_eq_true_eq]
  omega
 ·rw [if_neg q]
  congr 1
  symm
  rw [decide_eq_false_iff_not]
  omega

/-! ### lease_May: function 69 -/
-- BY HAND
def lease_May.f (a0_0 : Int) (a0_1 : Int) (a0_2 : ByteArray) (a0_3 : Int) (a0_4 : ByteArray) (a0_5 : Bool) : Option Bool := if a0_4.size ≤ 140737488351232 then some (leaseB a0_0 a0_1 a0_2 a0_3 a0_4 a0_5) else none
set_option maxHeartbeats 8000000 in
set_option maxRecDepth 100000 in
theorem lease_May.calls (a0_0 : Int) (a0_1 : Int) (a0_2 : ByteArray) (a0_3 : Int) (a0_4 : ByteArray) (a0_5 : Bool) (r : Bool) (w : World) (h : lease_May.f a0_0 a0_1 a0_2 a0_3 a0_4 a0_5 = some r) :
  Calls Tryd.prog 69 #[.agg #[.int .i64 a0_0, .int .i64 a0_1, .string a0_2, .int .i64 a0_3, .string a0_4, .bool a0_5]] w fun e w' => e = .returned (.bool r) ∧ Below w.heap.size w w' := by
 unfold lease_May.f at h
 by_cases hs : a0_4.size ≤ 140737488351232
 rotate_left
 ·rw [if_neg hs] at h
  cases h
 rw [if_pos hs] at h
 have HR := e5_ h
 unfold leaseB at HR
 obtain ⟨b1, h1⟩ : ∃ b, stateB a0_1 a0_2 a0_4 a0_5 = b := ⟨_, rfl⟩
 obtain ⟨b4, h4⟩ : ∃ b, nameB (bytesOf a0_4) = b := ⟨_, rfl⟩
 rw [h1, h4] at HR
 have C1 := am_ (fun W (bk : W.heap[w.heap.size]? = some (.cells #[.int .i64 a0_0, .int .i64 a0_1, .string a0_2, .int .i64 a0_3, .string a0_4, .bool a0_5] 62)) => lease_state.calls w.heap.size a0_0 a0_1 a0_2 a0_3 a0_4 a0_5 b1 W bk h1)
 have C2 := am_ (fun W => name_May_c.calls a0_4 b4 W (by unfold name_May_c.f; rw [if_pos (by omega), h4]))
 have C3 := am_ (fun x W => lease_Time_c.calls x (decide (0 ≤ x ∧ x ≤ 1099511627776)) W rfl)
 have BK := am_ (blk_new w (.cells #[.int .i64 a0_0, .int .i64 a0_1, .string a0_2, .int .i64 a0_3, .string a0_4, .bool a0_5] 62))
 have HB := am_ (Below.refl w.heap.size w)
 replace HR := am_ HR
 clear h hs h1 h4
 go_enter Tryd.func69, Tryd.ntmps69
 go_wp2_with (first
  | (go_at_call 78; (with_reducible refine (C1.out _ (by (with_reducible repeat (first | exact BK.out | refine k2_ ?_ _ | refine k3_ ?_ | refine k1_ ?_ _)))).mono ?_); rintro e w1 ⟨rfl, hb2⟩; replace BK := am_ (kb_ (show _ from (by (with_reducible repeat (first | exact BK.out | refine k2_ ?_ _ | refine k3_ ?_ | refine k1_ ?_ _)))) hb2); replace HB := am_ (bt_ (show Below w.heap.size w _ by repeat (with_reducible first | exact HB.out | apply p3_ | apply p1_ | apply p2_)) hb2); clear hb2; have u0 := bc_ BK.out 0; have u1 := bc_ BK.out 1; have u2 := bc_ BK.out 2; have u3 := bc_ BK.out 3; have u4 := bc_ BK.out 4; have u5 := bc_ BK.out 5)
  | (go_at_call 79; (with_reducible refine (C3.out _ _).mono ?_); rintro e w2 ⟨rfl, ⟨nd, rfl⟩⟩)
  | (go_at_call 41; (with_reducible refine (C2.out _).mono ?_); rintro e w3 ⟨rfl, ⟨nd, rfl⟩⟩))
 all_goals (try go_ret)
 all_goals refine ⟨ret_bool ?_, ?_⟩
 all_goals first
  | ((repeat (with_reducible first | exact HB.out | apply p3_ | apply p1_ | apply p2_)); done)
  | (rw [← HR.out]; clear HR HB C1 C2 C3 BK; (try clear v0 v1 v2 v3 v4 v5); (try clear u0 u1 u2 u3 u4 u5); rw [Bool.eq_iff_iff]; (simp_all; done))
  | (rw [← HR.out]; clear HR HB C1 C2 C3 BK; simp_all <;> omega)

end Go.Proofs.YtnjnfpnkcapilaaDoor.PRegises
