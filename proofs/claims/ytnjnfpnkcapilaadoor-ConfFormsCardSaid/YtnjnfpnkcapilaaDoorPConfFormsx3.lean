-- Made by wip/pr.py out of the translation (a turned copy of the kit's print; contracts by hand where said).
import Derived.Test.YtnjnfpnkcapilaaDoorPConfFormsx0
import Derived.Test.YtnjnfpnkcapilaaDoorPConfFormsx1
import Derived.Test.YtnjnfpnkcapilaaDoorPConfFormsx2
namespace Go.Proofs.YtnjnfpnkcapilaaDoor.PConfForms
open Go.RowKit Go.Proofs.YtnjnfpnkcapilaaDoorW.PrintWords Go.Proofs.YtnjnfpnkcapilaaDoorW.PrintLast Go.Proofs.YtnjnfpnkcapilaaDoorW.PrintMore
attribute [local go_sem] max2_int min2_int max_two min_two max_three min_three max_four min_four   -- for this text's walks alone
set_option linter.unusedVariables false
set_option linter.unusedSimpArgs false

/-! ### rr_word: function 76 -/
def rr_word.f (a0 : Int) : Option (Bool) := if a0 ≥ 0 then (some (decide (a0 ≤ 4294967295))) else (some false)
set_option maxHeartbeats 8000000 in
set_option maxRecDepth 100000 in
theorem rr_word.calls (a0 : Int) (r : Bool) (w : World) (h : rr_word.f a0 = some r) :
    Calls Tryd.prog 76 #[.int .i64 a0] w fun e w' => e = .returned (.bool r) ∧ Drawn0 w w' := by
  have H : (if a0 ≥ 0 then (some (decide (a0 ≤ 4294967295))) else (some false)) = some r := h
  clear h
  by_cases c2 : a0 ≥ 0
  · rw [if_pos c2] at H
    have c2b0 : decide (0 ≤ a0) = true := decide_eq_true c2
    clear c2
    obtain rfl := Option.some.inj H
    go_enter Tryd.func76, Tryd.ntmps76
    go_wp2
    go_ret
    exact ⟨by first | rfl | (simp; done) | (simp [*]; done), by repeat (first | exact Drawn0.refl _ | apply Drawn0.step)⟩
  rw [if_neg c2] at H
  have c2b0 : decide (0 ≤ a0) = false := decide_eq_false c2
  clear c2
  obtain rfl := Option.some.inj H
  go_enter Tryd.func76, Tryd.ntmps76
  go_wp2
  go_ret
  exact ⟨by first | rfl | (simp; done) | (simp [*]; done), by repeat (first | exact Drawn0.refl _ | apply Drawn0.step)⟩

/-! ### rr_word_c: function 76 -/
def rr_word_c.f (a0 : Int) : Option Bool := some (wordB a0)
theorem rr_word_c.calls (a0 : Int) (r : Bool) (w : World) (h : rr_word_c.f a0 = some r) :
    Calls Tryd.prog 76 #[.int .i64 a0] w fun e w' => e = .returned (.bool r) ∧ Drawn0 w w' := by
  refine rr_word.calls a0 r w ?_
  rw [← h]
  unfold rr_word.f rr_word_c.f wordB
  by_cases q : a0 ≥ 0
  · rw [if_pos q]
    congr 1
    rw [Bool.eq_iff_iff, decide_eq_true_eq, decide_eq_true_eq]
    omega
  · rw [if_neg q]
    congr 1
    symm
    rw [decide_eq_false_iff_not]
    omega

/-! ### rr_May: function 65 -/
-- BY HAND
/-- may a record be. -/
def rrB (name : ByteArray) (kind ttl addr : Int) (target text : ByteArray) (serial : Int) : Bool :=
  nameB (bytesOf name) && decide (0 ≤ ttl ∧ ttl ≤ 1048576) &&
  (if kind = 1 then wordB addr && decide (target.toList = [] ∧ text.toList = [] ∧ serial = 0)
   else decide (addr = 0) &&
    (if kind = 2 ∨ kind = 5 ∨ kind = 12 then nameB (bytesOf target) && decide (text.toList = [] ∧ serial = 0)
     else if kind = 6 then nameB (bytesOf target) && (decide (text.toList = []) && wordB serial)
     else if kind = 16 ∨ kind = 49 then decide (target.toList = [] ∧ text.size ≤ 64 ∧ serial = 0) else false))
def rr_May.f (a0_0 : ByteArray) (a0_1 : Int) (a0_2 : Int) (a0_3 : Int) (a0_4 : ByteArray) (a0_5 : ByteArray) (a0_6 : Int) : Option Bool := if a0_0.size ≤ 140737488351232 ∧ a0_4.size ≤ 140737488351232 ∧ (a0_1 = 1 ∨ a0_1 = 5 ∨ a0_1 = 16) then some (rrB a0_0 a0_1 a0_2 a0_3 a0_4 a0_5 a0_6) else none
set_option maxHeartbeats 8000000 in
set_option maxRecDepth 100000 in
theorem rr_May.calls (a0_0 : ByteArray) (a0_1 : Int) (a0_2 : Int) (a0_3 : Int) (a0_4 : ByteArray) (a0_5 : ByteArray) (a0_6 : Int) (r : Bool) (w : World) (h : rr_May.f a0_0 a0_1 a0_2 a0_3 a0_4 a0_5 a0_6 = some r) :
    Calls Tryd.prog 65 #[.agg #[.string a0_0, .int .i64 a0_1, .int .i64 a0_2, .int .i64 a0_3, .string a0_4, .string a0_5, .int .i64 a0_6]] w fun e w' => e = .returned (.bool r) ∧ Below w.heap.size w w' := by
  unfold rr_May.f at h
  by_cases hs : a0_0.size ≤ 140737488351232 ∧ a0_4.size ≤ 140737488351232 ∧ (a0_1 = 1 ∨ a0_1 = 5 ∨ a0_1 = 16)
  rotate_left
  · rw [if_neg hs] at h
    cases h
  rw [if_pos hs] at h
  have HR := Aside0.mk (Option.some.inj h)
  obtain ⟨n0, h0⟩ : ∃ b, nameB (bytesOf a0_0) = b := ⟨_, rfl⟩
  obtain ⟨n4, h4⟩ : ∃ b, nameB (bytesOf a0_4) = b := ⟨_, rfl⟩
  have C0 := Aside0.mk (fun W => name_May_c.calls a0_0 n0 W (by unfold name_May_c.f; rw [if_pos (by have := hs.1; omega), h0]))
  have C4 := Aside0.mk (fun W => name_May_c.calls a0_4 n4 W (by unfold name_May_c.f; rw [if_pos (by have := hs.2.1; omega), h4]))
  have Cw := Aside0.mk (fun x W => rr_word_c.calls x (wordB x) W rfl)
  have H0 := Aside0.mk h0
  have H4 := Aside0.mk h4
  have T4 := Aside0.mk (show a0_4.toList = [] → n4 = true from fun e => by rw [← H4.out, show bytesOf a0_4 = [] from List.length_eq_zero_iff.1 (by rw [bytesOf_length]; exact (toList_nil _).1 e)]; rfl)
  have T5 := Aside0.mk (show a0_5.toList = [] → a0_5.size = 0 from fun e => (toList_nil _).1 e)
  have HB := Aside0.mk (Below.refl w.heap.size w)
  have hq := hs.2.2
  clear h hs h0 h4
  rcases hq with rfl | rfl | rfl
  all_goals
    go_enter Tryd.func65, Tryd.ntmps65
    go_wp2_with fail
    all_goals try go_region_with (first
      | fail
      | (go_at_call 41; (with_reducible refine (C4.out _).mono ?_); rintro e w2 ⟨rfl, ⟨nd, rfl⟩⟩)
      | (go_at_call 76; (with_reducible refine (Cw.out _ _).mono ?_); rintro e w3 ⟨rfl, ⟨nd, rfl⟩⟩))
    all_goals go_wp2_with (first
      | (go_at_call 41; (with_reducible refine (C0.out _).mono ?_); rintro e w2 ⟨rfl, ⟨nd, rfl⟩⟩))
    all_goals go_ret
    all_goals refine ⟨ret_bool ?_, ?_⟩
    all_goals first
      | ((repeat (with_reducible first | exact HB.out | apply below_alloc | apply pw_below_drewN | apply below_drew1 | refine Below.setCell ?_ (by simp) _)); done)
      | (have e0 := H0.out; have e4 := H4.out; have t4 := T4.out; have t5 := T5.out; have w0 : wordB 0 = true := rfl; rw [← HR.out]; simp only [rrB, e0, e4]; clear HR C0 C4 Cw H0 H4; simp_all <;> omega)

/-! ### conf_static: function 45 -/
-- BY HAND
/-- may a standing record be so. -/
def staticB (z : ByteArray) (x : S49) : Bool := decide (x.f1 = 1 ∨ x.f1 = 5 ∨ x.f1 = 16) && (rrB x.f0 x.f1 x.f2 x.f3 x.f4 x.f5 x.f6 && (underB (bytesOf x.f0) (bytesOf z) && decide (x.f0.toList ≠ z.toList)))
def staticsB (z : ByteArray) (l : List S49) : Bool := l.all (staticB z) && decide (l.length ≤ 8)
/-! a region that draws its order, walked in the order of its text: the first m of n operations have come up -/
def upto_ (n m : Nat) : Array Bool := (List.replicate m true ++ List.replicate (n - m) false).toArray
section
variable {P : Program} {ops : Array Oper} {Q : Exit → Act → World → Prop} {S : World → Prop}
theorem seqS {id : Nat} {a : Act} {w : World} (n : Nat) (hm : P.follows .mixedOrders = true) (hn : ops.size = n) (hl : Array.replicate n false = upto_ n 0) (hS : S w.drew)
    (h : S w.drew → wpAnyLast P .any ops Q S [] n (upto_ n (n - n)) a w.drew) : (Code.region id ops true).wp P Q a w := by
  rw [Nat.sub_self] at h
  exact start_ (upto_ n 0) hm hn hl hS h
theorem seqP {n fuel : Nat} {m : Tmp} {oi : Oper} {v : Value} {a : Act} {w : World} (hi : ops[n - (fuel + 1)]? = some oi) (hN : oi.dst = some m) (hc : anyB .any ops (upto_ n (n - (fuel + 1))) (upto_ n (n - fuel)) (n - (fuel + 1)) = true)
    (hQ : ∀ c a w, Q (.panic c) (a.put oi.dst v) w → Q (.panic c) a w) (hy : Yields P ops oi v a) {a' : Act} (ha : a.put (some m) v = a') (h : wpAnyLast P .any ops Q S [] fuel (upto_ n (n - fuel)) a' w) :
    wpAnyLast P .any ops Q S [] (fuel + 1) (upto_ n (n - (fuel + 1))) a w := pure_ (upto_ n (n - fuel)) hi hN hc hQ hy ha h
theorem seqL {n fuel : Nat} {m : Tmp} {oi : Oper} {v : Value} {a : Act} {w : World} (hi : ops[n - (fuel + 1)]? = some oi) (hN : oi.dst = some m) (hc : takeB .any ops [] (upto_ n (n - (fuel + 1))) (upto_ n (n - fuel)) (n - (fuel + 1)) = true)
    (hQ : ∀ c a w, Q (.panic c) (a.put oi.dst v) w → Q (.panic c) a w) (hy : YieldsIf P ops S oi v a) (hS : S w) {a' : Act} (ha : a.put (some m) v = a') (h : wpAnyLast P .any ops Q S [] fuel (upto_ n (n - fuel)) a' w) :
    wpAnyLast P .any ops Q S [] (fuel + 1) (upto_ n (n - (fuel + 1))) a w := take_ (upto_ n (n - fuel)) hi hN hc hQ hy hS ha h
theorem seqC {n fuel : Nat} {m : Tmp} {oi : Oper} {a : Act} {w : World} (hi : ops[n - (fuel + 1)]? = some oi) (hN : oi.dst = some m) (hc : readyB .any ops (upto_ n (n - (fuel + 1))) (upto_ n (n - fuel)) (n - (fuel + 1)) = true)
    (h : ∀ K : Act → World → Prop, Shut (∀ a' w', S w' → (S w' → wpAnyLast P .any ops Q S [] fuel (upto_ n (n - fuel)) a' w') → K a' w') → if Region.wanted oi (yielded ops a.tmps) = true then Oper.wp P oi a w K Q else K (a.put (some m) undef) w) :
    wpAnyLast P .any ops Q S [] (fuel + 1) (upto_ n (n - (fuel + 1))) a w := one_ (upto_ n (n - fuel)) hi hN hc (by simp) h
theorem seqG {n fuel : Nat} {m : Tmp} {oi : Oper} {a : Act} {w : World} {f : FuncId} {fn : Func} {as_ : Array Operand} {ts : Array TypeId} (hi : ops[n - (fuel + 1)]? = some oi) (hN : oi.dst = some m) (hc : readyB .any ops (upto_ n (n - (fuel + 1))) (upto_ n (n - fuel)) (n - (fuel + 1)) = true)
    (hop : oi.op = .call { callee := .value (.func f), args := as_, argTypes := ts }) (hf : P.funcs[f]? = some fn) (hname : (fn.name == "runtime.NumGoroutine") = false) (hb : fn.body.isSome = true) (args : Array Value) (hw : Region.wanted oi (yielded ops a.tmps) = true) (hargs : as_.map a.eval = args)
    (h : Calls P f args w fun e w' => ∃ v, e = .returned v ∧ S w' ∧ (S w' → ∃ a', a.put (some m) v = a' ∧ wpAnyLast P .any ops Q S [] fuel (upto_ n (n - fuel)) a' w')) :
    wpAnyLast P .any ops Q S [] (fuel + 1) (upto_ n (n - (fuel + 1))) a w := by
  refine seqC hi hN hc (fun K hK => goes_ hf hname hb args hw hN hop hargs (h.mono ?_))
  rintro e w' ⟨v, he, hS, hk⟩
  refine ⟨v, he, hK.out _ _ hS (fun hS2 => ?_)⟩
  obtain ⟨a', rfl, h2⟩ := hk hS2
  exact h2
theorem seqE {n : Nat} {a : Act} {w : World} (hr : (Region.ready .any ops (upto_ n (n - 0)) == []) = true) (h : Q .normal a w) : wpAnyLast P .any ops Q S [] 0 (upto_ n (n - 0)) a w := done_ hr h
end
theorem dropStat (l0 : List S49) (i : Int) (h0 : 0 ≤ i) (h1 : i < l0.length) : l0.drop i.toNat = rd_T49 l0 i :: l0.drop (i.toNat + 1) ∧ rd_T49 l0 i ∈ l0 := by
  have h : i.toNat < l0.length := by omega
  have e : rd_T49 l0 i = l0[i.toNat] := by
    unfold rd_T49
    rw [List.getD_eq_getElem?_getD, List.getElem?_eq_getElem h]
    rfl
  rw [e, List.drop_eq_getElem_cons h]
  exact ⟨rfl, List.getElem_mem h⟩
/-- where a record and a zone's name lie. -/
def conf_static.S (B g : Nat) (f0 : ByteArray) (f1 f2 f3 : Int) (f4 f5 : ByteArray) (f6 : Int) (z : ByteArray) (w' : World) : Prop := w'.cell? ⟨B, 0, none⟩ = some (.string f0) ∧ w'.cell? ⟨B, 1, none⟩ = some (.int .i64 f1) ∧ w'.cell? ⟨B, 2, none⟩ = some (.int .i64 f2) ∧ w'.cell? ⟨B, 3, none⟩ = some (.int .i64 f3) ∧ w'.cell? ⟨B, 4, none⟩ = some (.string f4) ∧ w'.cell? ⟨B, 5, none⟩ = some (.string f5) ∧ w'.cell? ⟨B, 6, none⟩ = some (.int .i64 f6) ∧ w'.cell? ⟨g, 5, none⟩ = some (.string z)
theorem conf_static.S_below {B g : Nat} {f0 : ByteArray} {f1 f2 f3 : Int} {f4 f5 : ByteArray} {f6 : Int} {z : ByteArray} {w w2 : World} (h : conf_static.S B g f0 f1 f2 f3 f4 f5 f6 z w) (hb : Below w.heap.size w w2) : conf_static.S B g f0 f1 f2 f3 f4 f5 f6 z w2 := by
  obtain ⟨s0, s1, s2, s3, s4, s5, s6, s7⟩ := h
  exact ⟨(hb.cell (World.block_lt_of_cell? _ _ s0)).trans s0, (hb.cell (World.block_lt_of_cell? _ _ s1)).trans s1, (hb.cell (World.block_lt_of_cell? _ _ s2)).trans s2, (hb.cell (World.block_lt_of_cell? _ _ s3)).trans s3, (hb.cell (World.block_lt_of_cell? _ _ s4)).trans s4, (hb.cell (World.block_lt_of_cell? _ _ s5)).trans s5, (hb.cell (World.block_lt_of_cell? _ _ s6)).trans s6, (hb.cell (World.block_lt_of_cell? _ _ s7)).trans s7⟩
set_option maxHeartbeats 8000000 in
set_option maxRecDepth 100000 in
theorem conf_static.calls (g : Nat) (z : ByteArray) (A0 : Option Addr) (c0 : Nat) (l0 : List S49) (w : World) (hz : w.cell? ⟨g, 5, none⟩ = some (.string z)) (hl : w.cell? ⟨g, 6, none⟩ = some (.slice A0 l0.length c0)) (hr0 : Kd.C k49 w A0 l0.length l0) (hs : l0.length ≤ 140737488351232) (hzs : z.size ≤ 140737488351232) (hx : ∀ x ∈ l0, x.f0.size ≤ 140737488351232 ∧ x.f4.size ≤ 140737488351232) :
    Calls Tryd.prog 45 #[.pointer (some ⟨g, 0, none⟩)] w fun e w' => e = .returned (.bool (staticsB z l0)) ∧ Below w.heap.size w w' := by
  have HR0 := Aside0.mk hr0
  have HZ := Aside0.mk hz
  have HL := Aside0.mk hl
  have HX := Aside0.mk hx
  have e4 : (l0.all (staticB z) && decide (l0.length ≤ 8)) = staticsB z l0 := rfl
  replace e4 := Aside0.mk e4
  obtain ⟨r, hr⟩ : ∃ r, staticsB z l0 = r := ⟨_, rfl⟩
  rw [hr] at e4 ⊢
  clear hr0 hr hx
  go_enter Tryd.func45, Tryd.ntmps45
  go_wp2
  go_loopg [10] l0.length (fun d v9 wr => ∃ (i : Int), 0 ≤ i ∧ i.toNat + d = l0.length ∧ v9 = .int .i64 i ∧ Aside0 (Below w.heap.size w wr) ∧ Aside0 (l0.all (staticB z) = (l0.drop i.toNat).all (staticB z)))
  case atStart => exact ⟨0, by omega, by simp, rfl, ⟨Below.refl _ _⟩, ⟨rfl⟩⟩
  case round =>
    obtain ⟨i, hi0, hd, rfl, HB, HS⟩ := hrel
    clear hz hl
    have hgl := World.block_lt_of_cell? w _ HZ.out
    have hgl2 : g < wr.heap.size := Nat.lt_of_lt_of_le hgl HB.out.size
    have hgne : g ≠ wr.heap.size := by omega
    have hz := (HB.out.cell (World.block_lt_of_cell? w _ HZ.out)).trans HZ.out
    have hl := (HB.out.cell (World.block_lt_of_cell? w _ HL.out)).trans HL.out
    by_cases hlt : i < (l0.length : Int)
    · obtain ⟨ad, e1, hx0, hx1, hx2, hx3, hx4, hx5, hx6⟩ := at_T49 HR0.out i hi0 hlt
      cases e1
      replace hx0 := (HB.out.cell (World.block_lt_of_cell? w _ hx0)).trans hx0
      replace hx1 := (HB.out.cell (World.block_lt_of_cell? w _ hx1)).trans hx1
      replace hx2 := (HB.out.cell (World.block_lt_of_cell? w _ hx2)).trans hx2
      replace hx3 := (HB.out.cell (World.block_lt_of_cell? w _ hx3)).trans hx3
      replace hx4 := (HB.out.cell (World.block_lt_of_cell? w _ hx4)).trans hx4
      replace hx5 := (HB.out.cell (World.block_lt_of_cell? w _ hx5)).trans hx5
      replace hx6 := (HB.out.cell (World.block_lt_of_cell? w _ hx6)).trans hx6
      have HD := HS.out
      obtain ⟨hd1, hmem⟩ := dropStat l0 i hi0 hlt
      have hsz := HX.out _ hmem
      rw [hd1, List.all_cons] at HD
      clear HS hd1 hmem
      generalize rd_T49 l0 i = x at hx0 hx1 hx2 hx3 hx4 hx5 hx6 HD hsz
      obtain ⟨f0, f1, f2, f3, f4, f5, f6⟩ := x
      simp only at hx0 hx1 hx2 hx3 hx4 hx5 hx6 hsz
      have fin : staticB z ⟨f0, f1, f2, f3, f4, f5, f6⟩ = false → false = r := fun e => by rw [← e4.out, HD, e]; rfl
      have HN : staticB z ⟨f0, f1, f2, f3, f4, f5, f6⟩ = true → l0.all (staticB z) = (l0.drop (i.toNat + 1)).all (staticB z) := fun e => by rw [HD, e, Bool.true_and]
      clear HD
      by_cases qk : f1 = 1 ∨ f1 = 5 ∨ f1 = 16
      · obtain ⟨b1, hb1⟩ : ∃ b, rrB f0 f1 f2 f3 f4 f5 f6 = b := ⟨_, rfl⟩
        obtain ⟨b2, hb2⟩ : ∃ b, underB (bytesOf f0) (bytesOf z) = b := ⟨_, rfl⟩
        have C1 := Aside0.mk (fun W => rr_May.calls f0 f1 f2 f3 f4 f5 f6 b1 W (by unfold rr_May.f; rw [if_pos ⟨hsz.1, hsz.2, qk⟩, hb1]))
        have C2 := Aside0.mk (fun W => name_Under_c.calls f0 z b2 W (by unfold name_Under_c.f; rw [if_pos ⟨hsz.1, hzs⟩, hb2]))
        have hst : staticB z ⟨f0, f1, f2, f3, f4, f5, f6⟩ = (b1 && (b2 && decide (f0.toList ≠ z.toList))) := by
          unfold staticB
          rw [decide_eq_true qk, hb1, hb2, Bool.true_and]
        rw [hst] at fin HN
        replace fin := Aside0.mk fin
        replace HN := Aside0.mk HN
        clear hst hb1 hb2 hsz
        obtain ⟨b3, hb3⟩ : ∃ b3 : Bool, (f0.toList == z.toList) = b3 := ⟨_, rfl⟩
        clear hb3 b3
        obtain ⟨f1', hf1⟩ : ∃ x, x = f1 := ⟨f1, rfl⟩
        have HC1 := Aside0.mk (show ∀ W, Calls Tryd.prog 65 #[.agg #[.string f0, .int .i64 f1', .int .i64 f2, .int .i64 f3, .string f4, .string f5, .int .i64 f6]] W fun e w' => e = .returned (.bool b1) ∧ Below W.heap.size W w' by rw [hf1]; exact C1.out)
        rcases qk with rfl | rfl | rfl
        all_goals
          go_wp2_with fail
          have HB1 := Aside0.mk (below_drew (below_alloc HB.out (.cells #[.string f0, .int .i64 f1', .int .i64 f2, .int .i64 f3, .string f4, .string f5, .int .i64 f6] 49)))
          subst hf1
        · refine seqS (S := conf_static.S wr.heap.size g f0 1 f2 f3 f4 f5 f6 z) 37 (by kernel_rfl) rfl rfl (by unfold conf_static.S; go_simp) ?_
          intro hHeld
          iterate 4 first | (refine seqP (v := ?_) (a' := ?_) rfl rfl (by kernel_rfl) (fun _ _ _ h => h) (Or.inl ⟨by kernel_rfl, ?_⟩) ?_ ?_; rotate_left; (intro w'; go_simp; with_reducible rfl); rotate_left; (simp only [Act.put, List.setIfInBounds_toArray, List.set_cons_zero, List.set_cons_succ, i64_w, i32_w]; rfl)) | (refine seqL (v := ?_) (a' := ?_) rfl rfl (by kernel_rfl) (fun _ _ _ h => h) (Or.inl ⟨by kernel_rfl, ?_⟩) hHeld ?_ ?_; rotate_left; (rintro w' ⟨s0, s1, s2, s3, s4, s5, s6, s7⟩; go_simp; with_reducible rfl); rotate_left; (simp only [Act.put, List.setIfInBounds_toArray, List.set_cons_zero, List.set_cons_succ, i64_w, i32_w]; rfl))
          iterate 3 (refine seqP (v := undef) (a' := ?_) rfl rfl (by kernel_rfl) (fun _ _ _ h => h) (Or.inr ⟨by kernel_rfl, rfl⟩) ?_ ?_; rotate_left; (simp only [Act.put, List.setIfInBounds_toArray, List.set_cons_zero, List.set_cons_succ, i64_w, i32_w]; rfl))
          iterate 2 first | (refine seqP (v := ?_) (a' := ?_) rfl rfl (by kernel_rfl) (fun _ _ _ h => h) (Or.inl ⟨by kernel_rfl, ?_⟩) ?_ ?_; rotate_left; (intro w'; go_simp; with_reducible rfl); rotate_left; (simp only [Act.put, List.setIfInBounds_toArray, List.set_cons_zero, List.set_cons_succ, i64_w, i32_w]; rfl)) | (refine seqL (v := ?_) (a' := ?_) rfl rfl (by kernel_rfl) (fun _ _ _ h => h) (Or.inl ⟨by kernel_rfl, ?_⟩) hHeld ?_ ?_; rotate_left; (rintro w' ⟨s0, s1, s2, s3, s4, s5, s6, s7⟩; go_simp; with_reducible rfl); rotate_left; (simp only [Act.put, List.setIfInBounds_toArray, List.set_cons_zero, List.set_cons_succ, i64_w, i32_w]; rfl))
          iterate 3 (refine seqP (v := undef) (a' := ?_) rfl rfl (by kernel_rfl) (fun _ _ _ h => h) (Or.inr ⟨by kernel_rfl, rfl⟩) ?_ ?_; rotate_left; (simp only [Act.put, List.setIfInBounds_toArray, List.set_cons_zero, List.set_cons_succ, i64_w, i32_w]; rfl))
          iterate 2 first | (refine seqP (v := ?_) (a' := ?_) rfl rfl (by kernel_rfl) (fun _ _ _ h => h) (Or.inl ⟨by kernel_rfl, ?_⟩) ?_ ?_; rotate_left; (intro w'; go_simp; with_reducible rfl); rotate_left; (simp only [Act.put, List.setIfInBounds_toArray, List.set_cons_zero, List.set_cons_succ, i64_w, i32_w]; rfl)) | (refine seqL (v := ?_) (a' := ?_) rfl rfl (by kernel_rfl) (fun _ _ _ h => h) (Or.inl ⟨by kernel_rfl, ?_⟩) hHeld ?_ ?_; rotate_left; (rintro w' ⟨s0, s1, s2, s3, s4, s5, s6, s7⟩; go_simp; with_reducible rfl); rotate_left; (simp only [Act.put, List.setIfInBounds_toArray, List.set_cons_zero, List.set_cons_succ, i64_w, i32_w]; rfl))
          iterate 1 first | (refine seqP (v := ?_) (a' := ?_) rfl rfl (by kernel_rfl) (fun _ _ _ h => h) (Or.inl ⟨by kernel_rfl, ?_⟩) ?_ ?_; rotate_left; (intro w'; go_simp; with_reducible rfl); rotate_left; (simp only [Act.put, List.setIfInBounds_toArray, List.set_cons_zero, List.set_cons_succ, i64_w, i32_w]; rfl)) | (refine seqL (v := ?_) (a' := ?_) rfl rfl (by kernel_rfl) (fun _ _ _ h => h) (Or.inl ⟨by kernel_rfl, ?_⟩) hHeld ?_ ?_; rotate_left; (rintro w' ⟨s0, s1, s2, s3, s4, s5, s6, s7⟩; go_simp; with_reducible rfl); rotate_left; (simp only [Act.put, List.setIfInBounds_toArray, List.set_cons_zero, List.set_cons_succ, i64_w, i32_w]; rfl))
          refine seqG (fn := Tryd.f65) rfl rfl (by kernel_rfl) rfl Tryd.func65 (by kernel_rfl) (by kernel_rfl) #[.agg #[.string f0, .int .i64 1, .int .i64 f2, .int .i64 f3, .string f4, .string f5, .int .i64 f6]] (by kernel_rfl) (by (try simp only [List.map_toArray, List.map_cons, List.map_nil]); first | done | rfl) ?_
          with_reducible refine (C1.out _).mono ?_
          rintro e w2 ⟨rfl, hb2⟩
          have HB2 := Aside0.mk (below_step HB1.out hb2)
          refine ⟨_, rfl, conf_static.S_below hHeld hb2, fun hHeld => ⟨?_, ?_, ?_⟩⟩
          rotate_left
          · simp only [Act.put, List.setIfInBounds_toArray, List.set_cons_zero, List.set_cons_succ, i64_w, i32_w]
            rfl
          iterate 3 first | (refine seqP (v := ?_) (a' := ?_) rfl rfl (by kernel_rfl) (fun _ _ _ h => h) (Or.inl ⟨by kernel_rfl, ?_⟩) ?_ ?_; rotate_left; (intro w'; go_simp; with_reducible rfl); rotate_left; (simp only [Act.put, List.setIfInBounds_toArray, List.set_cons_zero, List.set_cons_succ, i64_w, i32_w]; rfl)) | (refine seqL (v := ?_) (a' := ?_) rfl rfl (by kernel_rfl) (fun _ _ _ h => h) (Or.inl ⟨by kernel_rfl, ?_⟩) hHeld ?_ ?_; rotate_left; (rintro w' ⟨s0, s1, s2, s3, s4, s5, s6, s7⟩; go_simp; with_reducible rfl); rotate_left; (simp only [Act.put, List.setIfInBounds_toArray, List.set_cons_zero, List.set_cons_succ, i64_w, i32_w]; rfl))
          cases b1 with
          | false =>
            iterate 8 (refine seqP (v := undef) (a' := ?_) rfl rfl (by kernel_rfl) (fun _ _ _ h => h) (Or.inr ⟨by kernel_rfl, rfl⟩) ?_ ?_; rotate_left; (simp only [Act.put, List.setIfInBounds_toArray, List.set_cons_zero, List.set_cons_succ, i64_w, i32_w]; rfl))
            iterate 2 first | (refine seqP (v := ?_) (a' := ?_) rfl rfl (by kernel_rfl) (fun _ _ _ h => h) (Or.inl ⟨by kernel_rfl, ?_⟩) ?_ ?_; rotate_left; (intro w'; go_simp; with_reducible rfl); rotate_left; (simp only [Act.put, List.setIfInBounds_toArray, List.set_cons_zero, List.set_cons_succ, i64_w, i32_w]; rfl)) | (refine seqL (v := ?_) (a' := ?_) rfl rfl (by kernel_rfl) (fun _ _ _ h => h) (Or.inl ⟨by kernel_rfl, ?_⟩) hHeld ?_ ?_; rotate_left; (rintro w' ⟨s0, s1, s2, s3, s4, s5, s6, s7⟩; go_simp; with_reducible rfl); rotate_left; (simp only [Act.put, List.setIfInBounds_toArray, List.set_cons_zero, List.set_cons_succ, i64_w, i32_w]; rfl))
            iterate 7 (refine seqP (v := undef) (a' := ?_) rfl rfl (by kernel_rfl) (fun _ _ _ h => h) (Or.inr ⟨by kernel_rfl, rfl⟩) ?_ ?_; rotate_left; (simp only [Act.put, List.setIfInBounds_toArray, List.set_cons_zero, List.set_cons_succ, i64_w, i32_w]; rfl))
            iterate 1 first | (refine seqP (v := ?_) (a' := ?_) rfl rfl (by kernel_rfl) (fun _ _ _ h => h) (Or.inl ⟨by kernel_rfl, ?_⟩) ?_ ?_; rotate_left; (intro w'; go_simp; with_reducible rfl); rotate_left; (simp only [Act.put, List.setIfInBounds_toArray, List.set_cons_zero, List.set_cons_succ, i64_w, i32_w]; rfl)) | (refine seqL (v := ?_) (a' := ?_) rfl rfl (by kernel_rfl) (fun _ _ _ h => h) (Or.inl ⟨by kernel_rfl, ?_⟩) hHeld ?_ ?_; rotate_left; (rintro w' ⟨s0, s1, s2, s3, s4, s5, s6, s7⟩; go_simp; with_reducible rfl); rotate_left; (simp only [Act.put, List.setIfInBounds_toArray, List.set_cons_zero, List.set_cons_succ, i64_w, i32_w]; rfl))
            refine seqE (by kernel_rfl) ?_
            go_wp2
            go_ret
            exact ⟨ret_bool (fin.out (by simp)), by repeat (with_reducible first | exact HB2.out | exact HB1.out | apply below_alloc | apply pw_below_drewN | apply below_drew1)⟩
          | true =>
            iterate 6 first | (refine seqP (v := ?_) (a' := ?_) rfl rfl (by kernel_rfl) (fun _ _ _ h => h) (Or.inl ⟨by kernel_rfl, ?_⟩) ?_ ?_; rotate_left; (intro w'; go_simp; with_reducible rfl); rotate_left; (simp only [Act.put, List.setIfInBounds_toArray, List.set_cons_zero, List.set_cons_succ, i64_w, i32_w]; rfl)) | (refine seqL (v := ?_) (a' := ?_) rfl rfl (by kernel_rfl) (fun _ _ _ h => h) (Or.inl ⟨by kernel_rfl, ?_⟩) hHeld ?_ ?_; rotate_left; (rintro w' ⟨s0, s1, s2, s3, s4, s5, s6, s7⟩; go_simp; with_reducible rfl); rotate_left; (simp only [Act.put, List.setIfInBounds_toArray, List.set_cons_zero, List.set_cons_succ, i64_w, i32_w]; rfl))
            refine seqG (fn := Tryd.f58) rfl rfl (by kernel_rfl) rfl Tryd.func58 (by kernel_rfl) (by kernel_rfl) #[.string f0, .string z] (by kernel_rfl) (by (try simp only [List.map_toArray, List.map_cons, List.map_nil]); first | done | rfl) ?_
            with_reducible refine (C2.out _).mono ?_
            rintro e w3 ⟨rfl, ⟨nd, rfl⟩⟩
            skip
            refine ⟨_, rfl, conf_static.S_below hHeld (pw_below_drewN (Below.refl _ _) _), fun hHeld => ⟨?_, ?_, ?_⟩⟩
            rotate_left
            · simp only [Act.put, List.setIfInBounds_toArray, List.set_cons_zero, List.set_cons_succ, i64_w, i32_w]
              rfl
            iterate 3 first | (refine seqP (v := ?_) (a' := ?_) rfl rfl (by kernel_rfl) (fun _ _ _ h => h) (Or.inl ⟨by kernel_rfl, ?_⟩) ?_ ?_; rotate_left; (intro w'; go_simp; with_reducible rfl); rotate_left; (simp only [Act.put, List.setIfInBounds_toArray, List.set_cons_zero, List.set_cons_succ, i64_w, i32_w]; rfl)) | (refine seqL (v := ?_) (a' := ?_) rfl rfl (by kernel_rfl) (fun _ _ _ h => h) (Or.inl ⟨by kernel_rfl, ?_⟩) hHeld ?_ ?_; rotate_left; (rintro w' ⟨s0, s1, s2, s3, s4, s5, s6, s7⟩; go_simp; with_reducible rfl); rotate_left; (simp only [Act.put, List.setIfInBounds_toArray, List.set_cons_zero, List.set_cons_succ, i64_w, i32_w]; rfl))
            cases b2 with
            | false =>
              iterate 7 (refine seqP (v := undef) (a' := ?_) rfl rfl (by kernel_rfl) (fun _ _ _ h => h) (Or.inr ⟨by kernel_rfl, rfl⟩) ?_ ?_; rotate_left; (simp only [Act.put, List.setIfInBounds_toArray, List.set_cons_zero, List.set_cons_succ, i64_w, i32_w]; rfl))
              iterate 1 first | (refine seqP (v := ?_) (a' := ?_) rfl rfl (by kernel_rfl) (fun _ _ _ h => h) (Or.inl ⟨by kernel_rfl, ?_⟩) ?_ ?_; rotate_left; (intro w'; go_simp; with_reducible rfl); rotate_left; (simp only [Act.put, List.setIfInBounds_toArray, List.set_cons_zero, List.set_cons_succ, i64_w, i32_w]; rfl)) | (refine seqL (v := ?_) (a' := ?_) rfl rfl (by kernel_rfl) (fun _ _ _ h => h) (Or.inl ⟨by kernel_rfl, ?_⟩) hHeld ?_ ?_; rotate_left; (rintro w' ⟨s0, s1, s2, s3, s4, s5, s6, s7⟩; go_simp; with_reducible rfl); rotate_left; (simp only [Act.put, List.setIfInBounds_toArray, List.set_cons_zero, List.set_cons_succ, i64_w, i32_w]; rfl))
              refine seqE (by kernel_rfl) ?_
              go_wp2
              go_ret
              exact ⟨ret_bool (fin.out (by simp)), by repeat (with_reducible first | exact HB2.out | exact HB1.out | apply below_alloc | apply pw_below_drewN | apply below_drew1)⟩
            | true =>
              iterate 8 first | (refine seqP (v := ?_) (a' := ?_) rfl rfl (by kernel_rfl) (fun _ _ _ h => h) (Or.inl ⟨by kernel_rfl, ?_⟩) ?_ ?_; rotate_left; (intro w'; go_simp; with_reducible rfl); rotate_left; (simp only [Act.put, List.setIfInBounds_toArray, List.set_cons_zero, List.set_cons_succ, i64_w, i32_w]; rfl)) | (refine seqL (v := ?_) (a' := ?_) rfl rfl (by kernel_rfl) (fun _ _ _ h => h) (Or.inl ⟨by kernel_rfl, ?_⟩) hHeld ?_ ?_; rotate_left; (rintro w' ⟨s0, s1, s2, s3, s4, s5, s6, s7⟩; go_simp; with_reducible rfl); rotate_left; (simp only [Act.put, List.setIfInBounds_toArray, List.set_cons_zero, List.set_cons_succ, i64_w, i32_w]; rfl))
              refine seqE (by kernel_rfl) ?_
              generalize hq : (f0.toList == z.toList) = b3
              cases b3 with
              | true =>
                replace hq := Aside0.mk hq
                go_wp2
                go_ret
                exact ⟨ret_bool (fin.out (by simpa using hq.out)), by repeat (with_reducible first | exact HB2.out | exact HB1.out | apply below_alloc | apply pw_below_drewN | apply below_drew1)⟩
              | false =>
                have HS2 := Aside0.mk (HN.out (by simpa using hq))
                replace hq := Aside0.mk hq
                go_wp2
                go_roundg (l0.length - (i.toNat + 1))
                case measure => first | omega | (simp; omega)
                case rel =>
                  have e2 : (i + 1).toNat = i.toNat + 1 := by omega
                  exact ⟨i + 1, by omega, by omega, by go_num, ⟨by repeat (with_reducible first | exact HB2.out | exact HB1.out | apply below_alloc | apply pw_below_drewN | apply below_drew1)⟩, ⟨by rw [e2]; exact HS2.out⟩⟩
        · refine seqS (S := conf_static.S wr.heap.size g f0 5 f2 f3 f4 f5 f6 z) 37 (by kernel_rfl) rfl rfl (by unfold conf_static.S; go_simp) ?_
          intro hHeld
          iterate 4 first | (refine seqP (v := ?_) (a' := ?_) rfl rfl (by kernel_rfl) (fun _ _ _ h => h) (Or.inl ⟨by kernel_rfl, ?_⟩) ?_ ?_; rotate_left; (intro w'; go_simp; with_reducible rfl); rotate_left; (simp only [Act.put, List.setIfInBounds_toArray, List.set_cons_zero, List.set_cons_succ, i64_w, i32_w]; rfl)) | (refine seqL (v := ?_) (a' := ?_) rfl rfl (by kernel_rfl) (fun _ _ _ h => h) (Or.inl ⟨by kernel_rfl, ?_⟩) hHeld ?_ ?_; rotate_left; (rintro w' ⟨s0, s1, s2, s3, s4, s5, s6, s7⟩; go_simp; with_reducible rfl); rotate_left; (simp only [Act.put, List.setIfInBounds_toArray, List.set_cons_zero, List.set_cons_succ, i64_w, i32_w]; rfl))
          iterate 3 first | (refine seqP (v := ?_) (a' := ?_) rfl rfl (by kernel_rfl) (fun _ _ _ h => h) (Or.inl ⟨by kernel_rfl, ?_⟩) ?_ ?_; rotate_left; (intro w'; go_simp; with_reducible rfl); rotate_left; (simp only [Act.put, List.setIfInBounds_toArray, List.set_cons_zero, List.set_cons_succ, i64_w, i32_w]; rfl)) | (refine seqL (v := ?_) (a' := ?_) rfl rfl (by kernel_rfl) (fun _ _ _ h => h) (Or.inl ⟨by kernel_rfl, ?_⟩) hHeld ?_ ?_; rotate_left; (rintro w' ⟨s0, s1, s2, s3, s4, s5, s6, s7⟩; go_simp; with_reducible rfl); rotate_left; (simp only [Act.put, List.setIfInBounds_toArray, List.set_cons_zero, List.set_cons_succ, i64_w, i32_w]; rfl))
          iterate 2 first | (refine seqP (v := ?_) (a' := ?_) rfl rfl (by kernel_rfl) (fun _ _ _ h => h) (Or.inl ⟨by kernel_rfl, ?_⟩) ?_ ?_; rotate_left; (intro w'; go_simp; with_reducible rfl); rotate_left; (simp only [Act.put, List.setIfInBounds_toArray, List.set_cons_zero, List.set_cons_succ, i64_w, i32_w]; rfl)) | (refine seqL (v := ?_) (a' := ?_) rfl rfl (by kernel_rfl) (fun _ _ _ h => h) (Or.inl ⟨by kernel_rfl, ?_⟩) hHeld ?_ ?_; rotate_left; (rintro w' ⟨s0, s1, s2, s3, s4, s5, s6, s7⟩; go_simp; with_reducible rfl); rotate_left; (simp only [Act.put, List.setIfInBounds_toArray, List.set_cons_zero, List.set_cons_succ, i64_w, i32_w]; rfl))
          iterate 3 (refine seqP (v := undef) (a' := ?_) rfl rfl (by kernel_rfl) (fun _ _ _ h => h) (Or.inr ⟨by kernel_rfl, rfl⟩) ?_ ?_; rotate_left; (simp only [Act.put, List.setIfInBounds_toArray, List.set_cons_zero, List.set_cons_succ, i64_w, i32_w]; rfl))
          iterate 2 first | (refine seqP (v := ?_) (a' := ?_) rfl rfl (by kernel_rfl) (fun _ _ _ h => h) (Or.inl ⟨by kernel_rfl, ?_⟩) ?_ ?_; rotate_left; (intro w'; go_simp; with_reducible rfl); rotate_left; (simp only [Act.put, List.setIfInBounds_toArray, List.set_cons_zero, List.set_cons_succ, i64_w, i32_w]; rfl)) | (refine seqL (v := ?_) (a' := ?_) rfl rfl (by kernel_rfl) (fun _ _ _ h => h) (Or.inl ⟨by kernel_rfl, ?_⟩) hHeld ?_ ?_; rotate_left; (rintro w' ⟨s0, s1, s2, s3, s4, s5, s6, s7⟩; go_simp; with_reducible rfl); rotate_left; (simp only [Act.put, List.setIfInBounds_toArray, List.set_cons_zero, List.set_cons_succ, i64_w, i32_w]; rfl))
          iterate 1 first | (refine seqP (v := ?_) (a' := ?_) rfl rfl (by kernel_rfl) (fun _ _ _ h => h) (Or.inl ⟨by kernel_rfl, ?_⟩) ?_ ?_; rotate_left; (intro w'; go_simp; with_reducible rfl); rotate_left; (simp only [Act.put, List.setIfInBounds_toArray, List.set_cons_zero, List.set_cons_succ, i64_w, i32_w]; rfl)) | (refine seqL (v := ?_) (a' := ?_) rfl rfl (by kernel_rfl) (fun _ _ _ h => h) (Or.inl ⟨by kernel_rfl, ?_⟩) hHeld ?_ ?_; rotate_left; (rintro w' ⟨s0, s1, s2, s3, s4, s5, s6, s7⟩; go_simp; with_reducible rfl); rotate_left; (simp only [Act.put, List.setIfInBounds_toArray, List.set_cons_zero, List.set_cons_succ, i64_w, i32_w]; rfl))
          refine seqG (fn := Tryd.f65) rfl rfl (by kernel_rfl) rfl Tryd.func65 (by kernel_rfl) (by kernel_rfl) #[.agg #[.string f0, .int .i64 5, .int .i64 f2, .int .i64 f3, .string f4, .string f5, .int .i64 f6]] (by kernel_rfl) (by (try simp only [List.map_toArray, List.map_cons, List.map_nil]); first | done | rfl) ?_
          with_reducible refine (C1.out _).mono ?_
          rintro e w2 ⟨rfl, hb2⟩
          have HB2 := Aside0.mk (below_step HB1.out hb2)
          refine ⟨_, rfl, conf_static.S_below hHeld hb2, fun hHeld => ⟨?_, ?_, ?_⟩⟩
          rotate_left
          · simp only [Act.put, List.setIfInBounds_toArray, List.set_cons_zero, List.set_cons_succ, i64_w, i32_w]
            rfl
          iterate 3 first | (refine seqP (v := ?_) (a' := ?_) rfl rfl (by kernel_rfl) (fun _ _ _ h => h) (Or.inl ⟨by kernel_rfl, ?_⟩) ?_ ?_; rotate_left; (intro w'; go_simp; with_reducible rfl); rotate_left; (simp only [Act.put, List.setIfInBounds_toArray, List.set_cons_zero, List.set_cons_succ, i64_w, i32_w]; rfl)) | (refine seqL (v := ?_) (a' := ?_) rfl rfl (by kernel_rfl) (fun _ _ _ h => h) (Or.inl ⟨by kernel_rfl, ?_⟩) hHeld ?_ ?_; rotate_left; (rintro w' ⟨s0, s1, s2, s3, s4, s5, s6, s7⟩; go_simp; with_reducible rfl); rotate_left; (simp only [Act.put, List.setIfInBounds_toArray, List.set_cons_zero, List.set_cons_succ, i64_w, i32_w]; rfl))
          cases b1 with
          | false =>
            iterate 8 (refine seqP (v := undef) (a' := ?_) rfl rfl (by kernel_rfl) (fun _ _ _ h => h) (Or.inr ⟨by kernel_rfl, rfl⟩) ?_ ?_; rotate_left; (simp only [Act.put, List.setIfInBounds_toArray, List.set_cons_zero, List.set_cons_succ, i64_w, i32_w]; rfl))
            iterate 2 first | (refine seqP (v := ?_) (a' := ?_) rfl rfl (by kernel_rfl) (fun _ _ _ h => h) (Or.inl ⟨by kernel_rfl, ?_⟩) ?_ ?_; rotate_left; (intro w'; go_simp; with_reducible rfl); rotate_left; (simp only [Act.put, List.setIfInBounds_toArray, List.set_cons_zero, List.set_cons_succ, i64_w, i32_w]; rfl)) | (refine seqL (v := ?_) (a' := ?_) rfl rfl (by kernel_rfl) (fun _ _ _ h => h) (Or.inl ⟨by kernel_rfl, ?_⟩) hHeld ?_ ?_; rotate_left; (rintro w' ⟨s0, s1, s2, s3, s4, s5, s6, s7⟩; go_simp; with_reducible rfl); rotate_left; (simp only [Act.put, List.setIfInBounds_toArray, List.set_cons_zero, List.set_cons_succ, i64_w, i32_w]; rfl))
            iterate 7 (refine seqP (v := undef) (a' := ?_) rfl rfl (by kernel_rfl) (fun _ _ _ h => h) (Or.inr ⟨by kernel_rfl, rfl⟩) ?_ ?_; rotate_left; (simp only [Act.put, List.setIfInBounds_toArray, List.set_cons_zero, List.set_cons_succ, i64_w, i32_w]; rfl))
            iterate 1 first | (refine seqP (v := ?_) (a' := ?_) rfl rfl (by kernel_rfl) (fun _ _ _ h => h) (Or.inl ⟨by kernel_rfl, ?_⟩) ?_ ?_; rotate_left; (intro w'; go_simp; with_reducible rfl); rotate_left; (simp only [Act.put, List.setIfInBounds_toArray, List.set_cons_zero, List.set_cons_succ, i64_w, i32_w]; rfl)) | (refine seqL (v := ?_) (a' := ?_) rfl rfl (by kernel_rfl) (fun _ _ _ h => h) (Or.inl ⟨by kernel_rfl, ?_⟩) hHeld ?_ ?_; rotate_left; (rintro w' ⟨s0, s1, s2, s3, s4, s5, s6, s7⟩; go_simp; with_reducible rfl); rotate_left; (simp only [Act.put, List.setIfInBounds_toArray, List.set_cons_zero, List.set_cons_succ, i64_w, i32_w]; rfl))
            refine seqE (by kernel_rfl) ?_
            go_wp2
            go_ret
            exact ⟨ret_bool (fin.out (by simp)), by repeat (with_reducible first | exact HB2.out | exact HB1.out | apply below_alloc | apply pw_below_drewN | apply below_drew1)⟩
          | true =>
            iterate 6 first | (refine seqP (v := ?_) (a' := ?_) rfl rfl (by kernel_rfl) (fun _ _ _ h => h) (Or.inl ⟨by kernel_rfl, ?_⟩) ?_ ?_; rotate_left; (intro w'; go_simp; with_reducible rfl); rotate_left; (simp only [Act.put, List.setIfInBounds_toArray, List.set_cons_zero, List.set_cons_succ, i64_w, i32_w]; rfl)) | (refine seqL (v := ?_) (a' := ?_) rfl rfl (by kernel_rfl) (fun _ _ _ h => h) (Or.inl ⟨by kernel_rfl, ?_⟩) hHeld ?_ ?_; rotate_left; (rintro w' ⟨s0, s1, s2, s3, s4, s5, s6, s7⟩; go_simp; with_reducible rfl); rotate_left; (simp only [Act.put, List.setIfInBounds_toArray, List.set_cons_zero, List.set_cons_succ, i64_w, i32_w]; rfl))
            refine seqG (fn := Tryd.f58) rfl rfl (by kernel_rfl) rfl Tryd.func58 (by kernel_rfl) (by kernel_rfl) #[.string f0, .string z] (by kernel_rfl) (by (try simp only [List.map_toArray, List.map_cons, List.map_nil]); first | done | rfl) ?_
            with_reducible refine (C2.out _).mono ?_
            rintro e w3 ⟨rfl, ⟨nd, rfl⟩⟩
            skip
            refine ⟨_, rfl, conf_static.S_below hHeld (pw_below_drewN (Below.refl _ _) _), fun hHeld => ⟨?_, ?_, ?_⟩⟩
            rotate_left
            · simp only [Act.put, List.setIfInBounds_toArray, List.set_cons_zero, List.set_cons_succ, i64_w, i32_w]
              rfl
            iterate 3 first | (refine seqP (v := ?_) (a' := ?_) rfl rfl (by kernel_rfl) (fun _ _ _ h => h) (Or.inl ⟨by kernel_rfl, ?_⟩) ?_ ?_; rotate_left; (intro w'; go_simp; with_reducible rfl); rotate_left; (simp only [Act.put, List.setIfInBounds_toArray, List.set_cons_zero, List.set_cons_succ, i64_w, i32_w]; rfl)) | (refine seqL (v := ?_) (a' := ?_) rfl rfl (by kernel_rfl) (fun _ _ _ h => h) (Or.inl ⟨by kernel_rfl, ?_⟩) hHeld ?_ ?_; rotate_left; (rintro w' ⟨s0, s1, s2, s3, s4, s5, s6, s7⟩; go_simp; with_reducible rfl); rotate_left; (simp only [Act.put, List.setIfInBounds_toArray, List.set_cons_zero, List.set_cons_succ, i64_w, i32_w]; rfl))
            cases b2 with
            | false =>
              iterate 7 (refine seqP (v := undef) (a' := ?_) rfl rfl (by kernel_rfl) (fun _ _ _ h => h) (Or.inr ⟨by kernel_rfl, rfl⟩) ?_ ?_; rotate_left; (simp only [Act.put, List.setIfInBounds_toArray, List.set_cons_zero, List.set_cons_succ, i64_w, i32_w]; rfl))
              iterate 1 first | (refine seqP (v := ?_) (a' := ?_) rfl rfl (by kernel_rfl) (fun _ _ _ h => h) (Or.inl ⟨by kernel_rfl, ?_⟩) ?_ ?_; rotate_left; (intro w'; go_simp; with_reducible rfl); rotate_left; (simp only [Act.put, List.setIfInBounds_toArray, List.set_cons_zero, List.set_cons_succ, i64_w, i32_w]; rfl)) | (refine seqL (v := ?_) (a' := ?_) rfl rfl (by kernel_rfl) (fun _ _ _ h => h) (Or.inl ⟨by kernel_rfl, ?_⟩) hHeld ?_ ?_; rotate_left; (rintro w' ⟨s0, s1, s2, s3, s4, s5, s6, s7⟩; go_simp; with_reducible rfl); rotate_left; (simp only [Act.put, List.setIfInBounds_toArray, List.set_cons_zero, List.set_cons_succ, i64_w, i32_w]; rfl))
              refine seqE (by kernel_rfl) ?_
              go_wp2
              go_ret
              exact ⟨ret_bool (fin.out (by simp)), by repeat (with_reducible first | exact HB2.out | exact HB1.out | apply below_alloc | apply pw_below_drewN | apply below_drew1)⟩
            | true =>
              iterate 8 first | (refine seqP (v := ?_) (a' := ?_) rfl rfl (by kernel_rfl) (fun _ _ _ h => h) (Or.inl ⟨by kernel_rfl, ?_⟩) ?_ ?_; rotate_left; (intro w'; go_simp; with_reducible rfl); rotate_left; (simp only [Act.put, List.setIfInBounds_toArray, List.set_cons_zero, List.set_cons_succ, i64_w, i32_w]; rfl)) | (refine seqL (v := ?_) (a' := ?_) rfl rfl (by kernel_rfl) (fun _ _ _ h => h) (Or.inl ⟨by kernel_rfl, ?_⟩) hHeld ?_ ?_; rotate_left; (rintro w' ⟨s0, s1, s2, s3, s4, s5, s6, s7⟩; go_simp; with_reducible rfl); rotate_left; (simp only [Act.put, List.setIfInBounds_toArray, List.set_cons_zero, List.set_cons_succ, i64_w, i32_w]; rfl))
              refine seqE (by kernel_rfl) ?_
              generalize hq : (f0.toList == z.toList) = b3
              cases b3 with
              | true =>
                replace hq := Aside0.mk hq
                go_wp2
                go_ret
                exact ⟨ret_bool (fin.out (by simpa using hq.out)), by repeat (with_reducible first | exact HB2.out | exact HB1.out | apply below_alloc | apply pw_below_drewN | apply below_drew1)⟩
              | false =>
                have HS2 := Aside0.mk (HN.out (by simpa using hq))
                replace hq := Aside0.mk hq
                go_wp2
                go_roundg (l0.length - (i.toNat + 1))
                case measure => first | omega | (simp; omega)
                case rel =>
                  have e2 : (i + 1).toNat = i.toNat + 1 := by omega
                  exact ⟨i + 1, by omega, by omega, by go_num, ⟨by repeat (with_reducible first | exact HB2.out | exact HB1.out | apply below_alloc | apply pw_below_drewN | apply below_drew1)⟩, ⟨by rw [e2]; exact HS2.out⟩⟩
        · refine seqS (S := conf_static.S wr.heap.size g f0 16 f2 f3 f4 f5 f6 z) 37 (by kernel_rfl) rfl rfl (by unfold conf_static.S; go_simp) ?_
          intro hHeld
          iterate 14 first | (refine seqP (v := ?_) (a' := ?_) rfl rfl (by kernel_rfl) (fun _ _ _ h => h) (Or.inl ⟨by kernel_rfl, ?_⟩) ?_ ?_; rotate_left; (intro w'; go_simp; with_reducible rfl); rotate_left; (simp only [Act.put, List.setIfInBounds_toArray, List.set_cons_zero, List.set_cons_succ, i64_w, i32_w]; rfl)) | (refine seqL (v := ?_) (a' := ?_) rfl rfl (by kernel_rfl) (fun _ _ _ h => h) (Or.inl ⟨by kernel_rfl, ?_⟩) hHeld ?_ ?_; rotate_left; (rintro w' ⟨s0, s1, s2, s3, s4, s5, s6, s7⟩; go_simp; with_reducible rfl); rotate_left; (simp only [Act.put, List.setIfInBounds_toArray, List.set_cons_zero, List.set_cons_succ, i64_w, i32_w]; rfl))
          iterate 1 first | (refine seqP (v := ?_) (a' := ?_) rfl rfl (by kernel_rfl) (fun _ _ _ h => h) (Or.inl ⟨by kernel_rfl, ?_⟩) ?_ ?_; rotate_left; (intro w'; go_simp; with_reducible rfl); rotate_left; (simp only [Act.put, List.setIfInBounds_toArray, List.set_cons_zero, List.set_cons_succ, i64_w, i32_w]; rfl)) | (refine seqL (v := ?_) (a' := ?_) rfl rfl (by kernel_rfl) (fun _ _ _ h => h) (Or.inl ⟨by kernel_rfl, ?_⟩) hHeld ?_ ?_; rotate_left; (rintro w' ⟨s0, s1, s2, s3, s4, s5, s6, s7⟩; go_simp; with_reducible rfl); rotate_left; (simp only [Act.put, List.setIfInBounds_toArray, List.set_cons_zero, List.set_cons_succ, i64_w, i32_w]; rfl))
          refine seqG (fn := Tryd.f65) rfl rfl (by kernel_rfl) rfl Tryd.func65 (by kernel_rfl) (by kernel_rfl) #[.agg #[.string f0, .int .i64 16, .int .i64 f2, .int .i64 f3, .string f4, .string f5, .int .i64 f6]] (by kernel_rfl) (by (try simp only [List.map_toArray, List.map_cons, List.map_nil]); first | done | rfl) ?_
          with_reducible refine (C1.out _).mono ?_
          rintro e w2 ⟨rfl, hb2⟩
          have HB2 := Aside0.mk (below_step HB1.out hb2)
          refine ⟨_, rfl, conf_static.S_below hHeld hb2, fun hHeld => ⟨?_, ?_, ?_⟩⟩
          rotate_left
          · simp only [Act.put, List.setIfInBounds_toArray, List.set_cons_zero, List.set_cons_succ, i64_w, i32_w]
            rfl
          iterate 3 first | (refine seqP (v := ?_) (a' := ?_) rfl rfl (by kernel_rfl) (fun _ _ _ h => h) (Or.inl ⟨by kernel_rfl, ?_⟩) ?_ ?_; rotate_left; (intro w'; go_simp; with_reducible rfl); rotate_left; (simp only [Act.put, List.setIfInBounds_toArray, List.set_cons_zero, List.set_cons_succ, i64_w, i32_w]; rfl)) | (refine seqL (v := ?_) (a' := ?_) rfl rfl (by kernel_rfl) (fun _ _ _ h => h) (Or.inl ⟨by kernel_rfl, ?_⟩) hHeld ?_ ?_; rotate_left; (rintro w' ⟨s0, s1, s2, s3, s4, s5, s6, s7⟩; go_simp; with_reducible rfl); rotate_left; (simp only [Act.put, List.setIfInBounds_toArray, List.set_cons_zero, List.set_cons_succ, i64_w, i32_w]; rfl))
          cases b1 with
          | false =>
            iterate 8 (refine seqP (v := undef) (a' := ?_) rfl rfl (by kernel_rfl) (fun _ _ _ h => h) (Or.inr ⟨by kernel_rfl, rfl⟩) ?_ ?_; rotate_left; (simp only [Act.put, List.setIfInBounds_toArray, List.set_cons_zero, List.set_cons_succ, i64_w, i32_w]; rfl))
            iterate 2 first | (refine seqP (v := ?_) (a' := ?_) rfl rfl (by kernel_rfl) (fun _ _ _ h => h) (Or.inl ⟨by kernel_rfl, ?_⟩) ?_ ?_; rotate_left; (intro w'; go_simp; with_reducible rfl); rotate_left; (simp only [Act.put, List.setIfInBounds_toArray, List.set_cons_zero, List.set_cons_succ, i64_w, i32_w]; rfl)) | (refine seqL (v := ?_) (a' := ?_) rfl rfl (by kernel_rfl) (fun _ _ _ h => h) (Or.inl ⟨by kernel_rfl, ?_⟩) hHeld ?_ ?_; rotate_left; (rintro w' ⟨s0, s1, s2, s3, s4, s5, s6, s7⟩; go_simp; with_reducible rfl); rotate_left; (simp only [Act.put, List.setIfInBounds_toArray, List.set_cons_zero, List.set_cons_succ, i64_w, i32_w]; rfl))
            iterate 7 (refine seqP (v := undef) (a' := ?_) rfl rfl (by kernel_rfl) (fun _ _ _ h => h) (Or.inr ⟨by kernel_rfl, rfl⟩) ?_ ?_; rotate_left; (simp only [Act.put, List.setIfInBounds_toArray, List.set_cons_zero, List.set_cons_succ, i64_w, i32_w]; rfl))
            iterate 1 first | (refine seqP (v := ?_) (a' := ?_) rfl rfl (by kernel_rfl) (fun _ _ _ h => h) (Or.inl ⟨by kernel_rfl, ?_⟩) ?_ ?_; rotate_left; (intro w'; go_simp; with_reducible rfl); rotate_left; (simp only [Act.put, List.setIfInBounds_toArray, List.set_cons_zero, List.set_cons_succ, i64_w, i32_w]; rfl)) | (refine seqL (v := ?_) (a' := ?_) rfl rfl (by kernel_rfl) (fun _ _ _ h => h) (Or.inl ⟨by kernel_rfl, ?_⟩) hHeld ?_ ?_; rotate_left; (rintro w' ⟨s0, s1, s2, s3, s4, s5, s6, s7⟩; go_simp; with_reducible rfl); rotate_left; (simp only [Act.put, List.setIfInBounds_toArray, List.set_cons_zero, List.set_cons_succ, i64_w, i32_w]; rfl))
            refine seqE (by kernel_rfl) ?_
            go_wp2
            go_ret
            exact ⟨ret_bool (fin.out (by simp)), by repeat (with_reducible first | exact HB2.out | exact HB1.out | apply below_alloc | apply pw_below_drewN | apply below_drew1)⟩
          | true =>
            iterate 6 first | (refine seqP (v := ?_) (a' := ?_) rfl rfl (by kernel_rfl) (fun _ _ _ h => h) (Or.inl ⟨by kernel_rfl, ?_⟩) ?_ ?_; rotate_left; (intro w'; go_simp; with_reducible rfl); rotate_left; (simp only [Act.put, List.setIfInBounds_toArray, List.set_cons_zero, List.set_cons_succ, i64_w, i32_w]; rfl)) | (refine seqL (v := ?_) (a' := ?_) rfl rfl (by kernel_rfl) (fun _ _ _ h => h) (Or.inl ⟨by kernel_rfl, ?_⟩) hHeld ?_ ?_; rotate_left; (rintro w' ⟨s0, s1, s2, s3, s4, s5, s6, s7⟩; go_simp; with_reducible rfl); rotate_left; (simp only [Act.put, List.setIfInBounds_toArray, List.set_cons_zero, List.set_cons_succ, i64_w, i32_w]; rfl))
            refine seqG (fn := Tryd.f58) rfl rfl (by kernel_rfl) rfl Tryd.func58 (by kernel_rfl) (by kernel_rfl) #[.string f0, .string z] (by kernel_rfl) (by (try simp only [List.map_toArray, List.map_cons, List.map_nil]); first | done | rfl) ?_
            with_reducible refine (C2.out _).mono ?_
            rintro e w3 ⟨rfl, ⟨nd, rfl⟩⟩
            skip
            refine ⟨_, rfl, conf_static.S_below hHeld (pw_below_drewN (Below.refl _ _) _), fun hHeld => ⟨?_, ?_, ?_⟩⟩
            rotate_left
            · simp only [Act.put, List.setIfInBounds_toArray, List.set_cons_zero, List.set_cons_succ, i64_w, i32_w]
              rfl
            iterate 3 first | (refine seqP (v := ?_) (a' := ?_) rfl rfl (by kernel_rfl) (fun _ _ _ h => h) (Or.inl ⟨by kernel_rfl, ?_⟩) ?_ ?_; rotate_left; (intro w'; go_simp; with_reducible rfl); rotate_left; (simp only [Act.put, List.setIfInBounds_toArray, List.set_cons_zero, List.set_cons_succ, i64_w, i32_w]; rfl)) | (refine seqL (v := ?_) (a' := ?_) rfl rfl (by kernel_rfl) (fun _ _ _ h => h) (Or.inl ⟨by kernel_rfl, ?_⟩) hHeld ?_ ?_; rotate_left; (rintro w' ⟨s0, s1, s2, s3, s4, s5, s6, s7⟩; go_simp; with_reducible rfl); rotate_left; (simp only [Act.put, List.setIfInBounds_toArray, List.set_cons_zero, List.set_cons_succ, i64_w, i32_w]; rfl))
            cases b2 with
            | false =>
              iterate 7 (refine seqP (v := undef) (a' := ?_) rfl rfl (by kernel_rfl) (fun _ _ _ h => h) (Or.inr ⟨by kernel_rfl, rfl⟩) ?_ ?_; rotate_left; (simp only [Act.put, List.setIfInBounds_toArray, List.set_cons_zero, List.set_cons_succ, i64_w, i32_w]; rfl))
              iterate 1 first | (refine seqP (v := ?_) (a' := ?_) rfl rfl (by kernel_rfl) (fun _ _ _ h => h) (Or.inl ⟨by kernel_rfl, ?_⟩) ?_ ?_; rotate_left; (intro w'; go_simp; with_reducible rfl); rotate_left; (simp only [Act.put, List.setIfInBounds_toArray, List.set_cons_zero, List.set_cons_succ, i64_w, i32_w]; rfl)) | (refine seqL (v := ?_) (a' := ?_) rfl rfl (by kernel_rfl) (fun _ _ _ h => h) (Or.inl ⟨by kernel_rfl, ?_⟩) hHeld ?_ ?_; rotate_left; (rintro w' ⟨s0, s1, s2, s3, s4, s5, s6, s7⟩; go_simp; with_reducible rfl); rotate_left; (simp only [Act.put, List.setIfInBounds_toArray, List.set_cons_zero, List.set_cons_succ, i64_w, i32_w]; rfl))
              refine seqE (by kernel_rfl) ?_
              go_wp2
              go_ret
              exact ⟨ret_bool (fin.out (by simp)), by repeat (with_reducible first | exact HB2.out | exact HB1.out | apply below_alloc | apply pw_below_drewN | apply below_drew1)⟩
            | true =>
              iterate 8 first | (refine seqP (v := ?_) (a' := ?_) rfl rfl (by kernel_rfl) (fun _ _ _ h => h) (Or.inl ⟨by kernel_rfl, ?_⟩) ?_ ?_; rotate_left; (intro w'; go_simp; with_reducible rfl); rotate_left; (simp only [Act.put, List.setIfInBounds_toArray, List.set_cons_zero, List.set_cons_succ, i64_w, i32_w]; rfl)) | (refine seqL (v := ?_) (a' := ?_) rfl rfl (by kernel_rfl) (fun _ _ _ h => h) (Or.inl ⟨by kernel_rfl, ?_⟩) hHeld ?_ ?_; rotate_left; (rintro w' ⟨s0, s1, s2, s3, s4, s5, s6, s7⟩; go_simp; with_reducible rfl); rotate_left; (simp only [Act.put, List.setIfInBounds_toArray, List.set_cons_zero, List.set_cons_succ, i64_w, i32_w]; rfl))
              refine seqE (by kernel_rfl) ?_
              generalize hq : (f0.toList == z.toList) = b3
              cases b3 with
              | true =>
                replace hq := Aside0.mk hq
                go_wp2
                go_ret
                exact ⟨ret_bool (fin.out (by simpa using hq.out)), by repeat (with_reducible first | exact HB2.out | exact HB1.out | apply below_alloc | apply pw_below_drewN | apply below_drew1)⟩
              | false =>
                have HS2 := Aside0.mk (HN.out (by simpa using hq))
                replace hq := Aside0.mk hq
                go_wp2
                go_roundg (l0.length - (i.toNat + 1))
                case measure => first | omega | (simp; omega)
                case rel =>
                  have e2 : (i + 1).toNat = i.toNat + 1 := by omega
                  exact ⟨i + 1, by omega, by omega, by go_num, ⟨by repeat (with_reducible first | exact HB2.out | exact HB1.out | apply below_alloc | apply pw_below_drewN | apply below_drew1)⟩, ⟨by rw [e2]; exact HS2.out⟩⟩
      · have q1 : (f1 != 1) = true := by simp; omega
        have q5 : (f1 != 5) = true := by simp; omega
        have q16 : (f1 != 16) = true := by simp; omega
        have ff := fin (by unfold staticB; rw [decide_eq_false qk]; rfl)
        replace ff := Aside0.mk ff
        clear qk hsz fin HN
        go_wp2_with fail
        go_quiet (fail)
        go_wp2
        go_ret
        exact ⟨ret_bool ff.out, by repeat (with_reducible first | exact HB.out | apply below_alloc | apply pw_below_drewN | apply below_drew1)⟩
    · have e3 : l0.drop i.toNat = [] := List.drop_eq_nil_of_le (by omega)
      have HE := Aside0.mk (show l0.all (staticB z) = true by rw [HS.out, e3]; rfl)
      clear HS
      go_wp2
      go_ret
      refine ⟨ret_bool ?_, HB.out⟩
      rw [← e4.out, HE.out, Bool.true_and]
      exact decide_eq_decide.2 (by omega)

/-! ### conf_May: function 20 -/
-- BY HAND
/-- may a configuration be. -/
def confB (a0 a1 : Int) (l2 : List Int) (l3 : List S47) (a4 : Int) (z : ByteArray) (l6 : List S49) : Bool :=
  decide (2 ≤ a0 ∧ a0 ≤ a1 ∧ a1 ≤ 254 ∧ a1 - a0 < 8) && (decide (z.toList ≠ []) && (nameB (bytesOf z) && decide ((labelsS z).length ≤ 4))) && (decide (1 ≤ a4 ∧ a4 ≤ 1048576) && (hostsB a0 a1 l2 8 && (reservedB a0 a1 l3 && staticsB z l6)))
/-- how long the parts of a configuration may be, that the walks reach. -/
def confFit (l2 : List Int) (l3 : List S47) (z : ByteArray) (l6 : List S49) : Prop := l2.length ≤ 140737488351232 ∧ l3.length ≤ 5864062014805 ∧ z.size ≤ 140737488351232 ∧ l6.length ≤ 140737488351232 ∧ ∀ x ∈ l6, x.f0.size ≤ 140737488351232 ∧ x.f4.size ≤ 140737488351232
instance (l2 : List Int) (l3 : List S47) (z : ByteArray) (l6 : List S49) : Decidable (confFit l2 l3 z l6) := by unfold confFit; infer_instance
def conf_May.f (a0_0 : Int) (a0_1 : Int) (l0_2 : List Int) (l0_3 : List S47) (a0_4 : Int) (a0_5 : ByteArray) (l0_6 : List S49) : Option Bool := if confFit l0_2 l0_3 a0_5 l0_6 then some (confB a0_0 a0_1 l0_2 l0_3 a0_4 a0_5 l0_6) else none
set_option maxHeartbeats 8000000 in
set_option maxRecDepth 100000 in
theorem conf_May.calls (a0_0 : Int) (a0_1 : Int) (A0_2 : Option Addr) (c0_2 : Nat) (l0_2 : List Int) (A0_3 : Option Addr) (c0_3 : Nat) (l0_3 : List S47) (a0_4 : Int) (a0_5 : ByteArray) (A0_6 : Option Addr) (c0_6 : Nat) (l0_6 : List S49) (r : Bool) (w : World) (hr0_2 : Kd.C (Kd.int .i64) w A0_2 l0_2.length l0_2) (hc0_2 : l0_2.length ≤ c0_2) (hr0_3 : Kd.C k47 w A0_3 l0_3.length l0_3) (hc0_3 : l0_3.length ≤ c0_3) (hr0_6 : Kd.C k49 w A0_6 l0_6.length l0_6) (hc0_6 : l0_6.length ≤ c0_6) (h : conf_May.f a0_0 a0_1 l0_2 l0_3 a0_4 a0_5 l0_6 = some r) :
    Calls Tryd.prog 20 #[.agg #[.int .i64 a0_0, .int .i64 a0_1, .slice A0_2 l0_2.length c0_2, .slice A0_3 l0_3.length c0_3, .int .i64 a0_4, .string a0_5, .slice A0_6 l0_6.length c0_6]] w fun e w' => e = .returned (.bool r) ∧ Below w.heap.size w w' := by
  unfold conf_May.f at h
  by_cases hs : confFit l0_2 l0_3 a0_5 l0_6
  rotate_left
  · rw [if_neg hs] at h
    cases h
  rw [if_pos hs] at h
  have HR := Aside0.mk (Option.some.inj h)
  obtain ⟨f2, f3, fz, f6, fx⟩ := hs
  obtain ⟨n5, h5⟩ : ∃ b, nameB (bytesOf a0_5) = b := ⟨_, rfl⟩
  obtain ⟨L, hL⟩ : ∃ b, labelsS a0_5 = b := ⟨_, rfl⟩
  obtain ⟨b2, hb2⟩ : ∃ b, hostsB a0_0 a0_1 l0_2 8 = b := ⟨_, rfl⟩
  obtain ⟨b3, hb3⟩ : ∃ b, reservedB a0_0 a0_1 l0_3 = b := ⟨_, rfl⟩
  obtain ⟨b6, hb6⟩ : ∃ b, staticsB a0_5 l0_6 = b := ⟨_, rfl⟩
  have CN := Aside0.mk (fun W => name_May_c.calls a0_5 n5 W (by unfold name_May_c.f; rw [if_pos (by omega), h5]))
  have CL := Aside0.mk (fun W => name_Labels_c.calls a0_5 L W (by unfold name_Labels_c.f; rw [if_pos (by omega), hL]))
  have CH := Aside0.mk (fun W (bk : W.heap[w.heap.size]? = some (.cells #[.int .i64 a0_0, .int .i64 a0_1, .slice A0_2 l0_2.length c0_2, .slice A0_3 l0_3.length c0_3, .int .i64 a0_4, .string a0_5, .slice A0_6 l0_6.length c0_6] 26)) (hb : Below w.heap.size w W) (h2 : 2 ≤ a0_0 ∧ a0_1 ≤ 254) => by have := conf_hosts.calls w.heap.size a0_0 a0_1 A0_2 c0_2 l0_2 8 W ((blk_cell bk 0).trans rfl) ((blk_cell bk 1).trans rfl) h2 (Kd.C_below hr0_2 hb) f2; rw [hb2] at this; exact this)
  have CR := Aside0.mk (fun W (bk : W.heap[w.heap.size]? = some (.cells #[.int .i64 a0_0, .int .i64 a0_1, .slice A0_2 l0_2.length c0_2, .slice A0_3 l0_3.length c0_3, .int .i64 a0_4, .string a0_5, .slice A0_6 l0_6.length c0_6] 26)) (hb : Below w.heap.size w W) (h2 : 2 ≤ a0_0 ∧ a0_1 ≤ 254) => by have := conf_reserved.calls w.heap.size a0_0 a0_1 A0_3 c0_3 l0_3 W ((blk_cell bk 0).trans rfl) ((blk_cell bk 1).trans rfl) ((blk_cell bk 3).trans rfl) h2 (Kd.C_below hr0_3 hb) f3; rw [hb3] at this; exact this)
  have CS := Aside0.mk (fun W (bk : W.heap[w.heap.size]? = some (.cells #[.int .i64 a0_0, .int .i64 a0_1, .slice A0_2 l0_2.length c0_2, .slice A0_3 l0_3.length c0_3, .int .i64 a0_4, .string a0_5, .slice A0_6 l0_6.length c0_6] 26)) (hb : Below w.heap.size w W) => by have := conf_static.calls w.heap.size a0_5 A0_6 c0_6 l0_6 W ((blk_cell bk 5).trans rfl) ((blk_cell bk 6).trans rfl) (Kd.C_below hr0_6 hb) f6 (by omega) (fun x hx => by have := fx x hx; omega); rw [hb6] at this; exact this)
  have HR2 := Aside0.mk (show (decide (2 ≤ a0_0 ∧ a0_0 ≤ a0_1 ∧ a0_1 ≤ 254 ∧ a0_1 - a0_0 < 8) && (decide (a0_5.toList ≠ []) && (n5 && decide (L.length ≤ 4))) && (decide (1 ≤ a0_4 ∧ a0_4 ≤ 1048576) && (b2 && (b3 && b6)))) = r by rw [← HR.out, ← h5, ← hL, ← hb2, ← hb3, ← hb6]; rfl)
  have HB := Aside0.mk (Below.refl w.heap.size w)
  have BK := Aside0.mk (blk_new w (.cells #[.int .i64 a0_0, .int .i64 a0_1, .slice A0_2 l0_2.length c0_2, .slice A0_3 l0_3.length c0_3, .int .i64 a0_4, .string a0_5, .slice A0_6 l0_6.length c0_6] 26))
  clear h h5 hL hb2 hb3 hb6 HR f2 f3 fz f6 fx hr0_2 hr0_3 hr0_6 hc0_2 hc0_3 hc0_6
  go_enter Tryd.func20, Tryd.ntmps20
  go_wp2_with (first
    | (go_at_call 41; (with_reducible refine (CN.out _).mono ?_); rintro e w1 ⟨rfl, ⟨nd, rfl⟩⟩)
    | (go_at_call 42; (with_reducible refine (CL.out _).mono ?_); rintro e w2 ⟨v, rfl, hR, hb2⟩; obtain ⟨A, c, rfl, hcl, hCl⟩ := Kd.R_reads hR; clear hcl hCl hR; replace BK := Aside0.mk (blk_below (show _ from by (with_reducible repeat (first | refine blk_drewN ?_ _ | refine blk_drew ?_ | refine blk_alloc ?_ _)); exact BK.out) hb2); replace HB := Aside0.mk (below_step (show Below w.heap.size w _ by repeat (with_reducible first | exact HB.out | apply below_alloc | apply pw_below_drewN | apply below_drew1)) hb2); clear hb2; have u0 := blk_cell BK.out 0; have u1 := blk_cell BK.out 1; have u2 := blk_cell BK.out 2; have u3 := blk_cell BK.out 3; have u4 := blk_cell BK.out 4; have u5 := blk_cell BK.out 5; have u6 := blk_cell BK.out 6)
    | (go_at_call 43; (with_reducible refine (CH.out _ (by (with_reducible repeat (first | refine blk_drewN ?_ _ | refine blk_drew ?_ | refine blk_alloc ?_ _)); exact BK.out) (by repeat (with_reducible first | exact HB.out | apply below_alloc | apply pw_below_drewN | apply below_drew1)) (by omega)).mono ?_); rintro e w3 ⟨rfl, hb2⟩; replace BK := Aside0.mk (blk_below (show _ from (by (with_reducible repeat (first | refine blk_drewN ?_ _ | refine blk_drew ?_ | refine blk_alloc ?_ _)); exact BK.out)) hb2); replace HB := Aside0.mk (below_step (show Below w.heap.size w _ from (by repeat (with_reducible first | exact HB.out | apply below_alloc | apply pw_below_drewN | apply below_drew1))) hb2); clear hb2)
    | (go_at_call 44; (with_reducible refine (CR.out _ (by (with_reducible repeat (first | refine blk_drewN ?_ _ | refine blk_drew ?_ | refine blk_alloc ?_ _)); exact BK.out) (by repeat (with_reducible first | exact HB.out | apply below_alloc | apply pw_below_drewN | apply below_drew1)) (by omega)).mono ?_); rintro e w4 ⟨rfl, hb2⟩; replace BK := Aside0.mk (blk_below (show _ from (by (with_reducible repeat (first | refine blk_drewN ?_ _ | refine blk_drew ?_ | refine blk_alloc ?_ _)); exact BK.out)) hb2); replace HB := Aside0.mk (below_step (show Below w.heap.size w _ from (by repeat (with_reducible first | exact HB.out | apply below_alloc | apply pw_below_drewN | apply below_drew1))) hb2); clear hb2)
    | (go_at_call 45; (with_reducible refine (CS.out _ (by (with_reducible repeat (first | refine blk_drewN ?_ _ | refine blk_drew ?_ | refine blk_alloc ?_ _)); exact BK.out) (by repeat (with_reducible first | exact HB.out | apply below_alloc | apply pw_below_drewN | apply below_drew1))).mono ?_); rintro e w5 ⟨rfl, hb2⟩; replace BK := Aside0.mk (blk_below (show _ from (by (with_reducible repeat (first | refine blk_drewN ?_ _ | refine blk_drew ?_ | refine blk_alloc ?_ _)); exact BK.out)) hb2); replace HB := Aside0.mk (below_step (show Below w.heap.size w _ from (by repeat (with_reducible first | exact HB.out | apply below_alloc | apply pw_below_drewN | apply below_drew1))) hb2); clear hb2))
  all_goals go_ret
  all_goals refine ⟨ret_bool ?_, ?_⟩
  all_goals first
    | ((repeat (with_reducible first | exact HB.out | apply below_alloc | apply pw_below_drewN | apply below_drew1)); done)
    | (rw [← HR2.out]; clear HR2 CN CL CH CR CS; simp [*] <;> omega)
    | (have q0 : a0_5.toList.isEmpty = false := (by simpa using (show ¬ a0_5.toList = [] by assumption)); rw [← HR2.out, decide_eq_true (show 2 ≤ a0_0 ∧ a0_0 ≤ a0_1 ∧ a0_1 ≤ 254 ∧ a0_1 - a0_0 < 8 by omega), decide_eq_true (show a0_5.toList ≠ [] by assumption), decide_eq_true (show L.length ≤ 4 by omega), decide_eq_true (show 1 ≤ a0_4 ∧ a0_4 ≤ 1048576 by omega)]; simp only [*, q0, Bool.not_false, Bool.true_and])

/-! ### conf_find: function 38 -/
-- BY HAND
-- 20
/-- the first of a row that is so, if it may be asked. -/
def findS (p : S47 → Bool) (b : Bool) (l : List S47) : Option S47 := if b = true then l.find? p else none
def foundN : Option S47 → ByteArray
  | some x => x.f0
  | none => ⟨#[]⟩
def foundH : Option S47 → Int
  | some x => x.f1
  | none => 0
def foundIs : Option S47 → Bool
  | some _ => true
  | none => false
set_option maxHeartbeats 8000000 in
set_option maxRecDepth 100000 in
theorem conf_find.calls (p : S47 → Bool) (G : Nat) (lb : Array Value) (g : Nat) (a0_0 : Int) (a0_1 : Int) (A0_2 : Option Addr) (c0_2 : Nat) (l0_2 : List Int) (A0_3 : Option Addr) (c0_3 : Nat) (l0_3 : List S47) (a0_4 : Int) (a0_5 : ByteArray) (A0_6 : Option Addr) (c0_6 : Nat) (l0_6 : List S49) (b : Bool) (w : World)
    (bk : w.heap[g]? = some (.cells #[.int .i64 a0_0, .int .i64 a0_1, .slice A0_2 l0_2.length c0_2, .slice A0_3 l0_3.length c0_3, .int .i64 a0_4, .string a0_5, .slice A0_6 l0_6.length c0_6] 26))
    (hr0_2 : Kd.C (Kd.int .i64) w A0_2 l0_2.length l0_2) (hc0_2 : l0_2.length ≤ c0_2) (hr0_3 : Kd.C k47 w A0_3 l0_3.length l0_3) (hc0_3 : l0_3.length ≤ c0_3) (hr0_6 : Kd.C k49 w A0_6 l0_6.length l0_6) (hc0_6 : l0_6.length ≤ c0_6) (h : conf_May.f a0_0 a0_1 l0_2 l0_3 a0_4 a0_5 l0_6 = some b)
    (hs : l0_3.length ≤ 5864062014805)
    (eg : ∀ args w, (callFunc G args).run Tryd.prog w = .ok (.enter G args) w)
    (hp : ∀ (W : World) (ad : Addr) (x : S47), Below w.heap.size w W → W.cell? ad = some (.string x.f0) → W.cell? ⟨ad.block, ad.off + 1, none⟩ = some (.int .i64 x.f1) → Calls Tryd.prog G (#[.pointer (some ad)] ++ lb) W fun e w' => e = .returned (.bool (p x)) ∧ Below W.heap.size W w') :
    Calls Tryd.prog 38 #[.pointer (some ⟨g, 0, none⟩), .func (.func G) #[] lb] w fun e w' => e = .returned (.tuple #[(.agg #[.string (foundN (findS p b l0_3)), .int .i64 (foundH (findS p b l0_3))]), .bool (foundIs (findS p b l0_3))]) ∧ Below w.heap.size w w' := by
  have HR3 := Aside0.mk hr0_3
  have BG := Aside0.mk bk
  have HP := Aside0.mk hp
  have CM := Aside0.mk (fun W (hb : Below w.heap.size w W) => conf_May.calls a0_0 a0_1 A0_2 c0_2 l0_2 A0_3 c0_3 l0_3 a0_4 a0_5 A0_6 c0_6 l0_6 b W (Kd.C_below hr0_2 hb) hc0_2 (Kd.C_below hr0_3 hb) hc0_3 (Kd.C_below hr0_6 hb) hc0_6 h)
  obtain ⟨R, hR⟩ : ∃ R, findS p b l0_3 = R := ⟨_, rfl⟩
  have HF := Aside0.mk hR
  rw [hR]
  have hg := blk_lt bk
  have hgne : g ≠ w.heap.size := by omega
  have hz3 : (w.alloc (.cells #[.string (⟨#[]⟩ : ByteArray), .int .i64 0] 47)).cell? ⟨g, 3, none⟩ = some (.slice A0_3 l0_3.length c0_3) := (blk_cell (blk_alloc bk _) 3).trans rfl
  clear hr0_2 hr0_3 hr0_6 hc0_2 hc0_3 hc0_6 h hp bk hR
  go_enter Tryd.func38, Tryd.ntmps38
  go_wp2
  clear hz3
  go_loopg [12] l0_3.length (fun d v9 wr => ∃ (i : Int), 0 ≤ i ∧ i.toNat + d = l0_3.length ∧ v9 = .int .i64 i ∧ Aside0 (wr.heap[w.heap.size]? = some (.cells #[.string (⟨#[]⟩ : ByteArray), .int .i64 0] 47)) ∧ Aside0 (Below w.heap.size w wr) ∧ Aside0 (findS p b l0_3 = findS p b (l0_3.drop i.toNat)))
  case atStart => exact ⟨0, by omega, by simp, rfl, ⟨blk_new _ _⟩, ⟨below_alloc (Below.refl _ _) _⟩, ⟨rfl⟩⟩
  case round =>
    obtain ⟨i, hi0, hd, rfl, BZ, HB, HS⟩ := hrel
    have hge : w.heap.size ≤ w.heap.size := Nat.le_refl _
    by_cases hlt : i < (l0_3.length : Int)
    · obtain ⟨ad, e1, hx0, hx1⟩ := at_T47 HR3.out i hi0 hlt
      cases e1
      replace hx0 := (HB.out.cell (World.block_lt_of_cell? w _ hx0)).trans hx0
      replace hx1 := (HB.out.cell (World.block_lt_of_cell? w _ hx1)).trans hx1
      have HD := HS.out
      have hd1 := (dropRes l0_3 i hi0 hlt).1
      rw [hd1] at HD
      clear HS hd1
      generalize rd_T47 l0_3 i = x at hx0 hx1 HD
      have hcall := HP.out wr (ad.add (i.toNat * 2)) x HB.out hx0 hx1
      have HG := Aside0.mk (blk_below BG.out HB.out)
      have v0 := blk_cell HG.out 0
      have v1 := blk_cell HG.out 1
      have v2 := blk_cell HG.out 2
      have v3 := blk_cell HG.out 3
      have v4 := blk_cell HG.out 4
      have v5 := blk_cell HG.out 5
      have v6 := blk_cell HG.out 6
      obtain ⟨q, hq⟩ : ∃ q, p x = q := ⟨_, rfl⟩
      rw [hq] at hcall
      have HQ : q = true → b = true → R = some x := fun e1 e2 => by
        rw [← HF.out, HD]
        unfold findS
        rw [if_pos e2, List.find?_cons, hq, e1]
      have HN : (q && b) = false → findS p b l0_3 = findS p b (l0_3.drop (i.toNat + 1)) := fun e => by
        rw [HD]
        unfold findS
        cases b with
        | false => rfl
        | true =>
          rw [Bool.and_true] at e
          rw [if_pos rfl, if_pos rfl, List.find?_cons, hq, e]
      clear HD hq HP
      cases q with
      | true =>
        cases b with
        | true =>
          have HQ2 := Aside0.mk (HQ rfl rfl)
          clear HQ HN HF
          go_wp2_with fail
          refine hcall.mono ?_
          rintro e w' ⟨rfl, hb'⟩
          clear hcall
          replace hx0 := (hb'.cell (World.block_lt_of_cell? _ _ hx0)).trans hx0
          replace hx1 := (hb'.cell (World.block_lt_of_cell? _ _ hx1)).trans hx1
          replace BZ := Aside0.mk (blk_below BZ.out hb')
          replace HG := Aside0.mk (blk_below HG.out hb')
          replace v0 := blk_cell HG.out 0
          replace v1 := blk_cell HG.out 1
          replace v2 := blk_cell HG.out 2
          replace v3 := blk_cell HG.out 3
          replace v4 := blk_cell HG.out 4
          replace v5 := blk_cell HG.out 5
          replace v6 := blk_cell HG.out 6
          replace HB := Aside0.mk (below_step HB.out hb')
          clear hb'
          go_wp2_with fail
          (with_reducible refine (CM.out _ HB.out).mono ?_)
          rintro e w'' ⟨rfl, hb'⟩
          replace hx0 := (hb'.cell (World.block_lt_of_cell? _ _ hx0)).trans hx0
          replace hx1 := (hb'.cell (World.block_lt_of_cell? _ _ hx1)).trans hx1
          replace BZ := Aside0.mk (blk_below BZ.out hb')
          replace HG := Aside0.mk (blk_below HG.out hb')
          replace v0 := blk_cell HG.out 0
          replace v1 := blk_cell HG.out 1
          replace v2 := blk_cell HG.out 2
          replace v3 := blk_cell HG.out 3
          replace v4 := blk_cell HG.out 4
          replace v5 := blk_cell HG.out 5
          replace v6 := blk_cell HG.out 6
          have z0 := blk_frozen BZ.out 0
          have z1 := blk_frozen BZ.out 1
          have y0 := blk_cell BZ.out 0
          have y1 := blk_cell BZ.out 1
          replace HB := Aside0.mk (below_step HB.out hb')
          clear hb'
          go_wp2
          refine bodyPost_ret (results_ct rfl _ _ w.heap.size 47 #[.string x.f0, .int .i64 x.f1] (0, 0) _ rfl (blk_set (blk_set BZ.out 0 (.string x.f0)) 1 (.int .i64 x.f1)) Tryd.underlying47 rfl (by kernel_rfl)) rfl ?_
          rw [HQ2.out]
          exact ⟨rfl, (HB.out.setCell hge _).setCell hge _⟩
        | false =>
          replace HN := Aside0.mk (HN rfl)
          clear HQ
          go_wp2_with fail
          refine hcall.mono ?_
          rintro e w' ⟨rfl, hb'⟩
          clear hcall
          replace hx0 := (hb'.cell (World.block_lt_of_cell? _ _ hx0)).trans hx0
          replace hx1 := (hb'.cell (World.block_lt_of_cell? _ _ hx1)).trans hx1
          replace BZ := Aside0.mk (blk_below BZ.out hb')
          replace HG := Aside0.mk (blk_below HG.out hb')
          replace v0 := blk_cell HG.out 0
          replace v1 := blk_cell HG.out 1
          replace v2 := blk_cell HG.out 2
          replace v3 := blk_cell HG.out 3
          replace v4 := blk_cell HG.out 4
          replace v5 := blk_cell HG.out 5
          replace v6 := blk_cell HG.out 6
          replace HB := Aside0.mk (below_step HB.out hb')
          clear hb'
          go_wp2_with fail
          (with_reducible refine (CM.out _ HB.out).mono ?_)
          rintro e w'' ⟨rfl, hb'⟩
          replace hx0 := (hb'.cell (World.block_lt_of_cell? _ _ hx0)).trans hx0
          replace hx1 := (hb'.cell (World.block_lt_of_cell? _ _ hx1)).trans hx1
          replace BZ := Aside0.mk (blk_below BZ.out hb')
          replace HG := Aside0.mk (blk_below HG.out hb')
          replace v0 := blk_cell HG.out 0
          replace v1 := blk_cell HG.out 1
          replace v2 := blk_cell HG.out 2
          replace v3 := blk_cell HG.out 3
          replace v4 := blk_cell HG.out 4
          replace v5 := blk_cell HG.out 5
          replace v6 := blk_cell HG.out 6
          have z0 := blk_frozen BZ.out 0
          have z1 := blk_frozen BZ.out 1
          have y0 := blk_cell BZ.out 0
          have y1 := blk_cell BZ.out 1
          replace HB := Aside0.mk (below_step HB.out hb')
          clear hb'
          go_wp2
          go_roundg (l0_3.length - (i.toNat + 1))
          case measure => first | omega | (simp; omega)
          case rel =>
            have e2 : (i + 1).toNat = i.toNat + 1 := by omega
            exact ⟨i + 1, by omega, by omega, by go_num, ⟨BZ.out⟩, ⟨HB.out⟩, ⟨by rw [e2]; exact HN.out⟩⟩
      | false =>
        replace HN := Aside0.mk (HN rfl)
        clear HQ
        go_wp2_with fail
        refine hcall.mono ?_
        rintro e w' ⟨rfl, hb'⟩
        clear hcall
        replace hx0 := (hb'.cell (World.block_lt_of_cell? _ _ hx0)).trans hx0
        replace hx1 := (hb'.cell (World.block_lt_of_cell? _ _ hx1)).trans hx1
        replace BZ := Aside0.mk (blk_below BZ.out hb')
        replace HG := Aside0.mk (blk_below HG.out hb')
        replace v0 := blk_cell HG.out 0
        replace v1 := blk_cell HG.out 1
        replace v2 := blk_cell HG.out 2
        replace v3 := blk_cell HG.out 3
        replace v4 := blk_cell HG.out 4
        replace v5 := blk_cell HG.out 5
        replace v6 := blk_cell HG.out 6
        replace HB := Aside0.mk (below_step HB.out hb')
        clear hb'
        go_wp2
        go_roundg (l0_3.length - (i.toNat + 1))
        case measure => first | omega | (simp; omega)
        case rel =>
          have e2 : (i + 1).toNat = i.toNat + 1 := by omega
          exact ⟨i + 1, by omega, by omega, by go_num, ⟨BZ.out⟩, ⟨HB.out⟩, ⟨by rw [e2]; exact HN.out⟩⟩
    · have e3 : l0_3.drop i.toNat = [] := List.drop_eq_nil_of_le (by omega)
      have HE : R = none := by
        rw [← HF.out, HS.out, e3]
        unfold findS
        split <;> rfl
      replace HE := Aside0.mk HE
      clear HS HF
      have z0 := blk_frozen BZ.out 0
      have z1 := blk_frozen BZ.out 1
      have y0 := blk_cell BZ.out 0
      have y1 := blk_cell BZ.out 1
      go_wp2
      refine bodyPost_ret (results_ct rfl _ _ w.heap.size 47 #[.string (⟨#[]⟩ : ByteArray), .int .i64 0] (0, 0) _ rfl (blk_set (blk_set BZ.out 0 (.string (⟨#[]⟩ : ByteArray))) 1 (.int .i64 0)) Tryd.underlying47 rfl (by kernel_rfl)) rfl ?_
      rw [HE.out]
      exact ⟨rfl, (HB.out.setCell hge _).setCell hge _⟩

-- NOT PRINTED: function 39 (conf_Owner_1)

/-! ### conf_Owner: function 14 -/
-- BY HAND
-- 20 38
def ownerR (a0 a1 : Int) (l2 : List Int) (l3 : List S47) (a4 : Int) (z : ByteArray) (l6 : List S49) (host : Int) : Option S47 := findS (fun x => x.f1 == host) (confB a0 a1 l2 l3 a4 z l6) l3
def reservR (a0 a1 : Int) (l2 : List Int) (l3 : List S47) (a4 : Int) (z : ByteArray) (l6 : List S49) (client : ByteArray) : Option S47 := findS (fun x => x.f0.toList == client.toList) (confB a0 a1 l2 l3 a4 z l6) l3
def usableB (a0 a1 : Int) (l2 : List Int) (l3 : List S47) (a4 : Int) (z : ByteArray) (l6 : List S49) (host : Int) : Bool := decide (host ∉ l2) && (confB a0 a1 l2 l3 a4 z l6 && decide (a0 ≤ host ∧ host ≤ a1))
def conf_Owner.f (a0_0 : Int) (a0_1 : Int) (l0_2 : List Int) (l0_3 : List S47) (a0_4 : Int) (a0_5 : ByteArray) (l0_6 : List S49) (a1 : Int) : Option (ByteArray × Bool) := if confFit l0_2 l0_3 a0_5 l0_6 then some (foundN (ownerR a0_0 a0_1 l0_2 l0_3 a0_4 a0_5 l0_6 a1), foundIs (ownerR a0_0 a0_1 l0_2 l0_3 a0_4 a0_5 l0_6 a1)) else none
set_option maxHeartbeats 8000000 in
set_option maxRecDepth 100000 in
theorem conf_Owner.is_ (a1 : Int) (B1 : Nat) (ad : Addr) (x : S47) (w : World) (hc : w.cell? ⟨B1, 0, none⟩ = some (.int .i64 a1)) (h0 : w.cell? ad = some (.string x.f0)) (h1 : w.cell? ⟨ad.block, ad.off + 1, none⟩ = some (.int .i64 x.f1)) :
    Calls Tryd.prog 39 #[.pointer (some ad), .pointer (some ⟨B1, 0, none⟩)] w fun e w' => e = .returned (.bool (x.f1 == a1)) ∧ Below w.heap.size w w' := by
  go_enter Tryd.func39, Tryd.ntmps39
  go_wp2
  go_quiet (fail)
  go_wp2
  go_ret
  exact ⟨rfl, pw_below_drewN (Below.refl _ _) _⟩
set_option maxHeartbeats 8000000 in
set_option maxRecDepth 100000 in
theorem conf_Owner.calls (a0_0 : Int) (a0_1 : Int) (A0_2 : Option Addr) (c0_2 : Nat) (l0_2 : List Int) (A0_3 : Option Addr) (c0_3 : Nat) (l0_3 : List S47) (a0_4 : Int) (a0_5 : ByteArray) (A0_6 : Option Addr) (c0_6 : Nat) (l0_6 : List S49) (a1 : Int) (r1 : ByteArray) (r2 : Bool) (w : World) (hr0_2 : Kd.C (Kd.int .i64) w A0_2 l0_2.length l0_2) (hc0_2 : l0_2.length ≤ c0_2) (hr0_3 : Kd.C k47 w A0_3 l0_3.length l0_3) (hc0_3 : l0_3.length ≤ c0_3) (hr0_6 : Kd.C k49 w A0_6 l0_6.length l0_6) (hc0_6 : l0_6.length ≤ c0_6) (h : conf_Owner.f a0_0 a0_1 l0_2 l0_3 a0_4 a0_5 l0_6 a1 = some (r1, r2)) :
    Calls Tryd.prog 14 #[.agg #[.int .i64 a0_0, .int .i64 a0_1, .slice A0_2 l0_2.length c0_2, .slice A0_3 l0_3.length c0_3, .int .i64 a0_4, .string a0_5, .slice A0_6 l0_6.length c0_6], .int .i64 a1] w fun e w' => e = .returned (.tuple #[.string r1, .bool r2]) ∧ Below w.heap.size w w' := by
  unfold conf_Owner.f at h
  by_cases hs : confFit l0_2 l0_3 a0_5 l0_6
  rotate_left
  · rw [if_neg hs] at h
    cases h
  rw [if_pos hs] at h
  simp only [Option.some.injEq, Prod.mk.injEq] at h
  obtain ⟨rfl, rfl⟩ := h
  have hm : conf_May.f a0_0 a0_1 l0_2 l0_3 a0_4 a0_5 l0_6 = some (confB a0_0 a0_1 l0_2 l0_3 a0_4 a0_5 l0_6) := by
    unfold conf_May.f
    rw [if_pos hs]
  have eg : ∀ args w, (callFunc 39 args).run Tryd.prog w = .ok (.enter 39 args) w := fun args w => enters_ Tryd.func39 (by kernel_rfl) rfl args w
  obtain ⟨W2, hW2⟩ : ∃ W2, (w.alloc (.cells #[.int .i64 a0_0, .int .i64 a0_1, .slice A0_2 l0_2.length c0_2, .slice A0_3 l0_3.length c0_3, .int .i64 a0_4, .string a0_5, .slice A0_6 l0_6.length c0_6] 26)).alloc (.cells #[.int .i64 a1] 3) = W2 := ⟨_, rfl⟩
  have HB := Aside0.mk (show Below w.heap.size w W2 by rw [← hW2]; repeat (first | exact Below.refl _ _ | apply below_alloc))
  have e1 : W2.heap[w.heap.size]? = some (.cells #[.int .i64 a0_0, .int .i64 a0_1, .slice A0_2 l0_2.length c0_2, .slice A0_3 l0_3.length c0_3, .int .i64 a0_4, .string a0_5, .slice A0_6 l0_6.length c0_6] 26) := by
    rw [← hW2]
    exact blk_alloc (blk_new w _) _
  have e2 : W2.heap[w.heap.size + 1]? = some (.cells #[.int .i64 a1] 3) := by
    have := blk_new (w.alloc (.cells #[.int .i64 a0_0, .int .i64 a0_1, .slice A0_2 l0_2.length c0_2, .slice A0_3 l0_3.length c0_3, .int .i64 a0_4, .string a0_5, .slice A0_6 l0_6.length c0_6] 26)) (.cells #[.int .i64 a1] 3)
    rw [hW2] at this
    simpa using this
  have HF := conf_find.calls (fun x => x.f1 == a1) 39 #[.pointer (some ⟨w.heap.size + 1, 0, none⟩)] w.heap.size a0_0 a0_1 A0_2 c0_2 l0_2 A0_3 c0_3 l0_3 a0_4 a0_5 A0_6 c0_6 l0_6 _ W2 e1 (Kd.C_below hr0_2 HB.out) hc0_2 (Kd.C_below hr0_3 HB.out) hc0_3 (Kd.C_below hr0_6 HB.out) hc0_6 hm hs.2.1 eg (fun W ad x hb h0 h1 => conf_Owner.is_ a1 (w.heap.size + 1) ad x W ((blk_cell (blk_below e2 hb) 0).trans rfl) h0 h1)
  rw [show findS (fun x => x.f1 == a1) (confB a0_0 a0_1 l0_2 l0_3 a0_4 a0_5 l0_6) l0_3 = ownerR a0_0 a0_1 l0_2 l0_3 a0_4 a0_5 l0_6 a1 from rfl] at HF
  obtain ⟨vN, hN⟩ : ∃ v, foundN (ownerR a0_0 a0_1 l0_2 l0_3 a0_4 a0_5 l0_6 a1) = v := ⟨_, rfl⟩
  obtain ⟨vH, hH⟩ : ∃ v, foundH (ownerR a0_0 a0_1 l0_2 l0_3 a0_4 a0_5 l0_6 a1) = v := ⟨_, rfl⟩
  obtain ⟨vI, hI⟩ : ∃ v, foundIs (ownerR a0_0 a0_1 l0_2 l0_3 a0_4 a0_5 l0_6 a1) = v := ⟨_, rfl⟩
  rw [hN, hH, hI] at HF
  rw [hN, hI]
  replace HF := Aside0.mk HF
  clear hN hH hI hm hs e1 e2 eg hr0_2 hr0_3 hr0_6 hc0_2 hc0_3 hc0_6
  go_enter Tryd.func14, Tryd.ntmps14
  go_wp2_with (first | (go_at_call 38; (try rw [hW2]); (with_reducible refine HF.out.mono ?_); rintro e w4 ⟨rfl, hb4⟩; replace HB := Aside0.mk (below_step HB.out hb4); clear hb4))
  go_ret2
  exact ⟨rfl, by repeat (with_reducible first | exact HB.out | apply below_alloc | apply pw_below_drewN | apply below_drew1 | refine Below.setCell ?_ (by first | exact HB.out.size | (have := HB.out.size; simp; omega)) _)⟩

-- NOT PRINTED: function 40 (conf_Reserved_1)

/-! ### conf_Reserved: function 16 -/
-- BY HAND
-- 20 38
def conf_Reserved.f (a0_0 : Int) (a0_1 : Int) (l0_2 : List Int) (l0_3 : List S47) (a0_4 : Int) (a0_5 : ByteArray) (l0_6 : List S49) (a1 : ByteArray) : Option (Int × Bool) := if confFit l0_2 l0_3 a0_5 l0_6 then some (foundH (reservR a0_0 a0_1 l0_2 l0_3 a0_4 a0_5 l0_6 a1), foundIs (reservR a0_0 a0_1 l0_2 l0_3 a0_4 a0_5 l0_6 a1)) else none
set_option maxHeartbeats 8000000 in
set_option maxRecDepth 100000 in
theorem conf_Reserved.is_ (a1 : ByteArray) (B1 : Nat) (ad : Addr) (x : S47) (w : World) (hc : w.cell? ⟨B1, 0, none⟩ = some (.string a1)) (h0 : w.cell? ad = some (.string x.f0)) (h1 : w.cell? ⟨ad.block, ad.off + 1, none⟩ = some (.int .i64 x.f1)) :
    Calls Tryd.prog 40 #[.pointer (some ad), .pointer (some ⟨B1, 0, none⟩)] w fun e w' => e = .returned (.bool (x.f0.toList == a1.toList)) ∧ Below w.heap.size w w' := by
  go_enter Tryd.func40, Tryd.ntmps40
  go_wp2
  go_quiet (fail)
  go_wp2
  go_ret
  exact ⟨rfl, pw_below_drewN (Below.refl _ _) _⟩
set_option maxHeartbeats 8000000 in
set_option maxRecDepth 100000 in
theorem conf_Reserved.calls (a0_0 : Int) (a0_1 : Int) (A0_2 : Option Addr) (c0_2 : Nat) (l0_2 : List Int) (A0_3 : Option Addr) (c0_3 : Nat) (l0_3 : List S47) (a0_4 : Int) (a0_5 : ByteArray) (A0_6 : Option Addr) (c0_6 : Nat) (l0_6 : List S49) (a1 : ByteArray) (r1 : Int) (r2 : Bool) (w : World) (hr0_2 : Kd.C (Kd.int .i64) w A0_2 l0_2.length l0_2) (hc0_2 : l0_2.length ≤ c0_2) (hr0_3 : Kd.C k47 w A0_3 l0_3.length l0_3) (hc0_3 : l0_3.length ≤ c0_3) (hr0_6 : Kd.C k49 w A0_6 l0_6.length l0_6) (hc0_6 : l0_6.length ≤ c0_6) (h : conf_Reserved.f a0_0 a0_1 l0_2 l0_3 a0_4 a0_5 l0_6 a1 = some (r1, r2)) :
    Calls Tryd.prog 16 #[.agg #[.int .i64 a0_0, .int .i64 a0_1, .slice A0_2 l0_2.length c0_2, .slice A0_3 l0_3.length c0_3, .int .i64 a0_4, .string a0_5, .slice A0_6 l0_6.length c0_6], .string a1] w fun e w' => e = .returned (.tuple #[.int .i64 r1, .bool r2]) ∧ Below w.heap.size w w' := by
  unfold conf_Reserved.f at h
  by_cases hs : confFit l0_2 l0_3 a0_5 l0_6
  rotate_left
  · rw [if_neg hs] at h
    cases h
  rw [if_pos hs] at h
  simp only [Option.some.injEq, Prod.mk.injEq] at h
  obtain ⟨rfl, rfl⟩ := h
  have hm : conf_May.f a0_0 a0_1 l0_2 l0_3 a0_4 a0_5 l0_6 = some (confB a0_0 a0_1 l0_2 l0_3 a0_4 a0_5 l0_6) := by
    unfold conf_May.f
    rw [if_pos hs]
  have eg : ∀ args w, (callFunc 40 args).run Tryd.prog w = .ok (.enter 40 args) w := fun args w => enters_ Tryd.func40 (by kernel_rfl) rfl args w
  obtain ⟨W2, hW2⟩ : ∃ W2, (w.alloc (.cells #[.int .i64 a0_0, .int .i64 a0_1, .slice A0_2 l0_2.length c0_2, .slice A0_3 l0_3.length c0_3, .int .i64 a0_4, .string a0_5, .slice A0_6 l0_6.length c0_6] 26)).alloc (.cells #[.string a1] 9) = W2 := ⟨_, rfl⟩
  have HB := Aside0.mk (show Below w.heap.size w W2 by rw [← hW2]; repeat (first | exact Below.refl _ _ | apply below_alloc))
  have e1 : W2.heap[w.heap.size]? = some (.cells #[.int .i64 a0_0, .int .i64 a0_1, .slice A0_2 l0_2.length c0_2, .slice A0_3 l0_3.length c0_3, .int .i64 a0_4, .string a0_5, .slice A0_6 l0_6.length c0_6] 26) := by
    rw [← hW2]
    exact blk_alloc (blk_new w _) _
  have e2 : W2.heap[w.heap.size + 1]? = some (.cells #[.string a1] 9) := by
    have := blk_new (w.alloc (.cells #[.int .i64 a0_0, .int .i64 a0_1, .slice A0_2 l0_2.length c0_2, .slice A0_3 l0_3.length c0_3, .int .i64 a0_4, .string a0_5, .slice A0_6 l0_6.length c0_6] 26)) (.cells #[.string a1] 9)
    rw [hW2] at this
    simpa using this
  have HF := conf_find.calls (fun x => x.f0.toList == a1.toList) 40 #[.pointer (some ⟨w.heap.size + 1, 0, none⟩)] w.heap.size a0_0 a0_1 A0_2 c0_2 l0_2 A0_3 c0_3 l0_3 a0_4 a0_5 A0_6 c0_6 l0_6 _ W2 e1 (Kd.C_below hr0_2 HB.out) hc0_2 (Kd.C_below hr0_3 HB.out) hc0_3 (Kd.C_below hr0_6 HB.out) hc0_6 hm hs.2.1 eg (fun W ad x hb h0 h1 => conf_Reserved.is_ a1 (w.heap.size + 1) ad x W ((blk_cell (blk_below e2 hb) 0).trans rfl) h0 h1)
  rw [show findS (fun x => x.f0.toList == a1.toList) (confB a0_0 a0_1 l0_2 l0_3 a0_4 a0_5 l0_6) l0_3 = reservR a0_0 a0_1 l0_2 l0_3 a0_4 a0_5 l0_6 a1 from rfl] at HF
  obtain ⟨vN, hN⟩ : ∃ v, foundN (reservR a0_0 a0_1 l0_2 l0_3 a0_4 a0_5 l0_6 a1) = v := ⟨_, rfl⟩
  obtain ⟨vH, hH⟩ : ∃ v, foundH (reservR a0_0 a0_1 l0_2 l0_3 a0_4 a0_5 l0_6 a1) = v := ⟨_, rfl⟩
  obtain ⟨vI, hI⟩ : ∃ v, foundIs (reservR a0_0 a0_1 l0_2 l0_3 a0_4 a0_5 l0_6 a1) = v := ⟨_, rfl⟩
  rw [hN, hH, hI] at HF
  rw [hH, hI]
  replace HF := Aside0.mk HF
  clear hN hH hI hm hs e1 e2 eg hr0_2 hr0_3 hr0_6 hc0_2 hc0_3 hc0_6
  go_enter Tryd.func16, Tryd.ntmps16
  go_wp2_with (first | (go_at_call 38; (try rw [hW2]); (with_reducible refine HF.out.mono ?_); rintro e w4 ⟨rfl, hb4⟩; replace HB := Aside0.mk (below_step HB.out hb4); clear hb4))
  go_ret2
  exact ⟨rfl, by repeat (with_reducible first | exact HB.out | apply below_alloc | apply pw_below_drewN | apply below_drew1 | refine Below.setCell ?_ (by first | exact HB.out.size | (have := HB.out.size; simp; omega)) _)⟩

/-! ### conf_Usable: function 22 -/
-- BY HAND
def conf_Usable.f (a0_0 : Int) (a0_1 : Int) (l0_2 : List Int) (l0_3 : List S47) (a0_4 : Int) (a0_5 : ByteArray) (l0_6 : List S49) (a1 : Int) : Option Bool := if confFit l0_2 l0_3 a0_5 l0_6 then some (usableB a0_0 a0_1 l0_2 l0_3 a0_4 a0_5 l0_6 a1) else none
set_option maxHeartbeats 8000000 in
set_option maxRecDepth 100000 in
theorem conf_Usable.calls (a0_0 : Int) (a0_1 : Int) (A0_2 : Option Addr) (c0_2 : Nat) (l0_2 : List Int) (A0_3 : Option Addr) (c0_3 : Nat) (l0_3 : List S47) (a0_4 : Int) (a0_5 : ByteArray) (A0_6 : Option Addr) (c0_6 : Nat) (l0_6 : List S49) (a1 : Int) (r : Bool) (w : World) (hr0_2 : Kd.C (Kd.int .i64) w A0_2 l0_2.length l0_2) (hc0_2 : l0_2.length ≤ c0_2) (hr0_3 : Kd.C k47 w A0_3 l0_3.length l0_3) (hc0_3 : l0_3.length ≤ c0_3) (hr0_6 : Kd.C k49 w A0_6 l0_6.length l0_6) (hc0_6 : l0_6.length ≤ c0_6) (h : conf_Usable.f a0_0 a0_1 l0_2 l0_3 a0_4 a0_5 l0_6 a1 = some r) :
    Calls Tryd.prog 22 #[.agg #[.int .i64 a0_0, .int .i64 a0_1, .slice A0_2 l0_2.length c0_2, .slice A0_3 l0_3.length c0_3, .int .i64 a0_4, .string a0_5, .slice A0_6 l0_6.length c0_6], .int .i64 a1] w fun e w' => e = .returned (.bool r) ∧ Below w.heap.size w w' := by
  unfold conf_Usable.f at h
  by_cases hs : confFit l0_2 l0_3 a0_5 l0_6
  rotate_left
  · rw [if_neg hs] at h
    cases h
  rw [if_pos hs] at h
  have hm : conf_May.f a0_0 a0_1 l0_2 l0_3 a0_4 a0_5 l0_6 = some (confB a0_0 a0_1 l0_2 l0_3 a0_4 a0_5 l0_6) := by
    unfold conf_May.f
    rw [if_pos hs]
  have HR : (decide (a1 ∉ l0_2) && (confB a0_0 a0_1 l0_2 l0_3 a0_4 a0_5 l0_6 && decide (a0_0 ≤ a1 ∧ a1 ≤ a0_1))) = r := Option.some.inj h
  obtain ⟨b, hb⟩ : ∃ b, confB a0_0 a0_1 l0_2 l0_3 a0_4 a0_5 l0_6 = b := ⟨_, rfl⟩
  rw [hb] at HR hm
  replace HR := Aside0.mk HR
  have CM := Aside0.mk (fun W (hb : Below w.heap.size w W) => conf_May.calls a0_0 a0_1 A0_2 c0_2 l0_2 A0_3 c0_3 l0_3 a0_4 a0_5 A0_6 c0_6 l0_6 b W (Kd.C_below hr0_2 hb) hc0_2 (Kd.C_below hr0_3 hb) hc0_3 (Kd.C_below hr0_6 hb) hc0_6 hm)
  have HR0 := Aside0.mk hr0_2
  have hl2 := hs.1
  clear h hs hm hb hr0_2 hr0_3 hr0_6 hc0_2 hc0_3 hc0_6
  go_enter Tryd.func22, Tryd.ntmps22
  go_wp2
  go_loopg [10] l0_2.length (fun d v9 wr => ∃ (i : Int), 0 ≤ i ∧ i.toNat + d = l0_2.length ∧ v9 = .int .i64 i ∧ Aside0 (wr.heap[w.heap.size]? = some (.cells #[.int .i64 a0_0, .int .i64 a0_1, .slice A0_2 l0_2.length c0_2, .slice A0_3 l0_3.length c0_3, .int .i64 a0_4, .string a0_5, .slice A0_6 l0_6.length c0_6] 26)) ∧ Aside0 (Below w.heap.size w wr) ∧ Aside0 (a1 ∈ l0_2 ↔ a1 ∈ l0_2.drop i.toNat))
  case atStart => exact ⟨0, by omega, by simp, rfl, ⟨blk_new _ _⟩, ⟨below_alloc (Below.refl _ _) _⟩, ⟨Iff.rfl⟩⟩
  case round =>
    obtain ⟨i, hi0, hd, rfl, BK, HB, HS⟩ := hrel
    by_cases hlt : i < (l0_2.length : Int)
    · obtain ⟨ad, e1, hx0⟩ := Kd.at_int HR0.out i hi0 hlt
      cases e1
      replace hx0 := (HB.out.cell (World.block_lt_of_cell? w _ hx0)).trans hx0
      have HD := HS.out
      rw [dropInt l0_2 i hi0 hlt, List.mem_cons] at HD
      clear HS
      generalize rd l0_2 i = x at hx0 HD
      by_cases q : x = a1
      · have hfin : false = r := by rw [← HR.out, decide_eq_false (fun e => e (HD.2 (.inl q.symm)))]; rfl
        replace hfin := Aside0.mk hfin
        have q1 : (x == a1) = true := by simpa using q
        clear q HD
        go_wp2
        go_ret
        exact ⟨ret_bool hfin.out, HB.out⟩
      · have q1 : (x == a1) = false := by simpa using q
        have HN : a1 ∈ l0_2 ↔ a1 ∈ l0_2.drop (i.toNat + 1) := HD.trans ⟨fun e => e.resolve_left (fun e => q e.symm), .inr⟩
        replace HN := Aside0.mk HN
        clear q HD
        go_wp2
        go_roundg (l0_2.length - (i.toNat + 1))
        case measure => first | omega | (simp; omega)
        case rel =>
          have e2 : (i + 1).toNat = i.toNat + 1 := by omega
          exact ⟨i + 1, by omega, by omega, by go_num, ⟨BK.out⟩, ⟨HB.out⟩, ⟨by rw [e2]; exact HN.out⟩⟩
    · have e3 : l0_2.drop i.toNat = [] := List.drop_eq_nil_of_le (by omega)
      have HE : (b && decide (a0_0 ≤ a1 ∧ a1 ≤ a0_1)) = r := by
        rw [← HR.out, decide_eq_true (show a1 ∉ l0_2 from fun e => by have := HS.out.1 e; rw [e3] at this; cases this)]
        rfl
      replace HE := Aside0.mk HE
      clear HS HR
      have v0 := blk_cell BK.out 0
      have v1 := blk_cell BK.out 1
      have v2 := blk_cell BK.out 2
      have v3 := blk_cell BK.out 3
      have v4 := blk_cell BK.out 4
      have v5 := blk_cell BK.out 5
      have v6 := blk_cell BK.out 6
      go_wp2_with (first | (go_at_call 20; (with_reducible refine (CM.out _ HB.out).mono ?_); rintro e w2 ⟨rfl, hb'⟩; replace BK := Aside0.mk (blk_below BK.out hb'); replace v0 := blk_cell BK.out 0; replace v1 := blk_cell BK.out 1; replace HB := Aside0.mk (below_step HB.out hb'); clear hb'))
      all_goals go_ret
      all_goals refine ⟨ret_bool ?_, HB.out⟩
      all_goals (rw [← HE.out]; clear HE CM HB BK; simp [*] <;> (intros; omega))

end Go.Proofs.YtnjnfpnkcapilaaDoor.PConfForms
