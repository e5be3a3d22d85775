-- Made by wip/pr.py out of the translation (a turned copy of the kit's print; contracts by hand where said).
import Derived.Test.YtdhckibkljafgaaGreatDoorPIx0
import Derived.Test.YtdhckibkljafgaaGreatDoorPIx4
import Derived.Test.YtdhckibkljafgaaGreatDoorPIx6
namespace Go.Proofs.YtdhckibkljafgaaGreatDoor.PI
open Go.RowKit Go.Proofs.YtdhckibkljafgaaGreatDoorW.PrintWords Go.Proofs.YtdhckibkljafgaaGreatDoorW.PrintLast Go.Proofs.YtdhckibkljafgaaGreatDoorW.PrintMore
-- shrunk
attribute [local go_sem] max2_int min2_int max_two min_two max_three min_three max_four min_four   -- for this text's walks alone
set_option linter.unusedVariables false
set_option linter.unusedSimpArgs false

/-- A state of type 44 at block g of W; what its slices lead to came in by w0. -/
def IsS44 (w0 W : World) (g : Nat) (f0 : Int) (f1 : Int) (f2 : ByteArray) (f3 : Int) (f4 : ByteArray) (f5 : Bool) : Prop := W.heap[g]? = some (.cells #[.int .i64 f0, .int .i64 f1, .string f2, .int .i64 f3, .string f4, .bool f5] 44 (0, 0)) ∧ w0.heap.size ≤ g
theorem IsS44.grown {w0 W : World} {g : Nat} {f0 : Int} {f1 : Int} {f2 : ByteArray} {f3 : Int} {f4 : ByteArray} {f5 : Bool} {W1 : World} {row : Option Nat} (h : IsS44 w0 W g f0 f1 f2 f3 f4 f5) (hw : W.grownBy W1 row) (hne : some g ≠ row) : IsS44 w0 W1 g f0 f1 f2 f3 f4 f5 := by
 obtain ⟨hb, hg⟩ := h
 exact ⟨blk_grown hb hw hne, hg⟩
theorem IsS44.own_neN {w0 W : World} {g : Nat} {f0 : Int} {f1 : Int} {f2 : ByteArray} {f3 : Int} {f4 : ByteArray} {f5 : Bool} {α : Type} {d : Kd α} {e : Nat} {base : Nat} {ok : Nat → Prop} {v : Value} {xs : List α} (h : IsS44 w0 W g f0 f1 f2 f3 f4 f5) (ho : Kd.N d e W base ok v xs) (ht : e ≠ 44) : some g ≠ v.ownBlock := by
 obtain ⟨hb, hg⟩ := h
 exact Kd.N_ne ho hb ht
theorem IsS44.fresh {w0 W : World} {g : Nat} {f0 : Int} {f1 : Int} {f2 : ByteArray} {f3 : Int} {f4 : ByteArray} {f5 : Bool} (h : IsS44 w0 W g f0 f1 f2 f3 f4 f5) : ∀ k, W.heap.size ≤ k → k ≠ g := by
 obtain ⟨hb, hg⟩ := h
 exact Kd.freshB hb
theorem IsS44.kept {w0 W : World} {g : Nat} {f0 : Int} {f1 : Int} {f2 : ByteArray} {f3 : Int} {f4 : ByteArray} {f5 : Bool} {W1 : World} {S : Nat → Prop} (h : IsS44 w0 W g f0 f1 f2 f3 f4 f5) (hk : Kept W W1 S) (hne : ¬ S g) : IsS44 w0 W1 g f0 f1 f2 f3 f4 f5 := by
 obtain ⟨hb, hg⟩ := h
 exact ⟨blk_kept hb hk hne, hg⟩
theorem IsS44.below {w0 W : World} {g : Nat} {f0 : Int} {f1 : Int} {f2 : ByteArray} {f3 : Int} {f4 : ByteArray} {f5 : Bool} {W1 : World} (h : IsS44 w0 W g f0 f1 f2 f3 f4 f5) (hw : Below W.heap.size W W1) : IsS44 w0 W1 g f0 f1 f2 f3 f4 f5 := h.grown (grown_of_below hw none) (by simp)
theorem IsS44.alloc {w0 W : World} {g : Nat} {f0 : Int} {f1 : Int} {f2 : ByteArray} {f3 : Int} {f4 : ByteArray} {f5 : Bool} (h : IsS44 w0 W g f0 f1 f2 f3 f4 f5) (o : Obj) : IsS44 w0 (W.alloc o) g f0 f1 f2 f3 f4 f5 := h.below (p3_ (Below.refl _ _) o)
theorem IsS44.drewN {w0 W : World} {g : Nat} {f0 : Int} {f1 : Int} {f2 : ByteArray} {f3 : Int} {f4 : ByteArray} {f5 : Bool} (h : IsS44 w0 W g f0 f1 f2 f3 f4 f5) (m : Nat) : IsS44 w0 (W.drewN m) g f0 f1 f2 f3 f4 f5 := h
theorem IsS44.drew {w0 W : World} {g : Nat} {f0 : Int} {f1 : Int} {f2 : ByteArray} {f3 : Int} {f4 : ByteArray} {f5 : Bool} (h : IsS44 w0 W g f0 f1 f2 f3 f4 f5) : IsS44 w0 W.drew g f0 f1 f2 f3 f4 f5 := h
theorem IsS44.at_ {w0 W : World} {g : Nat} {f0 : Int} {f1 : Int} {f2 : ByteArray} {f3 : Int} {f4 : ByteArray} {f5 : Bool} {w' : World} {m : Nat} (hq : W.drewN m = w') (h : IsS44 w0 W g f0 f1 f2 f3 f4 f5) : IsS44 w0 w' g f0 f1 f2 f3 f4 f5 := by subst hq; exact IsS44.drewN h m
theorem IsS44.apart {w0 W : World} {g : Nat} {f0 : Int} {f1 : Int} {f2 : ByteArray} {f3 : Int} {f4 : ByteArray} {f5 : Bool} {α : Type} {d : Kd α} {e : Nat} {base : Nat} {ok : Nat → Prop} {v : Value} {xs : List α} (h : IsS44 w0 W g f0 f1 f2 f3 f4 f5) (ho : d.R e W base ok v xs) (ht : ∀ q, q ∈ e :: d.E → q ≠ 44) : d.R e W base (fun k => ok k ∧ k ≠ g) v xs := by
 obtain ⟨hb, hg⟩ := h
 exact Kd.R_types ho hb ht
theorem IsS44.own_ne {w0 W : World} {g : Nat} {f0 : Int} {f1 : Int} {f2 : ByteArray} {f3 : Int} {f4 : ByteArray} {f5 : Bool} {α : Type} {d : Kd α} {e : Nat} {base : Nat} {ok : Nat → Prop} {v : Value} {xs : List α} (h : IsS44 w0 W g f0 f1 f2 f3 f4 f5) (ho : d.R e W base ok v xs) (ht : e ≠ 44) : some g ≠ v.ownBlock := by
 obtain ⟨hb, hg⟩ := h
 exact Kd.R_ne ho hb ht
theorem IsS44.apartQ {w0 W : World} {g : Nat} {f0 : Int} {f1 : Int} {f2 : ByteArray} {f3 : Int} {f4 : ByteArray} {f5 : Bool} {α : Type} {d : Kd α} {e : Nat} {base : Nat} {ok : Nat → Prop} {v : Value} {xs : List α} (h : IsS44 w0 W g f0 f1 f2 f3 f4 f5) (ho : d.Q e W base ok v xs) (ht : ∀ q, q ∈ e :: d.E → q ≠ 44) : d.Q e W base (fun k => ok k ∧ k ≠ g) v xs := by
 obtain ⟨hb, hg⟩ := h
 exact Kd.Q_types ho hb ht
theorem IsS44.own_neQ {w0 W : World} {g : Nat} {f0 : Int} {f1 : Int} {f2 : ByteArray} {f3 : Int} {f4 : ByteArray} {f5 : Bool} {α : Type} {d : Kd α} {e : Nat} {base : Nat} {ok : Nat → Prop} {v : Value} {xs : List α} (h : IsS44 w0 W g f0 f1 f2 f3 f4 f5) (ho : d.Q e W base ok v xs) (ht : e ≠ 44) : some g ≠ v.ownBlock := by
 obtain ⟨hb, hg⟩ := h
 exact Kd.Q_ne ho hb ht
theorem IsS44.apartS {w0 W : World} {g : Nat} {f0 : Int} {f1 : Int} {f2 : ByteArray} {f3 : Int} {f4 : ByteArray} {f5 : Bool} {α : Type} {d : Kd α} {e : Nat} {base : Nat} {ok : Nat → Prop} {v : Value} {xs : List α} (h : IsS44 w0 W g f0 f1 f2 f3 f4 f5) (ho : d.S e W base ok v xs) (ht : ∀ q, q ∈ e :: d.E → q ≠ 44) : d.S e W base (fun k => ok k ∧ k ≠ g) v xs := by
 obtain ⟨hb, hg⟩ := h
 exact Kd.S_types ho hb ht
theorem IsS44.own_neS {w0 W : World} {g : Nat} {f0 : Int} {f1 : Int} {f2 : ByteArray} {f3 : Int} {f4 : ByteArray} {f5 : Bool} {α : Type} {d : Kd α} {e : Nat} {base : Nat} {ok : Nat → Prop} {v : Value} {xs : List α} (h : IsS44 w0 W g f0 f1 f2 f3 f4 f5) (ho : d.S e W base ok v xs) (ht : e ≠ 44) : some g ≠ v.ownBlock := by
 obtain ⟨hb, hg⟩ := h
 exact Kd.S_ne ho hb ht
theorem IsS44.lt {w0 W : World} {g : Nat} {f0 : Int} {f1 : Int} {f2 : ByteArray} {f3 : Int} {f4 : ByteArray} {f5 : Bool} (h : IsS44 w0 W g f0 f1 f2 f3 f4 f5) : g < W.heap.size := by
 obtain ⟨hb, hg⟩ := h
 exact blk_lt hb
theorem IsS44.ge {w0 W : World} {g : Nat} {f0 : Int} {f1 : Int} {f2 : ByteArray} {f3 : Int} {f4 : ByteArray} {f5 : Bool} (h : IsS44 w0 W g f0 f1 f2 f3 f4 f5) : w0.heap.size ≤ g := by
 obtain ⟨hb, hg⟩ := h
 exact hg
theorem IsS44.ne_blk {w0 W : World} {g : Nat} {f0 : Int} {f1 : Int} {f2 : ByteArray} {f3 : Int} {f4 : ByteArray} {f5 : Bool} {a : Nat} {cs : Array Value} {t : TypeId} {fr : Nat × Nat} (h : IsS44 w0 W g f0 f1 f2 f3 f4 f5) (hb2 : W.heap[a]? = some (.cells cs t fr)) (ht : t ≠ 44) : g ≠ a := by
 obtain ⟨hb, hg⟩ := h
 rintro rfl
 rw [hb] at hb2
 injection hb2 with hb2
 injection hb2 with _ ht2
 exact ht ht2.symm
theorem IsS44.far {w0 W : World} {g : Nat} {f0 : Int} {f1 : Int} {f2 : ByteArray} {f3 : Int} {f4 : ByteArray} {f5 : Bool} {p : Addr} (h : IsS44 w0 W g f0 f1 f2 f3 f4 f5) (hne : g ≠ p.block) (u : Value) : IsS44 w0 (W.setCell p u) g f0 f1 f2 f3 f4 f5 := by
 obtain ⟨hb, hg⟩ := h
 exact ⟨blk_far hb hne u, hg⟩
theorem cellS44_0 {W : World} {g : Nat} {f0 : Int} {f1 : Int} {f2 : ByteArray} {f3 : Int} {f4 : ByteArray} {f5 : Bool} (h : W.heap[g]? = some (.cells #[.int .i64 f0, .int .i64 f1, .string f2, .int .i64 f3, .string f4, .bool f5] 44 (0, 0))) : W.cell? ⟨g, 0, none⟩ = some (.int .i64 f0) := (bc_ h 0).trans rfl
theorem IsS44.set_0 {w0 W : World} {g : Nat} {f0 : Int} {f1 : Int} {f2 : ByteArray} {f3 : Int} {f4 : ByteArray} {f5 : Bool} (h : IsS44 w0 W g f0 f1 f2 f3 f4 f5) (x : Int) : IsS44 w0 (W.setCell ⟨g, 0, none⟩ (.int .i64 x)) g x f1 f2 f3 f4 f5 := by
 obtain ⟨hb, hg⟩ := h
 exact ⟨by simpa using blk_set hb 0 (.int .i64 x), hg⟩
theorem cellS44_1 {W : World} {g : Nat} {f0 : Int} {f1 : Int} {f2 : ByteArray} {f3 : Int} {f4 : ByteArray} {f5 : Bool} (h : W.heap[g]? = some (.cells #[.int .i64 f0, .int .i64 f1, .string f2, .int .i64 f3, .string f4, .bool f5] 44 (0, 0))) : W.cell? ⟨g, 1, none⟩ = some (.int .i64 f1) := (bc_ h 1).trans rfl
theorem IsS44.set_1 {w0 W : World} {g : Nat} {f0 : Int} {f1 : Int} {f2 : ByteArray} {f3 : Int} {f4 : ByteArray} {f5 : Bool} (h : IsS44 w0 W g f0 f1 f2 f3 f4 f5) (x : Int) : IsS44 w0 (W.setCell ⟨g, 1, none⟩ (.int .i64 x)) g f0 x f2 f3 f4 f5 := by
 obtain ⟨hb, hg⟩ := h
 exact ⟨by simpa using blk_set hb 1 (.int .i64 x), hg⟩
theorem cellS44_2 {W : World} {g : Nat} {f0 : Int} {f1 : Int} {f2 : ByteArray} {f3 : Int} {f4 : ByteArray} {f5 : Bool} (h : W.heap[g]? = some (.cells #[.int .i64 f0, .int .i64 f1, .string f2, .int .i64 f3, .string f4, .bool f5] 44 (0, 0))) : W.cell? ⟨g, 2, none⟩ = some (.string f2) := (bc_ h 2).trans rfl
theorem IsS44.set_2 {w0 W : World} {g : Nat} {f0 : Int} {f1 : Int} {f2 : ByteArray} {f3 : Int} {f4 : ByteArray} {f5 : Bool} (h : IsS44 w0 W g f0 f1 f2 f3 f4 f5) (x : ByteArray) : IsS44 w0 (W.setCell ⟨g, 2, none⟩ (.string x)) g f0 f1 x f3 f4 f5 := by
 obtain ⟨hb, hg⟩ := h
 exact ⟨by simpa using blk_set hb 2 (.string x), hg⟩
theorem cellS44_3 {W : World} {g : Nat} {f0 : Int} {f1 : Int} {f2 : ByteArray} {f3 : Int} {f4 : ByteArray} {f5 : Bool} (h : W.heap[g]? = some (.cells #[.int .i64 f0, .int .i64 f1, .string f2, .int .i64 f3, .string f4, .bool f5] 44 (0, 0))) : W.cell? ⟨g, 3, none⟩ = some (.int .i64 f3) := (bc_ h 3).trans rfl
theorem IsS44.set_3 {w0 W : World} {g : Nat} {f0 : Int} {f1 : Int} {f2 : ByteArray} {f3 : Int} {f4 : ByteArray} {f5 : Bool} (h : IsS44 w0 W g f0 f1 f2 f3 f4 f5) (x : Int) : IsS44 w0 (W.setCell ⟨g, 3, none⟩ (.int .i64 x)) g f0 f1 f2 x f4 f5 := by
 obtain ⟨hb, hg⟩ := h
 exact ⟨by simpa using blk_set hb 3 (.int .i64 x), hg⟩
theorem cellS44_4 {W : World} {g : Nat} {f0 : Int} {f1 : Int} {f2 : ByteArray} {f3 : Int} {f4 : ByteArray} {f5 : Bool} (h : W.heap[g]? = some (.cells #[.int .i64 f0, .int .i64 f1, .string f2, .int .i64 f3, .string f4, .bool f5] 44 (0, 0))) : W.cell? ⟨g, 4, none⟩ = some (.string f4) := (bc_ h 4).trans rfl
theorem IsS44.set_4 {w0 W : World} {g : Nat} {f0 : Int} {f1 : Int} {f2 : ByteArray} {f3 : Int} {f4 : ByteArray} {f5 : Bool} (h : IsS44 w0 W g f0 f1 f2 f3 f4 f5) (x : ByteArray) : IsS44 w0 (W.setCell ⟨g, 4, none⟩ (.string x)) g f0 f1 f2 f3 x f5 := by
 obtain ⟨hb, hg⟩ := h
 exact ⟨by simpa using blk_set hb 4 (.string x), hg⟩
theorem cellS44_5 {W : World} {g : Nat} {f0 : Int} {f1 : Int} {f2 : ByteArray} {f3 : Int} {f4 : ByteArray} {f5 : Bool} (h : W.heap[g]? = some (.cells #[.int .i64 f0, .int .i64 f1, .string f2, .int .i64 f3, .string f4, .bool f5] 44 (0, 0))) : W.cell? ⟨g, 5, none⟩ = some (.bool f5) := (bc_ h 5).trans rfl
theorem IsS44.set_5 {w0 W : World} {g : Nat} {f0 : Int} {f1 : Int} {f2 : ByteArray} {f3 : Int} {f4 : ByteArray} {f5 : Bool} (h : IsS44 w0 W g f0 f1 f2 f3 f4 f5) (x : Bool) : IsS44 w0 (W.setCell ⟨g, 5, none⟩ (.bool x)) g f0 f1 f2 f3 f4 x := by
 obtain ⟨hb, hg⟩ := h
 exact ⟨by simpa using blk_set hb 5 (.bool x), hg⟩
theorem IsS44.new (w0 W : World) (f0 : Int) (f1 : Int) (f2 : ByteArray) (f3 : Int) (f4 : ByteArray) (f5 : Bool) (hB : Below w0.heap.size w0 W) : IsS44 w0 (W.alloc (.cells #[.int .i64 f0, .int .i64 f1, .string f2, .int .i64 f3, .string f4, .bool f5] 44)) W.heap.size f0 f1 f2 f3 f4 f5 := ⟨by simpa using heap_alloc_new W _, hB.size⟩

/-! ### lease_state: function 85 -/
-- BY HAND
set_option maxHeartbeats 8000000 in
set_option maxRecDepth 100000 in
theorem lease_state.calls (g : Nat) (s0 s1 : Int) (s2 : ByteArray) (s3 : Int) (s4 : ByteArray) (s5 : Bool) (r : Bool) (w : World) (hb : w.heap[g]? = some (.cells #[.int .i64 s0, .int .i64 s1, .string s2, .int .i64 s3, .string s4, .bool s5] 44)) (h : stateB s1 s2 s4 s5 = r) :
  Calls Tryz.prog 85 #[.pointer (some ⟨g, 0, none⟩)] w fun e w' => e = .returned (.bool r) ∧ Below w.heap.size w w' := by
 unfold stateB at h
 have HR := am_ h
 have HB := am_ (Below.refl w.heap.size w)
 have v0 := bc_ hb 0
 have v1 := bc_ hb 1
 have v2 := bc_ hb 2
 have v3 := bc_ hb 3
 have v4 := bc_ hb 4
 have v5 := bc_ hb 5
 clear h hb
 go_enter Tryz.func85, Tryz.ntmps85
 go_wp2
 all_goals go_ret
 all_goals refine ⟨ret_bool ?_, ?_⟩
 all_goals first
  | ((repeat (with_reducible first | exact HB.out | apply p3_ | apply p1_ | apply p2_)); done)
  | (rw [← HR.out]; clear HR HB v0 v1 v2 v3 v4 v5; simp_all; done)

/-! ### lease_May: function 69 -/
-- BY HAND
def lease_May.f (a0_0 : Int) (a0_1 : Int) (a0_2 : ByteArray) (a0_3 : Int) (a0_4 : ByteArray) (a0_5 : Bool) : Option Bool := if a0_4.size ≤ 140737488351232 then some (leaseB a0_0 a0_1 a0_2 a0_3 a0_4 a0_5) else none
set_option maxHeartbeats 8000000 in
set_option maxRecDepth 100000 in
theorem lease_May.calls (a0_0 : Int) (a0_1 : Int) (a0_2 : ByteArray) (a0_3 : Int) (a0_4 : ByteArray) (a0_5 : Bool) (r : Bool) (w : World) (h : lease_May.f a0_0 a0_1 a0_2 a0_3 a0_4 a0_5 = some r) :
  Calls Tryz.prog 69 #[.agg #[.int .i64 a0_0, .int .i64 a0_1, .string a0_2, .int .i64 a0_3, .string a0_4, .bool a0_5]] w fun e w' => e = .returned (.bool r) ∧ Below w.heap.size w w' := by
 unfold lease_May.f at h
 by_cases hs : a0_4.size ≤ 140737488351232
 rotate_left
 ·rw [if_neg hs] at h
  cases h
 rw [if_pos hs] at h
 have HR := e5_ h
 unfold leaseB at HR
 obtain ⟨b1, h1⟩ : ∃ b, stateB a0_1 a0_2 a0_4 a0_5 = b := ⟨_, rfl⟩
 obtain ⟨b4, h4⟩ : ∃ b, nameB (bytesOf a0_4) = b := ⟨_, rfl⟩
 rw [h1, h4] at HR
 have C1 := am_ (fun W (bk : W.heap[w.heap.size]? = some (.cells #[.int .i64 a0_0, .int .i64 a0_1, .string a0_2, .int .i64 a0_3, .string a0_4, .bool a0_5] 44)) => lease_state.calls w.heap.size a0_0 a0_1 a0_2 a0_3 a0_4 a0_5 b1 W bk h1)
 have C2 := am_ (fun W => name_May_c.calls a0_4 b4 W (by unfold name_May_c.f; rw [if_pos (by omega), h4]))
 have C3 := am_ (fun x W => lease_Time_c.calls x (decide (0 ≤ x ∧ x ≤ 1099511627776)) W rfl)
 have BK := am_ (blk_new w (.cells #[.int .i64 a0_0, .int .i64 a0_1, .string a0_2, .int .i64 a0_3, .string a0_4, .bool a0_5] 44))
 have HB := am_ (Below.refl w.heap.size w)
 replace HR := am_ HR
 clear h hs h1 h4
 go_enter Tryz.func69, Tryz.ntmps69
 go_wp2_with (first
  | (go_at_call 85; (with_reducible refine (C1.out _ (by (with_reducible repeat (first | exact BK.out | refine k2_ ?_ _ | refine k3_ ?_ | refine k1_ ?_ _)))).mono ?_); rintro e w1 ⟨rfl, hb2⟩; replace BK := am_ (kb_ (show _ from (by (with_reducible repeat (first | exact BK.out | refine k2_ ?_ _ | refine k3_ ?_ | refine k1_ ?_ _)))) hb2); replace HB := am_ (bt_ (show Below w.heap.size w _ by repeat (with_reducible first | exact HB.out | apply p3_ | apply p1_ | apply p2_)) hb2); clear hb2; have u0 := bc_ BK.out 0; have u1 := bc_ BK.out 1; have u2 := bc_ BK.out 2; have u3 := bc_ BK.out 3; have u4 := bc_ BK.out 4; have u5 := bc_ BK.out 5)
  | (go_at_call 47; (with_reducible refine (C3.out _ _).mono ?_); rintro e w2 ⟨rfl, ⟨nd, rfl⟩⟩)
  | (go_at_call 78; (with_reducible refine (C2.out _).mono ?_); rintro e w3 ⟨rfl, ⟨nd, rfl⟩⟩))
 all_goals (try go_ret)
 all_goals refine ⟨ret_bool ?_, ?_⟩
 all_goals first
  | ((repeat (with_reducible first | exact HB.out | apply p3_ | apply p1_ | apply p2_)); done)
  | (rw [← HR.out]; clear HR HB C1 C2 C3 BK; (try clear v0 v1 v2 v3 v4 v5); (try clear u0 u1 u2 u3 u4 u5); rw [Bool.eq_iff_iff]; (simp_all; done))
  | (rw [← HR.out]; clear HR HB C1 C2 C3 BK; simp_all <;> omega)

/-! ### table_May: function 54 -/
-- BY HAND
-- 69
def hostAheadT (l : List S44) (i : Nat) : Option Int := if i = 0 then none else some (rd_T44 l ((i - 1 : Nat) : Int)).f0
def table_May.S (gl : Nat) (x0 x1 : Int) (x2 : ByteArray) (x3 : Int) (x4 : ByteArray) (x5 : Bool) (pa : Addr) (y0 : Int) (w' : World) : Prop := w'.cell? ⟨gl, 0, none⟩ = some (.int .i64 x0) ∧ w'.cell? ⟨gl, 1, none⟩ = some (.int .i64 x1) ∧ w'.cell? ⟨gl, 2, none⟩ = some (.string x2) ∧ w'.cell? ⟨gl, 3, none⟩ = some (.int .i64 x3) ∧ w'.cell? ⟨gl, 4, none⟩ = some (.string x4) ∧ w'.cell? ⟨gl, 5, none⟩ = some (.bool x5) ∧ w'.cell? pa = some (.int .i64 y0)
theorem table_May.S_below {w w2 : World} {gl : Nat} {x0 x1 : Int} {x2 : ByteArray} {x3 : Int} {x4 : ByteArray} {x5 : Bool} {pa : Addr} {y0 : Int} (h : table_May.S gl x0 x1 x2 x3 x4 x5 pa y0 w) (hb : Below w.heap.size w w2) : table_May.S gl x0 x1 x2 x3 x4 x5 pa y0 w2 := by
 obtain ⟨s0, s1, s2, s3, s4, s5, s6⟩ := h
 exact ⟨(hb.cell (wb_ _ _ s0)).trans s0, (hb.cell (wb_ _ _ s1)).trans s1, (hb.cell (wb_ _ _ s2)).trans s2, (hb.cell (wb_ _ _ s3)).trans s3, (hb.cell (wb_ _ _ s4)).trans s4, (hb.cell (wb_ _ _ s5)).trans s5, (hb.cell (wb_ _ _ s6)).trans s6⟩
def table_May_c.f (l0 : List S44) : Option Bool := if tabFit l0 then some (tableB l0) else none
set_option maxHeartbeats 8000000 in
set_option maxRecDepth 100000 in
theorem table_May_c.calls (A0 : Option Addr) (c0 : Nat) (l0 : List S44) (r : Bool) (w : World) (hr0 : Kd.C k44 w A0 l0.length l0) (hc0 : l0.length ≤ c0) (h : table_May_c.f l0 = some r) :
  Calls Tryz.prog 54 #[.slice A0 l0.length c0] w fun e w' => e = .returned (.bool r) ∧ Below w.heap.size w w' := by
 unfold table_May_c.f at h
 by_cases hs : tabFit l0
 rotate_left
 ·rw [if_neg hs] at h
  cases h
 rw [if_pos hs] at h
 have HT := am_ (show (goTab (hostAheadT l0 (0 : Int).toNat) (l0.drop (0 : Int).toNat) && decide (l0.length ≤ 8)) = r from e5_ h)
 have hl := hs.1
 have HX := am_ hs.2
 have HR := am_ hr0
 have HB := am_ (Below.refl w.heap.size w)
 clear h hs hr0 hc0
 go_enter Tryz.func54, Tryz.ntmps54
 go_wp2
 go_loopg [7] l0.length (fun d v w' => ∃ i : Int, 0 ≤ i ∧ i.toNat + d = l0.length ∧ v = .int .i64 i ∧ Aside0 (Below w.heap.size w w') ∧ Aside0 ((goTab (hostAheadT l0 i.toNat) (l0.drop i.toNat) && decide (l0.length ≤ 8)) = r))
 case atStart => exact ⟨0, by omega, by simp, rfl, HB, HT⟩
 case round =>
  clear HB HT
  obtain ⟨i, hi0, hd, rfl, HB, HT⟩ := hrel
  by_cases hlt : i < (l0.length : Int)
  ·obtain ⟨ad, e1, hw0, hw1, hw2, hw3, hw4, hw5⟩ := at_T44 HR.out i hi0 hlt
   cases e1
   have hx0 := (HB.out.cell (wb_ w _ hw0)).trans hw0; have hx1 := (HB.out.cell (wb_ w _ hw1)).trans hw1; have hx2 := (HB.out.cell (wb_ w _ hw2)).trans hw2; have hx3 := (HB.out.cell (wb_ w _ hw3)).trans hw3; have hx4 := (HB.out.cell (wb_ w _ hw4)).trans hw4; have hx5 := (HB.out.cell (wb_ w _ hw5)).trans hw5
   have hd1 := dropLease l0 i hi0 hlt
   have hsz := HX.out _ hd1.2
   have hst := HT.out
   rw [hd1.1] at hst
   have hnx : hostAheadT l0 (i.toNat + 1) = some (rd_T44 l0 i).f0 := by
    unfold hostAheadT
    rw [if_neg (by omega), Nat.add_sub_cancel, Int.toNat_of_nonneg hi0]
   have hi2 : (i + 1).toNat = i.toNat + 1 := by omega
   have hpv : ¬ i = 0 → ∃ j y, wrap64 (i - 1) = j ∧ 0 ≤ j ∧ j < (l0.length : Int) ∧ hostAheadT l0 i.toNat = some y ∧ w.cell? (ad.add (j.toNat * 6)) = some (.int .i64 y) := by
    intro h0
    have h1 : wrap64 (i - 1) = i - 1 := by unfold wrap64; omega
    obtain ⟨ad2, e2, hy0, _⟩ := at_T44 HR.out (i - 1) (by omega) (by omega)
    cases e2
    refine ⟨i - 1, _, h1, by omega, by omega, ?_, hy0⟩
    unfold hostAheadT
    rw [if_neg (by omega), show ((i.toNat - 1 : Nat) : Int) = i - 1 by omega]
   generalize rd_T44 l0 i = x at hw0 hw1 hw2 hw3 hw4 hw5 hx0 hx1 hx2 hx3 hx4 hx5 hsz hst hnx
   clear hd1 HT
   obtain ⟨x0, x1, x2, x3, x4, x5⟩ := x
   simp only at hw0 hw1 hw2 hw3 hw4 hw5 hx0 hx1 hx2 hx3 hx4 hx5 hsz hst hnx
   obtain ⟨b1, h1⟩ : ∃ b, leaseB x0 x1 x2 x3 x4 x5 = b := ⟨_, rfl⟩
   have hst2 : ((b1 && (above (hostAheadT l0 i.toNat) x0 && goTab (some x0) (l0.drop (i.toNat + 1)))) && decide (l0.length ≤ 8)) = r := by rw [← h1]; exact hst
   rw [← hnx, ← hi2] at hst2
   clear hst hnx
   have CM := am_ (fun W => lease_May.calls x0 x1 x2 x3 x4 x5 b1 W (by unfold lease_May.f; rw [if_pos hsz, h1]))
   have H1 := am_ (show 0 ≤ i + 1 by omega)
   have H2 := am_ (show (i + 1).toNat + (l0.length - (i.toNat + 1)) = l0.length by omega)
   have H3 := am_ (show l0.length - (i.toNat + 1) < gk by omega)
   have H4 := am_ (show IntKind.i64.wrap (i + 1) = i + 1 from (i64_w _).trans (by unfold wrap64; omega))
   have H6 := am_ (fun (h : i = 0) => show i.toNat = 0 by rw [h]; rfl)
   have H5 := am_ (fun (h : ¬ i = 0) => show 0 < i by omega)
   replace hi0 := am_ hi0
   replace hd := am_ hd
   replace hl := am_ hl
   have clt := decide_eq_true hlt
   have cle := decide_eq_true hi0.out
   have plt := eq_true hlt
   have ple := eq_true hi0.out
   clear h1 hlt
   cases b1 with
   | false =>
    have HF := am_ (show false = r by rw [← hst2]; rfl)
    clear hst2 hpv hi2
    go_wp2_with fail
    have HB1 := am_ (below_drew (p3_ HB.out (.cells #[.int .i64 x0, .int .i64 x1, .string x2, .int .i64 x3, .string x4, .bool x5] 44)))
    have BX1 := am_ (k3_ (blk_new wr (.cells #[.int .i64 x0, .int .i64 x1, .string x2, .int .i64 x3, .string x4, .bool x5] 44)))
    refine seqS (S := table_May.S wr.heap.size x0 x1 x2 x3 x4 x5 ⟨wr.heap.size, 0, none⟩ x0) 18 (by kernel_rfl) rfl rfl (by unfold table_May.S; exact ⟨(bc_ BX1.out 0).trans rfl, (bc_ BX1.out 1).trans rfl, (bc_ BX1.out 2).trans rfl, (bc_ BX1.out 3).trans rfl, (bc_ BX1.out 4).trans rfl, (bc_ BX1.out 5).trans rfl, (bc_ BX1.out 0).trans rfl⟩) ?_
    intro hHeld
    clear hx0 hx1 hx2 hx3 hx4 hx5 hw0 hw1 hw2 hw3 hw4 hw5 HB BX1
    iterate 1 first | (refine seqP (v := ?_) (a' := ?_) rfl rfl (by kernel_rfl) (fun _ _ _ h => h) (Or.inl ⟨by kernel_rfl, ?_⟩) ?_ ?_; rotate_left; (intro w'; go_simp; with_reducible rfl); rotate_left; (simp only [Act.put, sa_, sb_, sc_, i64_w, i32_w]; rfl)) | (refine seqL (v := ?_) (a' := ?_) rfl rfl (by kernel_rfl) (fun _ _ _ h => h) (Or.inl ⟨by kernel_rfl, ?_⟩) hHeld ?_ ?_; rotate_left; (rintro w' ⟨s0, s1, s2, s3, s4, s5, s6⟩; go_simp; with_reducible rfl); rotate_left; (simp only [Act.put, sa_, sb_, sc_, i64_w, i32_w]; rfl))
    refine seqG (fn := Tryz.f69) rfl rfl (by kernel_rfl) rfl Tryz.func69 (by kernel_rfl) (by kernel_rfl) #[.agg #[.int .i64 x0, .int .i64 x1, .string x2, .int .i64 x3, .string x4, .bool x5]] (by kernel_rfl) (by (try simp only [List.map_toArray, List.map_cons, List.map_nil]); first | done | rfl) ?_
    with_reducible refine (CM.out _).mono ?_
    rintro e wg ⟨rfl, hb2⟩
    have HB2 := am_ (bt_ HB1.out hb2)
    refine ⟨_, rfl, table_May.S_below hHeld hb2, fun hHeld => ⟨?_, ?_, ?_⟩⟩
    rotate_left
    ·simp only [Act.put, sa_, sb_, sc_, i64_w, i32_w]
     rfl
    clear hb2 HB1 CM
    iterate 2 first | (refine seqP (v := ?_) (a' := ?_) rfl rfl (by kernel_rfl) (fun _ _ _ h => h) (Or.inl ⟨by kernel_rfl, ?_⟩) ?_ ?_; rotate_left; (intro w'; go_simp; with_reducible rfl); rotate_left; (simp only [Act.put, sa_, sb_, sc_, i64_w, i32_w]; rfl)) | (refine seqL (v := ?_) (a' := ?_) rfl rfl (by kernel_rfl) (fun _ _ _ h => h) (Or.inl ⟨by kernel_rfl, ?_⟩) hHeld ?_ ?_; rotate_left; (rintro w' ⟨s0, s1, s2, s3, s4, s5, s6⟩; go_simp; with_reducible rfl); rotate_left; (simp only [Act.put, sa_, sb_, sc_, i64_w, i32_w]; rfl))
    iterate 13 (refine seqP (v := undef) (a' := ?_) rfl rfl (by kernel_rfl) (fun _ _ _ h => h) (Or.inr ⟨by kernel_rfl, rfl⟩) ?_ ?_; rotate_left; (simp only [Act.put, sa_, sb_, sc_, i64_w, i32_w]; rfl))
    iterate 1 first | (refine seqP (v := ?_) (a' := ?_) rfl rfl (by kernel_rfl) (fun _ _ _ h => h) (Or.inl ⟨by kernel_rfl, ?_⟩) ?_ ?_; rotate_left; (intro w'; go_simp; with_reducible rfl); rotate_left; (simp only [Act.put, sa_, sb_, sc_, i64_w, i32_w]; rfl)) | (refine seqL (v := ?_) (a' := ?_) rfl rfl (by kernel_rfl) (fun _ _ _ h => h) (Or.inl ⟨by kernel_rfl, ?_⟩) hHeld ?_ ?_; rotate_left; (rintro w' ⟨s0, s1, s2, s3, s4, s5, s6⟩; go_simp; with_reducible rfl); rotate_left; (simp only [Act.put, sa_, sb_, sc_, i64_w, i32_w]; rfl))
    refine seqE (by kernel_rfl) ?_
    go_wp2
    go_ret
    exact ⟨ret_bool (HF.out), HB2.out⟩
   | true =>
   rw [Bool.true_and] at hst2
   by_cases hp : i = 0
   ·have cp : decide (0 < i) = false := decide_eq_false (by omega)
    have HN := am_ (show (goTab (hostAheadT l0 (i + 1).toNat) (l0.drop (i + 1).toNat) && decide (l0.length ≤ 8)) = r by rw [← hst2, show hostAheadT l0 i.toNat = none by unfold hostAheadT; rw [if_pos (H6.out hp)], show above none x0 = true from rfl, Bool.true_and])
    replace hp := am_ hp
    clear hst2 hpv hi2
    go_wp2_with fail
    have HB1 := am_ (below_drew (p3_ HB.out (.cells #[.int .i64 x0, .int .i64 x1, .string x2, .int .i64 x3, .string x4, .bool x5] 44)))
    have BX1 := am_ (k3_ (blk_new wr (.cells #[.int .i64 x0, .int .i64 x1, .string x2, .int .i64 x3, .string x4, .bool x5] 44)))
    refine seqS (S := table_May.S wr.heap.size x0 x1 x2 x3 x4 x5 ⟨wr.heap.size, 0, none⟩ x0) 18 (by kernel_rfl) rfl rfl (by unfold table_May.S; exact ⟨(bc_ BX1.out 0).trans rfl, (bc_ BX1.out 1).trans rfl, (bc_ BX1.out 2).trans rfl, (bc_ BX1.out 3).trans rfl, (bc_ BX1.out 4).trans rfl, (bc_ BX1.out 5).trans rfl, (bc_ BX1.out 0).trans rfl⟩) ?_
    intro hHeld
    clear hx0 hx1 hx2 hx3 hx4 hx5 hw0 hw1 hw2 hw3 hw4 hw5 HB BX1
    iterate 1 first | (refine seqP (v := ?_) (a' := ?_) rfl rfl (by kernel_rfl) (fun _ _ _ h => h) (Or.inl ⟨by kernel_rfl, ?_⟩) ?_ ?_; rotate_left; (intro w'; go_simp; with_reducible rfl); rotate_left; (simp only [Act.put, sa_, sb_, sc_, i64_w, i32_w]; rfl)) | (refine seqL (v := ?_) (a' := ?_) rfl rfl (by kernel_rfl) (fun _ _ _ h => h) (Or.inl ⟨by kernel_rfl, ?_⟩) hHeld ?_ ?_; rotate_left; (rintro w' ⟨s0, s1, s2, s3, s4, s5, s6⟩; go_simp; with_reducible rfl); rotate_left; (simp only [Act.put, sa_, sb_, sc_, i64_w, i32_w]; rfl))
    refine seqG (fn := Tryz.f69) rfl rfl (by kernel_rfl) rfl Tryz.func69 (by kernel_rfl) (by kernel_rfl) #[.agg #[.int .i64 x0, .int .i64 x1, .string x2, .int .i64 x3, .string x4, .bool x5]] (by kernel_rfl) (by (try simp only [List.map_toArray, List.map_cons, List.map_nil]); first | done | rfl) ?_
    with_reducible refine (CM.out _).mono ?_
    rintro e wg ⟨rfl, hb2⟩
    have HB2 := am_ (bt_ HB1.out hb2)
    refine ⟨_, rfl, table_May.S_below hHeld hb2, fun hHeld => ⟨?_, ?_, ?_⟩⟩
    rotate_left
    ·simp only [Act.put, sa_, sb_, sc_, i64_w, i32_w]
     rfl
    clear hb2 HB1 CM
    iterate 2 first | (refine seqP (v := ?_) (a' := ?_) rfl rfl (by kernel_rfl) (fun _ _ _ h => h) (Or.inl ⟨by kernel_rfl, ?_⟩) ?_ ?_; rotate_left; (intro w'; go_simp; with_reducible rfl); rotate_left; (simp only [Act.put, sa_, sb_, sc_, i64_w, i32_w]; rfl)) | (refine seqL (v := ?_) (a' := ?_) rfl rfl (by kernel_rfl) (fun _ _ _ h => h) (Or.inl ⟨by kernel_rfl, ?_⟩) hHeld ?_ ?_; rotate_left; (rintro w' ⟨s0, s1, s2, s3, s4, s5, s6⟩; go_simp; with_reducible rfl); rotate_left; (simp only [Act.put, sa_, sb_, sc_, i64_w, i32_w]; rfl))
    iterate 3 first | (refine seqP (v := ?_) (a' := ?_) rfl rfl (by kernel_rfl) (fun _ _ _ h => h) (Or.inl ⟨by kernel_rfl, ?_⟩) ?_ ?_; rotate_left; (intro w'; go_simp; with_reducible rfl); rotate_left; (simp only [Act.put, sa_, sb_, sc_, i64_w, i32_w]; rfl)) | (refine seqL (v := ?_) (a' := ?_) rfl rfl (by kernel_rfl) (fun _ _ _ h => h) (Or.inl ⟨by kernel_rfl, ?_⟩) hHeld ?_ ?_; rotate_left; (rintro w' ⟨s0, s1, s2, s3, s4, s5, s6⟩; go_simp; with_reducible rfl); rotate_left; (simp only [Act.put, sa_, sb_, sc_, i64_w, i32_w]; rfl))
    iterate 9 (refine seqP (v := undef) (a' := ?_) rfl rfl (by kernel_rfl) (fun _ _ _ h => h) (Or.inr ⟨by kernel_rfl, rfl⟩) ?_ ?_; rotate_left; (simp only [Act.put, sa_, sb_, sc_, i64_w, i32_w]; rfl))
    iterate 2 first | (refine seqP (v := ?_) (a' := ?_) rfl rfl (by kernel_rfl) (fun _ _ _ h => h) (Or.inl ⟨by kernel_rfl, ?_⟩) ?_ ?_; rotate_left; (intro w'; go_simp; with_reducible rfl); rotate_left; (simp only [Act.put, sa_, sb_, sc_, i64_w, i32_w]; rfl)) | (refine seqL (v := ?_) (a' := ?_) rfl rfl (by kernel_rfl) (fun _ _ _ h => h) (Or.inl ⟨by kernel_rfl, ?_⟩) hHeld ?_ ?_; rotate_left; (rintro w' ⟨s0, s1, s2, s3, s4, s5, s6⟩; go_simp; with_reducible rfl); rotate_left; (simp only [Act.put, sa_, sb_, sc_, i64_w, i32_w]; rfl))
    refine seqE (by kernel_rfl) ?_
    go_wp2
    go_roundg (l0.length - (i.toNat + 1))
    case measure => exact H3.out
    case rel => exact ⟨i + 1, H1.out, H2.out, by first | rfl | (rw [show wrap64 (i + 1) = i + 1 from (i64_w _).symm.trans H4.out]), HB2, HN⟩
   ·obtain ⟨j, y, hj, hj0, hj1, hay, hwy⟩ := hpv hp
    have cp : decide (0 < i) = true := decide_eq_true (H5.out hp)
    have hjw : IntKind.i64.wrap (i - 1) = j := (i64_w _).trans hj
    have pj0 := eq_true hj0
    have pj1 := eq_true hj1
    have cj0 := decide_eq_true hj0
    have cj1 := decide_eq_true hj1
    rw [hay] at hst2
    replace hp := am_ hp
    replace hj0 := am_ hj0
    replace hj1 := am_ hj1
    by_cases hc : x0 ≤ y
    ·have cc : decide (x0 ≤ y) = true := decide_eq_true hc
     have HF := am_ (show false = r by rw [← hst2, show above (some y) x0 = false from decide_eq_false (by omega)]; simp)
     clear hst2 hpv hi2 hc hay
     go_wp2_with fail
     have HB1 := am_ (below_drew (p3_ HB.out (.cells #[.int .i64 x0, .int .i64 x1, .string x2, .int .i64 x3, .string x4, .bool x5] 44)))
     have BX1 := am_ (k3_ (blk_new wr (.cells #[.int .i64 x0, .int .i64 x1, .string x2, .int .i64 x3, .string x4, .bool x5] 44)))
     refine seqS (S := table_May.S wr.heap.size x0 x1 x2 x3 x4 x5 (ad.add (j.toNat * 6)) y) 18 (by kernel_rfl) rfl rfl (by unfold table_May.S; exact ⟨(bc_ BX1.out 0).trans rfl, (bc_ BX1.out 1).trans rfl, (bc_ BX1.out 2).trans rfl, (bc_ BX1.out 3).trans rfl, (bc_ BX1.out 4).trans rfl, (bc_ BX1.out 5).trans rfl, (HB1.out.cell (wb_ w _ hwy)).trans hwy⟩) ?_
     intro hHeld
     clear hx0 hx1 hx2 hx3 hx4 hx5 hw0 hw1 hw2 hw3 hw4 hw5 HB BX1
     iterate 1 first | (refine seqP (v := ?_) (a' := ?_) rfl rfl (by kernel_rfl) (fun _ _ _ h => h) (Or.inl ⟨by kernel_rfl, ?_⟩) ?_ ?_; rotate_left; (intro w'; go_simp; with_reducible rfl); rotate_left; (simp only [Act.put, sa_, sb_, sc_, i64_w, i32_w]; rfl)) | (refine seqL (v := ?_) (a' := ?_) rfl rfl (by kernel_rfl) (fun _ _ _ h => h) (Or.inl ⟨by kernel_rfl, ?_⟩) hHeld ?_ ?_; rotate_left; (rintro w' ⟨s0, s1, s2, s3, s4, s5, s6⟩; go_simp; with_reducible rfl); rotate_left; (simp only [Act.put, sa_, sb_, sc_, i64_w, i32_w]; rfl))
     refine seqG (fn := Tryz.f69) rfl rfl (by kernel_rfl) rfl Tryz.func69 (by kernel_rfl) (by kernel_rfl) #[.agg #[.int .i64 x0, .int .i64 x1, .string x2, .int .i64 x3, .string x4, .bool x5]] (by kernel_rfl) (by (try simp only [List.map_toArray, List.map_cons, List.map_nil]); first | done | rfl) ?_
     with_reducible refine (CM.out _).mono ?_
     rintro e wg ⟨rfl, hb2⟩
     have HB2 := am_ (bt_ HB1.out hb2)
     refine ⟨_, rfl, table_May.S_below hHeld hb2, fun hHeld => ⟨?_, ?_, ?_⟩⟩
     rotate_left
     ·simp only [Act.put, sa_, sb_, sc_, i64_w, i32_w]
      rfl
     clear hb2 HB1 CM
     iterate 2 first | (refine seqP (v := ?_) (a' := ?_) rfl rfl (by kernel_rfl) (fun _ _ _ h => h) (Or.inl ⟨by kernel_rfl, ?_⟩) ?_ ?_; rotate_left; (intro w'; go_simp; with_reducible rfl); rotate_left; (simp only [Act.put, sa_, sb_, sc_, i64_w, i32_w]; rfl)) | (refine seqL (v := ?_) (a' := ?_) rfl rfl (by kernel_rfl) (fun _ _ _ h => h) (Or.inl ⟨by kernel_rfl, ?_⟩) hHeld ?_ ?_; rotate_left; (rintro w' ⟨s0, s1, s2, s3, s4, s5, s6⟩; go_simp; with_reducible rfl); rotate_left; (simp only [Act.put, sa_, sb_, sc_, i64_w, i32_w]; rfl))
     iterate 14 first | (refine seqP (v := ?_) (a' := ?_) rfl rfl (by kernel_rfl) (fun _ _ _ h => h) (Or.inl ⟨by kernel_rfl, ?_⟩) ?_ ?_; rotate_left; (intro w'; go_simp; with_reducible rfl); rotate_left; (simp only [Act.put, sa_, sb_, sc_, i64_w, i32_w]; rfl)) | (refine seqL (v := ?_) (a' := ?_) rfl rfl (by kernel_rfl) (fun _ _ _ h => h) (Or.inl ⟨by kernel_rfl, ?_⟩) hHeld ?_ ?_; rotate_left; (rintro w' ⟨s0, s1, s2, s3, s4, s5, s6⟩; go_simp; with_reducible rfl); rotate_left; (simp only [Act.put, sa_, sb_, sc_, i64_w, i32_w]; rfl))
     refine seqE (by kernel_rfl) ?_
     go_wp2
     go_ret
     exact ⟨ret_bool (HF.out), HB2.out⟩
    ·have cc : decide (x0 ≤ y) = false := decide_eq_false hc
     have HN := am_ (show (goTab (hostAheadT l0 (i + 1).toNat) (l0.drop (i + 1).toNat) && decide (l0.length ≤ 8)) = r by rw [← hst2, show above (some y) x0 = true from decide_eq_true (by omega), Bool.true_and])
     clear hst2 hpv hi2 hc hay
     go_wp2_with fail
     have HB1 := am_ (below_drew (p3_ HB.out (.cells #[.int .i64 x0, .int .i64 x1, .string x2, .int .i64 x3, .string x4, .bool x5] 44)))
     have BX1 := am_ (k3_ (blk_new wr (.cells #[.int .i64 x0, .int .i64 x1, .string x2, .int .i64 x3, .string x4, .bool x5] 44)))
     refine seqS (S := table_May.S wr.heap.size x0 x1 x2 x3 x4 x5 (ad.add (j.toNat * 6)) y) 18 (by kernel_rfl) rfl rfl (by unfold table_May.S; exact ⟨(bc_ BX1.out 0).trans rfl, (bc_ BX1.out 1).trans rfl, (bc_ BX1.out 2).trans rfl, (bc_ BX1.out 3).trans rfl, (bc_ BX1.out 4).trans rfl, (bc_ BX1.out 5).trans rfl, (HB1.out.cell (wb_ w _ hwy)).trans hwy⟩) ?_
     intro hHeld
     clear hx0 hx1 hx2 hx3 hx4 hx5 hw0 hw1 hw2 hw3 hw4 hw5 HB BX1
     iterate 1 first | (refine seqP (v := ?_) (a' := ?_) rfl rfl (by kernel_rfl) (fun _ _ _ h => h) (Or.inl ⟨by kernel_rfl, ?_⟩) ?_ ?_; rotate_left; (intro w'; go_simp; with_reducible rfl); rotate_left; (simp only [Act.put, sa_, sb_, sc_, i64_w, i32_w]; rfl)) | (refine seqL (v := ?_) (a' := ?_) rfl rfl (by kernel_rfl) (fun _ _ _ h => h) (Or.inl ⟨by kernel_rfl, ?_⟩) hHeld ?_ ?_; rotate_left; (rintro w' ⟨s0, s1, s2, s3, s4, s5, s6⟩; go_simp; with_reducible rfl); rotate_left; (simp only [Act.put, sa_, sb_, sc_, i64_w, i32_w]; rfl))
     refine seqG (fn := Tryz.f69) rfl rfl (by kernel_rfl) rfl Tryz.func69 (by kernel_rfl) (by kernel_rfl) #[.agg #[.int .i64 x0, .int .i64 x1, .string x2, .int .i64 x3, .string x4, .bool x5]] (by kernel_rfl) (by (try simp only [List.map_toArray, List.map_cons, List.map_nil]); first | done | rfl) ?_
     with_reducible refine (CM.out _).mono ?_
     rintro e wg ⟨rfl, hb2⟩
     have HB2 := am_ (bt_ HB1.out hb2)
     refine ⟨_, rfl, table_May.S_below hHeld hb2, fun hHeld => ⟨?_, ?_, ?_⟩⟩
     rotate_left
     ·simp only [Act.put, sa_, sb_, sc_, i64_w, i32_w]
      rfl
     clear hb2 HB1 CM
     iterate 2 first | (refine seqP (v := ?_) (a' := ?_) rfl rfl (by kernel_rfl) (fun _ _ _ h => h) (Or.inl ⟨by kernel_rfl, ?_⟩) ?_ ?_; rotate_left; (intro w'; go_simp; with_reducible rfl); rotate_left; (simp only [Act.put, sa_, sb_, sc_, i64_w, i32_w]; rfl)) | (refine seqL (v := ?_) (a' := ?_) rfl rfl (by kernel_rfl) (fun _ _ _ h => h) (Or.inl ⟨by kernel_rfl, ?_⟩) hHeld ?_ ?_; rotate_left; (rintro w' ⟨s0, s1, s2, s3, s4, s5, s6⟩; go_simp; with_reducible rfl); rotate_left; (simp only [Act.put, sa_, sb_, sc_, i64_w, i32_w]; rfl))
     iterate 14 first | (refine seqP (v := ?_) (a' := ?_) rfl rfl (by kernel_rfl) (fun _ _ _ h => h) (Or.inl ⟨by kernel_rfl, ?_⟩) ?_ ?_; rotate_left; (intro w'; go_simp; with_reducible rfl); rotate_left; (simp only [Act.put, sa_, sb_, sc_, i64_w, i32_w]; rfl)) | (refine seqL (v := ?_) (a' := ?_) rfl rfl (by kernel_rfl) (fun _ _ _ h => h) (Or.inl ⟨by kernel_rfl, ?_⟩) hHeld ?_ ?_; rotate_left; (rintro w' ⟨s0, s1, s2, s3, s4, s5, s6⟩; go_simp; with_reducible rfl); rotate_left; (simp only [Act.put, sa_, sb_, sc_, i64_w, i32_w]; rfl))
     refine seqE (by kernel_rfl) ?_
     go_wp2
     go_roundg (l0.length - (i.toNat + 1))
     case measure => exact H3.out
     case rel => exact ⟨i + 1, H1.out, H2.out, by first | rfl | (rw [show wrap64 (i + 1) = i + 1 from (i64_w _).symm.trans H4.out]), HB2, HN⟩
  ·have HF := am_ (show decide (l0.length ≤ 8) = r by have h1 := HT.out; rw [List.drop_eq_nil_of_le (by omega)] at h1; rw [← h1, show goTab (hostAheadT l0 i.toNat) [] = true from rfl, Bool.true_and])
   by_cases h8 : l0.length ≤ 8
   ·have c8 : decide ((l0.length : Int) ≤ 8) = true := decide_eq_true (by omega)
    have HG := am_ (show true = r by rw [← HF.out]; exact (decide_eq_true h8).symm)
    clear HT HF
    go_wp2
    go_ret
    exact ⟨ret_bool HG.out, HB.out⟩
   ·have c8 : decide ((l0.length : Int) ≤ 8) = false := decide_eq_false (by omega)
    have HG := am_ (show false = r by rw [← HF.out]; exact (decide_eq_false h8).symm)
    clear HT HF
    go_wp2
    go_ret
    exact ⟨ret_bool HG.out, HB.out⟩

/-! ### strings_Count: function 106 -/
-- BY HAND
/-- how often the one byte of the second text stands in the first. -/
def strings_Count.at_ (a0 a1 : ByteArray) : Nat := Lib.countByte a0.data.toList (a1.data.toList.headD 0)
def strings_Count.f (a0 : ByteArray) (a1 : ByteArray) : Option Int := if a1.size = 1 then some (strings_Count.at_ a0 a1) else none
theorem strings_Count.one {a : ByteArray} (h : a.size = 1) : ∃ c, a = ⟨#[c]⟩ := by
 have hl : a.data.toList.length = 1 := by rw [data_length]; exact h
 obtain ⟨c, hc⟩ := List.length_eq_one_iff.1 hl
 refine ⟨c, ?_⟩
 have e : a = ⟨a.data⟩ := rfl
 rw [e, show a.data = #[c] from Array.toList_inj.1 hc]
set_option maxHeartbeats 8000000 in
set_option maxRecDepth 100000 in
theorem strings_Count.calls (a0 : ByteArray) (a1 : ByteArray) (r : Int) (w : World) (h : strings_Count.f a0 a1 = some r) :
  Calls Tryz.prog 106 #[.string a0, .string a1] w fun e w' => e = .returned (.int .i64 r) ∧ Drawn0 w w' := by
 unfold strings_Count.f at h
 by_cases hs : a1.size = 1
 ·rw [if_pos hs] at h
  obtain rfl := e5_ h
  clear h
  obtain ⟨c, rfl⟩ := strings_Count.one hs
  clear hs
  show Calls _ _ _ _ fun e w' => e = .returned (.int .i64 (Lib.countByte a0.data.toList c)) ∧ Drawn0 w w'
  go_enter Tryz.func106, Tryz.ntmps106
  go_wp2
  rw [run_callFunc_extern Tryz.func115 (by kernel_rfl) (by kernel_rfl) (by kernel_rfl) (e := Extern.BytealgCount.count) (by kernel_rfl), Lib.run_countString]
  simp only [Result.andThen]
  rw [Oper.upon_value]
  go_wp2
  go_ret
  exact ⟨rfl, Drawn0.refl _⟩
 ·rw [if_neg hs] at h
  exact absurd h (by simp)

/-! ### strings_Index: function 107 -/
def strings_Index.f (a0 : ByteArray) (a1 : ByteArray) : Option (Int) := (stringslite_Index.f a0 a1).bind fun t135 => (some t135)
set_option maxHeartbeats 8000000 in
set_option maxRecDepth 100000 in
theorem strings_Index.calls (a0 : ByteArray) (a1 : ByteArray) (r : Int) (w : World) (h : strings_Index.f a0 a1 = some r) :
  Calls Tryz.prog 107 #[.string a0, .string a1] w fun e w' => e = .returned (.int .i64 r) ∧ Drawn0 w w' := by
 have H : ((stringslite_Index.f a0 a1).bind fun t135 => (some t135)) = some r := h
 clear h
 replace H := e4_ H
 obtain ⟨t135, A30, H⟩ := H
 replace H : (some t135) = some r := H
 have A3 := am_ A30
 clear A30
 obtain rfl := e5_ H
 go_enter Tryz.func107, Tryz.ntmps107
 go_wp2_with (first | ((with_reducible refine gate_callee (f := 104) rfl ?_); refine goesL_ (some 7) rfl rfl Tryz.func104 (by kernel_rfl) rfl #[.string a0, .string a1] rfl (by (try simp only [List.map_toArray, List.map_cons, List.map_nil]); first | done | rfl | (simp only [List.length_drop, List.length_take]; rfl)) ?_; (with_reducible refine (stringslite_Index.calls a0 a1 t135 _ A3.out).mono ?_); rintro e w' ⟨rfl, ⟨nd, rfl⟩⟩; refine ⟨_, rfl, ?_⟩))
 go_ret
 exact ⟨by first | rfl | (simp; done) | (simp [*]; done), by repeat (first | exact Drawn0.refl _ | apply Drawn0.step)⟩

/-! ### strings_genSplit: function 100 -/
-- BY HAND
/-- a text, cut at its points, so many times at most. -/
def strings_genSplit.cut : Nat → ByteArray → List ByteArray
 | 0, s => [s]
 | m + 1, s => if Lib.indexByte s.data.toList 46 = -1 then [s] else s.extract 0 (Lib.indexByte s.data.toList 46).toNat :: strings_genSplit.cut m (s.extract ((Lib.indexByte s.data.toList 46).toNat + 1) s.size)
theorem strings_genSplit.cut_miss (m : Nat) (s : ByteArray) (h : Lib.indexByte s.data.toList 46 = -1) : strings_genSplit.cut m s = [s] := by
 cases m with
 | zero => rfl
 | succ m => unfold strings_genSplit.cut; rw [if_pos h]
theorem strings_genSplit.cut_hit (m : Nat) (s : ByteArray) (i : Nat) (h : Lib.indexByte s.data.toList 46 = i) : strings_genSplit.cut (m + 1) s = s.extract 0 i :: strings_genSplit.cut m (s.extract (i + 1) s.size) := by
 have e : (Lib.indexByte s.data.toList 46).toNat = i := by omega
 rw [strings_genSplit.cut, if_neg (by omega), e]
theorem strings_genSplit.index_or : ∀ L : List UInt8, Lib.indexByte L 46 = -1 ∨ ∃ i : Nat, Lib.indexByte L 46 = i ∧ i < L.length
 | [] => .inl rfl
 | b :: L => by
  by_cases hb : b = 46
  ·subst hb
   exact .inr ⟨0, by simp [Lib.indexByte], by simp⟩
  ·have hne : (b == 46) = false := by simpa using hb
   rcases strings_genSplit.index_or L with h | ⟨i, h, hi⟩
   ·exact .inl (by simp [Lib.indexByte, hne, h])
   ·refine .inr ⟨i + 1, ?_, by simp only [List.length_cons]; omega⟩
    have h4 : ((i : Int) == -1) = false := by
     rw [beq_eq_false_iff_ne]
     omega
    simp [Lib.indexByte, hne, h, h4]
theorem strings_genSplit.cut_length (m : Nat) : ∀ s, (strings_genSplit.cut m s).length ≤ m + 1 := by
 induction m with
 | zero => intro s; exact Nat.le_refl _
 | succ m ih =>
  intro s
  unfold strings_genSplit.cut
  split
  ·simp
  ·have := ih (s.extract ((Lib.indexByte s.data.toList 46).toNat + 1) s.size)
   simp only [List.length_cons]
   omega
def strings_genSplit.f (a0 : ByteArray) (a1 : ByteArray) (a2 : Int) (a3 : Int) : Option (List ByteArray) :=
 if a1 = ⟨#[46]⟩ ∧ a2 = 0 ∧ a3 = -1 ∧ a0.size ≤ 100000 then some (strings_genSplit.cut (strings_Count.at_ a0 ⟨#[46]⟩) a0) else none
theorem strings_genSplit.row {w : World} {base g N : Nat} {ps : List ByteArray} (hb : base ≤ g) (h : w.heap[g]? = some (.cells (Lib.cellsOf ps N) 9 (0, 0))) (hl : ps.length ≤ N) (hN : N ≤ 1000000) :
  Kd.R Kd.string 9 w base (fun _ => True) (.slice (some ⟨g, 0, none⟩) ps.length N) ps := by
 refine Kd.R_of_own ⟨by rw [encs_length, Nat.mul_one], .inr ⟨g, N, Lib.cellsOf ps N, rfl, hb, h, hl, by simp only [maxLen]; omega, by rw [Lib.cellsOf_size hl, Nat.mul_one], ?_⟩⟩ (fun _ _ => trivial)
 unfold Lib.cellsOf encs
 rw [Nat.mul_one, List.take_append_of_le_length (by rw [List.length_map]; exact Nat.le_refl _), List.take_of_length_le (by rw [List.length_map]; exact Nat.le_refl _)]
set_option maxHeartbeats 8000000 in
set_option maxRecDepth 100000 in
theorem strings_genSplit.calls (a0 : ByteArray) (a1 : ByteArray) (a2 : Int) (a3 : Int) (r : List ByteArray) (w : World) (h : strings_genSplit.f a0 a1 a2 a3 = some r) :
  Calls Tryz.prog 100 #[.string a0, .string a1, .int .i64 a2, .int .i64 a3] w fun e w' => ∃ v0_ : Value, e = .returned (v0_) ∧ Kd.R Kd.string 9 w' w.heap.size (fun _ => True) v0_ r ∧ Below w.heap.size w w' := by
 unfold strings_genSplit.f at h
 by_cases hc : a1 = ⟨#[46]⟩ ∧ a2 = 0 ∧ a3 = -1 ∧ a0.size ≤ 100000
 ·rw [if_pos hc] at h
  obtain ⟨rfl, rfl, rfl, hs⟩ := hc
  have hcl : strings_Count.at_ a0 ⟨#[46]⟩ ≤ a0.size := by
   unfold strings_Count.at_ Lib.countByte
   have := List.count_le_length (a := ((⟨#[46]⟩ : ByteArray).data.toList.headD 0)) (l := a0.data.toList)
   rw [data_length] at this
   exact this
  have hCC : ∀ W, Calls Tryz.prog 106 #[.string a0, .string ⟨#[46]⟩] W fun e w' => e = .returned (.int .i64 (strings_Count.at_ a0 ⟨#[46]⟩ : Nat)) ∧ Drawn0 W w' := fun W => strings_Count.calls a0 ⟨#[46]⟩ _ W rfl
  obtain ⟨cn, hcn⟩ : ∃ cn : Nat, strings_Count.at_ a0 ⟨#[46]⟩ = cn := ⟨_, rfl⟩
  rw [hcn] at hCC h hcl
  clear hcn
  obtain rfl := e5_ h
  clear h
  have hI : ∀ (x : ByteArray) (W : World), Calls Tryz.prog 107 #[.string x, .string ⟨#[46]⟩] W fun e w' => e = .returned (.int .i64 (Lib.indexByte x.data.toList 46)) ∧ Drawn0 W w' := fun x W => strings_Index.calls x ⟨#[46]⟩ _ W rfl
  have hlen := am_ (strings_genSplit.cut_length cn a0)
  have eN : min ((cn : Int) + 1) ((a0.size : Int) + 1) = ((cn + 1 : Nat) : Int) := by omega
  have hmk := fun W => run_make_row' (P := Tryz.prog) (w := W) 95 9 (.string ByteArray.empty) 16 Tryz.underlying95 info9 rfl .i64 .i64 (cn + 1) (by omega) (by omega)
  have e1 : ((cn + 1 : Nat) : Int) = (cn : Int) + 1 := by omega
  simp only [e1] at hmk
  go_enter Tryz.func100, Tryz.ntmps100
  go_wp2_with (first | (go_at_call 106; refine (hCC _).mono ?_; rintro e w' ⟨rfl, ⟨nd, rfl⟩⟩))
  clear hmk hCC
  go_loopg [0, 10] cn (fun d s0 s10 wr => ∃ (done : List ByteArray) (rest : ByteArray), s0 = .string rest ∧ s10 = .int .i64 done.length ∧ done.length ≤ cn ∧ d = cn - done.length ∧ rest.size ≤ a0.size ∧
   Aside0 (wr.heap[w.heap.size]? = some (.cells (Lib.cellsOf done (cn + 1)) 9 (0, 0))) ∧ Aside0 (Below w.heap.size w wr) ∧ Aside0 (done ++ strings_genSplit.cut (cn - done.length) rest = strings_genSplit.cut cn a0))
  case atStart => exact ⟨[], a0, rfl, rfl, Nat.zero_le _, rfl, Nat.le_refl _, ⟨by rw [Lib.cellsOf_nil]; exact blk_new _ _⟩, ⟨by repeat (first | exact Below.refl _ _ | apply p3_ | apply p1_ | apply p2_)⟩, ⟨rfl⟩⟩
  case round =>
   obtain ⟨done, rest, rfl, rfl, hd, rfl, hrs, HH, HB, HS⟩ := hrel
   have hnext : (Lib.cellsOf done (cn + 1))[done.length]? = some (.string ByteArray.empty) := Lib.cellsOf_next (by omega)
   have hx := (bc_ HH.out done.length).trans hnext
   have hz := bf_ HH.out done.length
   clear hnext
   have fin : strings_genSplit.cut (cn - done.length) rest = [rest] → ∀ W : World, W.heap[w.heap.size]? = some (.cells ((Lib.cellsOf done (cn + 1)).setIfInBounds done.length (.string rest)) 9 (0, 0)) → Kd.R Kd.string 9 W w.heap.size (fun _ => True) (.slice (some ⟨w.heap.size, 0, none⟩) (done.length + 1) (cn + 1)) (strings_genSplit.cut cn a0) := fun e W hW => by
    have e2 := HS.out
    rw [e] at e2
    rw [Lib.cellsOf_set (by omega)] at hW
    rw [← e2]
    have := strings_genSplit.row (base := w.heap.size) (Nat.le_refl _) hW (by rw [List.length_append, List.length_singleton]; omega) (by omega)
    rw [List.length_append, List.length_singleton] at this
    exact this
   by_cases hlt : done.length < cn
   ·have hltz : ((done.length : Nat) : Int) < (cn : Int) := by omega
    rcases strings_genSplit.index_or rest.data.toList with hix | ⟨i, hix, hroom⟩
    ·have HF := am_ (fin (strings_genSplit.cut_miss _ rest hix))
     clear fin
     go_wp2_with (first | (go_at_call 107; refine (hI rest _).mono ?_; rintro e w' ⟨rfl, ⟨nd2, rfl⟩⟩; rw [hix]))
     go_ret
     exact ⟨_, rfl, HF.out _ (blk_set (k2_ HH.out _) _ _), (show Below w.heap.size w (wr.drewN nd2) by repeat (with_reducible first | exact HB.out | apply p3_ | apply p1_ | apply p2_)).setCell (Nat.le_refl _) _⟩
    ·rw [data_length] at hroom
     clear fin
     go_wp2_with (first | (go_at_call 107; refine (hI rest _).mono ?_; rintro e w' ⟨rfl, ⟨nd2, rfl⟩⟩; rw [hix]))
     go_roundg (cn - (done.length + 1))
     case measure => first | omega | (simp; omega)
     case rel =>
      refine ⟨done ++ [rest.extract 0 i], rest.extract (i + 1) rest.size, by simp, by simp, by simp; omega, by simp, by rw [ByteArray.size_extract]; omega, ⟨?_⟩, ⟨(show Below w.heap.size w (wr.drewN nd2) by repeat (with_reducible first | exact HB.out | apply p3_ | apply p1_ | apply p2_)).setCell (Nat.le_refl _) _⟩, ⟨?_⟩⟩
      ·rw [← Lib.cellsOf_set (by omega)]
       have := blk_set (k2_ HH.out nd2) done.length (.string (rest.extract 0 i))
       simpa using this
      ·rw [← HS.out, show cn - done.length = (cn - (done.length + 1)) + 1 by omega, strings_genSplit.cut_hit _ rest i hix]
       simp
   ·have hltz : ¬ (((done.length : Nat) : Int) < (cn : Int)) := by omega
    have HF := am_ (fin (by rw [show cn - done.length = 0 by omega]; rfl))
    clear fin
    go_wp2
    go_ret
    exact ⟨_, rfl, HF.out _ (blk_set HH.out _ _), HB.out.setCell (Nat.le_refl _) _⟩
 ·rw [if_neg hc] at h
  cases h

/-! ### strings_Split: function 92 -/
-- BY HAND
def strings_Split.f (a0 : ByteArray) (a1 : ByteArray) : Option (List ByteArray) := strings_genSplit.f a0 a1 0 (-1)
set_option maxHeartbeats 8000000 in
set_option maxRecDepth 100000 in
theorem strings_Split.calls (a0 : ByteArray) (a1 : ByteArray) (r : List ByteArray) (w : World) (h : strings_Split.f a0 a1 = some r) :
  Calls Tryz.prog 92 #[.string a0, .string a1] w fun e w' => ∃ v0_ : Value, e = .returned (v0_) ∧ Kd.R Kd.string 9 w' w.heap.size (fun _ => True) v0_ r ∧ Below w.heap.size w w' := by
 have HX : Aside0 (strings_genSplit.f a0 a1 0 (-1) = some r) := ⟨h⟩
 clear h
 go_enter Tryz.func92, Tryz.ntmps92
 go_wp2_with (go_at_call 100; (with_reducible refine (strings_genSplit.calls _ _ _ _ _ _ HX.out).mono ?_); rintro e w' ⟨v0_, rfl, hR, hB⟩)
 go_ret
 exact ⟨_, rfl, hR, hB⟩

/-! ### name_Labels: function 79 -/
def name_Labels.f (a0 : ByteArray) : Option (List ByteArray) := if a0.toList = ([] : List UInt8) then (some ([] : List ByteArray)) else ((name_May_c.f a0).bind fun t136 => (if t136 = true then ((strings_Split.f a0 (⟨#[46]⟩ : ByteArray)).bind fun t137 => (some t137)) else (some ([] : List ByteArray))))
set_option maxHeartbeats 8000000 in
set_option maxRecDepth 100000 in
theorem name_Labels.calls (a0 : ByteArray) (r : List ByteArray) (w : World) (h : name_Labels.f a0 = some r) :
  Calls Tryz.prog 79 #[.string a0] w fun e w' => ∃ v0_ : Value, e = .returned (v0_) ∧ Kd.R Kd.string 9 w' w.heap.size (fun _ => True) v0_ r ∧ Below w.heap.size w w' := by
 have HB := am_ (Below.refl w.heap.size w)
 have H : (if a0.toList = ([] : List UInt8) then (some ([] : List ByteArray)) else ((name_May_c.f a0).bind fun t136 => (if t136 = true then ((strings_Split.f a0 (⟨#[46]⟩ : ByteArray)).bind fun t137 => (some t137)) else (some ([] : List ByteArray))))) = some r := h
 clear h
 by_cases c2 : a0.toList = ([] : List UInt8)
 ·rw [if_pos c2] at H
  have c2b0 : (a0.toList == ([] : List UInt8)) = true := beq_iff_eq.mpr c2
  have c2b1 : (a0.toList != ([] : List UInt8)) = false := e1_ c2
  clear c2
  obtain rfl := e5_ H
  go_enter Tryz.func79, Tryz.ntmps79
  go_wp2
  go_ret
  exact ⟨_, by first | rfl | (simp [errW_none, errW_some] <;> rfl) | (simp [*, errW_none, errW_some] <;> rfl) | (simp only [str_ne_]; rfl) | (simp only [str_eq_]; rfl), by first | exact Kd.R_nil _ _ _ _ _ | exact Kd.N_nil _ _ _ _ _ | exact Kd.V_nil _ _ _ _ _ | exact Kd.Q_nil _ _ _ _ _ | exact Kd.S_nil _ _ _ _ _, by repeat (with_reducible first | exact HB.out | apply p3_ | apply p1_ | apply p2_)⟩
 rw [if_neg c2] at H
 have c2b0 : (a0.toList == ([] : List UInt8)) = false := e2_ c2
 have c2b1 : (a0.toList != ([] : List UInt8)) = true := bne_iff_ne.mpr c2
 replace H := e4_ H
 obtain ⟨t136, A30, H⟩ := H
 replace H : (if t136 = true then ((strings_Split.f a0 (⟨#[46]⟩ : ByteArray)).bind fun t137 => (some t137)) else (some ([] : List ByteArray))) = some r := H
 have A3 := am_ A30
 clear A30
 by_cases c4 : t136 = true
 ·subst c4
  have H1 : ((strings_Split.f a0 (⟨#[46]⟩ : ByteArray)).bind fun t137 => (some t137)) = some r := by rw [if_pos rfl] at H; exact H
  clear H
  have H := H1
  clear H1
  replace H := e4_ H
  obtain ⟨t137, A50, H⟩ := H
  replace H : (some t137) = some r := H
  have A5 := am_ A50
  clear A50
  obtain rfl := e5_ H
  go_enter Tryz.func79, Tryz.ntmps79
  go_wp2_with (first | (go_at_call 78; (with_reducible refine (name_May_c.calls a0 true _ A3.out).mono ?_); rintro e w' ⟨rfl, ⟨nd, rfl⟩⟩) | ((with_reducible refine gate_callee (f := 92) rfl ?_); refine goesL_ (some 11) rfl rfl Tryz.func92 (by kernel_rfl) rfl #[.string a0, .string (⟨#[46]⟩ : ByteArray)] rfl (by (try simp only [List.map_toArray, List.map_cons, List.map_nil]); first | done | rfl | (simp only [List.length_drop, List.length_take]; rfl)) ?_; (with_reducible refine (strings_Split.calls a0 (⟨#[46]⟩ : ByteArray) t137 _ A5.out).mono ?_); rintro e w6 ⟨v138, rfl, ho0, hb⟩; refine ⟨_, rfl, ?_⟩; have n0_ := am_ (Kd.R_lower ho0 (bz_ (by repeat (with_reducible first | exact HB.out | apply p3_ | apply p1_ | apply p2_)))); have n1_ := am_ (bt_ (by repeat (with_reducible first | exact HB.out | apply p3_ | apply p1_ | apply p2_)) hb); clear HB; have HO139 := n0_; have HB := n1_; clear n0_ n1_; (try clear hb); (try clear ho0)))
  go_ret
  exact ⟨_, by first | rfl | (simp [errW_none, errW_some] <;> rfl) | (simp [*, errW_none, errW_some] <;> rfl) | (simp only [str_ne_]; rfl) | (simp only [str_eq_]; rfl), by (with_reducible repeat (first | apply r1_ | apply r2_ | apply r3_)); exact HO139.out, by repeat (with_reducible first | exact HB.out | apply p3_ | apply p1_ | apply p2_)⟩
 replace c4 := e3_ c4
 subst c4
 have H1 : (some ([] : List ByteArray)) = some r := by rw [if_neg (show ¬ (false = true) by decide)] at H; exact H
 clear H
 have H := H1
 clear H1
 obtain rfl := e5_ H
 go_enter Tryz.func79, Tryz.ntmps79
 go_wp2_with (first | (go_at_call 78; (with_reducible refine (name_May_c.calls a0 false _ A3.out).mono ?_); rintro e w' ⟨rfl, ⟨nd, rfl⟩⟩))
 go_ret
 exact ⟨_, by first | rfl | (simp [errW_none, errW_some] <;> rfl) | (simp [*, errW_none, errW_some] <;> rfl) | (simp only [str_ne_]; rfl) | (simp only [str_eq_]; rfl), by first | exact Kd.R_nil _ _ _ _ _ | exact Kd.N_nil _ _ _ _ _ | exact Kd.V_nil _ _ _ _ _ | exact Kd.Q_nil _ _ _ _ _ | exact Kd.S_nil _ _ _ _ _, by repeat (with_reducible first | exact HB.out | apply p3_ | apply p1_ | apply p2_)⟩

/-! ### name_Labels_c: function 79 -/
theorem count_index : ∀ L : List UInt8, (Lib.indexByte L 46 = -1 ∧ L.count 46 = 0) ∨ (∃ i : Nat, Lib.indexByte L 46 = i ∧ L.count 46 = (L.drop (i + 1)).count 46 + 1)
 | [] => .inl ⟨rfl, rfl⟩
 | b :: L => by
  by_cases hb : b = 46
  ·subst hb
   exact .inr ⟨0, by simp [Lib.indexByte], by simp⟩
  ·have hne : (b == 46) = false := by simpa using hb
   have hc : (b :: L).count 46 = L.count 46 := List.count_cons_of_ne hb
   rcases count_index L with ⟨h, h2⟩ | ⟨i, h, h2⟩
   ·exact .inl ⟨by simp [Lib.indexByte, hne, h], by rw [hc, h2]⟩
   ·refine .inr ⟨i + 1, ?_, by rw [hc, h2]; rfl⟩
    have h4 : ((i : Int) == -1) = false := by
     rw [beq_eq_false_iff_ne]
     omega
    simp [Lib.indexByte, hne, h, h4]
theorem data_drop (s : ByteArray) (i : Nat) : (s.extract i s.size).data.toList = s.data.toList.drop i := by
 rw [ByteArray.data_extract, Array.toList_extract, List.extract_eq_take_drop, List.take_of_length_le (by rw [List.length_drop, data_length]; exact Nat.le_refl _)]
theorem cut_map (m : Nat) : ∀ s : ByteArray, s.data.toList.count 46 = m → (strings_genSplit.cut m s).map bytesOf = cutL (bytesOf s) := by
 induction m with
 | zero =>
  intro s h
  rcases count_index s.data.toList with ⟨h1, _⟩ | ⟨i, _, h2⟩
  ·rcases cut_index s.data.toList with ⟨_, h4⟩ | ⟨h3, _, _⟩
   ·exact h4.symm
   ·omega
  ·omega
 | succ m ih =>
  intro s h
  rcases count_index s.data.toList with ⟨_, h2⟩ | ⟨i, h1, h2⟩
  ·omega
  ·rcases cut_index s.data.toList with ⟨h3, _⟩ | ⟨_, h3, h4⟩
   ·omega
   ·rw [h1, Int.toNat_natCast] at h4
    have h5 : cutL (bytesOf s) = (bytesOf s).take i :: cutL ((bytesOf s).drop (i + 1)) := h4
    have e1 : bytesOf (s.extract 0 i) = (bytesOf s).take i := by rw [bytesOf_extract, List.drop_zero, Nat.sub_zero]
    have e2 : bytesOf (s.extract (i + 1) s.size) = (bytesOf s).drop (i + 1) := by
     rw [bytesOf_extract, List.take_of_length_le (by rw [List.length_drop, bytesOf_length]; exact Nat.le_refl _)]
    rw [strings_genSplit.cut_hit m s i h1, List.map_cons, ih _ (by rw [data_drop]; omega), h5, e1, e2]
/-- the points and the texts behind them. -/
theorem labels_eq_ (s : ByteArray) (hs : s.size ≤ 140737488351232) : name_Labels.f s = some (labelsS s) := by
 unfold name_Labels.f name_May_c.f labelsS
 rw [if_pos (show s.size ≤ 562949953421312 by omega), Option.bind_some]
 by_cases q : s.toList = ([] : List UInt8)
 ·have hz := (toList_nil s).1 q
  rw [if_pos q, if_neg (by simp [hz])]
 ·have hz : s.size ≠ 0 := fun e => q ((toList_nil s).2 e)
  rw [if_neg q]
  cases h : nameB (bytesOf s) with
  | false => simp
  | true =>
   have hsh := name_short _ h
   rw [bytesOf_length] at hsh
   have e : strings_Split.f s ⟨#[46]⟩ = some (strings_genSplit.cut (s.data.toList.count 46) s) := by
    unfold strings_Split.f strings_genSplit.f
    rw [if_pos ⟨rfl, rfl, rfl, by omega⟩]
    rfl
   rw [if_pos rfl, e, if_pos (by simp [hz]), of_map_bytes _ _ (cut_map (s.data.toList.count 46) s rfl)]
   rfl
def name_Labels_c.f (a0 : ByteArray) : Option (List ByteArray) := if a0.size ≤ 140737488351232 then some (labelsS a0) else none
theorem name_Labels_c.calls (a0 : ByteArray) (r : List ByteArray) (w : World) (h : name_Labels_c.f a0 = some r) :
  Calls Tryz.prog 79 #[.string a0] w fun e w' => ∃ v0_ : Value, e = .returned (v0_) ∧ Kd.R Kd.string 9 w' w.heap.size (fun _ => True) v0_ r ∧ Below w.heap.size w w' := by
 unfold name_Labels_c.f at h
 by_cases hs : a0.size ≤ 140737488351232
 ·rw [if_pos hs] at h
  exact name_Labels.calls a0 r w (by rw [labels_eq_ a0 hs]; exact h)
 ·rw [if_neg hs] at h
  cases h

/-- A state of type 26 at block g of W; what its slices lead to came in by w0. -/
def IsS26 (w0 W : World) (g : Nat) (f0 : Int) (f1 : Int) (f2 : List Int) (f3 : List (S81)) (f4 : Int) (f5 : ByteArray) (f6 : List (S83)) : Prop := ∃ A2 c2, ∃ A3 c3, ∃ A6 c6, W.heap[g]? = some (.cells #[.int .i64 f0, .int .i64 f1, .slice A2 f2.length c2, .slice A3 f3.length c3, .int .i64 f4, .string f5, .slice A6 f6.length c6] 26 (0, 0)) ∧ w0.heap.size ≤ g ∧ Kd.C (Kd.int .i64) w0 A2 f2.length f2 ∧ Kd.C k81 w0 A3 f3.length f3 ∧ Kd.C k83 w0 A6 f6.length f6
theorem IsS26.grown {w0 W : World} {g : Nat} {f0 : Int} {f1 : Int} {f2 : List Int} {f3 : List (S81)} {f4 : Int} {f5 : ByteArray} {f6 : List (S83)} {W1 : World} {row : Option Nat} (h : IsS26 w0 W g f0 f1 f2 f3 f4 f5 f6) (hw : W.grownBy W1 row) (hne : some g ≠ row) : IsS26 w0 W1 g f0 f1 f2 f3 f4 f5 f6 := by
 obtain ⟨A2, c2, A3, c3, A6, c6, hb, hg, hr2, hr3, hr6⟩ := h
 exact ⟨A2, c2, A3, c3, A6, c6, blk_grown hb hw hne, hg, hr2, hr3, hr6⟩
theorem IsS26.own_neN {w0 W : World} {g : Nat} {f0 : Int} {f1 : Int} {f2 : List Int} {f3 : List (S81)} {f4 : Int} {f5 : ByteArray} {f6 : List (S83)} {α : Type} {d : Kd α} {e : Nat} {base : Nat} {ok : Nat → Prop} {v : Value} {xs : List α} (h : IsS26 w0 W g f0 f1 f2 f3 f4 f5 f6) (ho : Kd.N d e W base ok v xs) (ht : e ≠ 26) : some g ≠ v.ownBlock := by
 obtain ⟨A2, c2, A3, c3, A6, c6, hb, hg, hr2, hr3, hr6⟩ := h
 exact Kd.N_ne ho hb ht
theorem IsS26.fresh {w0 W : World} {g : Nat} {f0 : Int} {f1 : Int} {f2 : List Int} {f3 : List (S81)} {f4 : Int} {f5 : ByteArray} {f6 : List (S83)} (h : IsS26 w0 W g f0 f1 f2 f3 f4 f5 f6) : ∀ k, W.heap.size ≤ k → k ≠ g := by
 obtain ⟨A2, c2, A3, c3, A6, c6, hb, hg, hr2, hr3, hr6⟩ := h
 exact Kd.freshB hb
theorem IsS26.kept {w0 W : World} {g : Nat} {f0 : Int} {f1 : Int} {f2 : List Int} {f3 : List (S81)} {f4 : Int} {f5 : ByteArray} {f6 : List (S83)} {W1 : World} {S : Nat → Prop} (h : IsS26 w0 W g f0 f1 f2 f3 f4 f5 f6) (hk : Kept W W1 S) (hne : ¬ S g) : IsS26 w0 W1 g f0 f1 f2 f3 f4 f5 f6 := by
 obtain ⟨A2, c2, A3, c3, A6, c6, hb, hg, hr2, hr3, hr6⟩ := h
 exact ⟨A2, c2, A3, c3, A6, c6, blk_kept hb hk hne, hg, hr2, hr3, hr6⟩
theorem IsS26.below {w0 W : World} {g : Nat} {f0 : Int} {f1 : Int} {f2 : List Int} {f3 : List (S81)} {f4 : Int} {f5 : ByteArray} {f6 : List (S83)} {W1 : World} (h : IsS26 w0 W g f0 f1 f2 f3 f4 f5 f6) (hw : Below W.heap.size W W1) : IsS26 w0 W1 g f0 f1 f2 f3 f4 f5 f6 := h.grown (grown_of_below hw none) (by simp)
theorem IsS26.alloc {w0 W : World} {g : Nat} {f0 : Int} {f1 : Int} {f2 : List Int} {f3 : List (S81)} {f4 : Int} {f5 : ByteArray} {f6 : List (S83)} (h : IsS26 w0 W g f0 f1 f2 f3 f4 f5 f6) (o : Obj) : IsS26 w0 (W.alloc o) g f0 f1 f2 f3 f4 f5 f6 := h.below (p3_ (Below.refl _ _) o)
theorem IsS26.drewN {w0 W : World} {g : Nat} {f0 : Int} {f1 : Int} {f2 : List Int} {f3 : List (S81)} {f4 : Int} {f5 : ByteArray} {f6 : List (S83)} (h : IsS26 w0 W g f0 f1 f2 f3 f4 f5 f6) (m : Nat) : IsS26 w0 (W.drewN m) g f0 f1 f2 f3 f4 f5 f6 := h
theorem IsS26.drew {w0 W : World} {g : Nat} {f0 : Int} {f1 : Int} {f2 : List Int} {f3 : List (S81)} {f4 : Int} {f5 : ByteArray} {f6 : List (S83)} (h : IsS26 w0 W g f0 f1 f2 f3 f4 f5 f6) : IsS26 w0 W.drew g f0 f1 f2 f3 f4 f5 f6 := h
theorem IsS26.at_ {w0 W : World} {g : Nat} {f0 : Int} {f1 : Int} {f2 : List Int} {f3 : List (S81)} {f4 : Int} {f5 : ByteArray} {f6 : List (S83)} {w' : World} {m : Nat} (hq : W.drewN m = w') (h : IsS26 w0 W g f0 f1 f2 f3 f4 f5 f6) : IsS26 w0 w' g f0 f1 f2 f3 f4 f5 f6 := by subst hq; exact IsS26.drewN h m
theorem IsS26.apart {w0 W : World} {g : Nat} {f0 : Int} {f1 : Int} {f2 : List Int} {f3 : List (S81)} {f4 : Int} {f5 : ByteArray} {f6 : List (S83)} {α : Type} {d : Kd α} {e : Nat} {base : Nat} {ok : Nat → Prop} {v : Value} {xs : List α} (h : IsS26 w0 W g f0 f1 f2 f3 f4 f5 f6) (ho : d.R e W base ok v xs) (ht : ∀ q, q ∈ e :: d.E → q ≠ 26) : d.R e W base (fun k => ok k ∧ k ≠ g) v xs := by
 obtain ⟨A2, c2, A3, c3, A6, c6, hb, hg, hr2, hr3, hr6⟩ := h
 exact Kd.R_types ho hb ht
theorem IsS26.own_ne {w0 W : World} {g : Nat} {f0 : Int} {f1 : Int} {f2 : List Int} {f3 : List (S81)} {f4 : Int} {f5 : ByteArray} {f6 : List (S83)} {α : Type} {d : Kd α} {e : Nat} {base : Nat} {ok : Nat → Prop} {v : Value} {xs : List α} (h : IsS26 w0 W g f0 f1 f2 f3 f4 f5 f6) (ho : d.R e W base ok v xs) (ht : e ≠ 26) : some g ≠ v.ownBlock := by
 obtain ⟨A2, c2, A3, c3, A6, c6, hb, hg, hr2, hr3, hr6⟩ := h
 exact Kd.R_ne ho hb ht
theorem IsS26.apartQ {w0 W : World} {g : Nat} {f0 : Int} {f1 : Int} {f2 : List Int} {f3 : List (S81)} {f4 : Int} {f5 : ByteArray} {f6 : List (S83)} {α : Type} {d : Kd α} {e : Nat} {base : Nat} {ok : Nat → Prop} {v : Value} {xs : List α} (h : IsS26 w0 W g f0 f1 f2 f3 f4 f5 f6) (ho : d.Q e W base ok v xs) (ht : ∀ q, q ∈ e :: d.E → q ≠ 26) : d.Q e W base (fun k => ok k ∧ k ≠ g) v xs := by
 obtain ⟨A2, c2, A3, c3, A6, c6, hb, hg, hr2, hr3, hr6⟩ := h
 exact Kd.Q_types ho hb ht
theorem IsS26.own_neQ {w0 W : World} {g : Nat} {f0 : Int} {f1 : Int} {f2 : List Int} {f3 : List (S81)} {f4 : Int} {f5 : ByteArray} {f6 : List (S83)} {α : Type} {d : Kd α} {e : Nat} {base : Nat} {ok : Nat → Prop} {v : Value} {xs : List α} (h : IsS26 w0 W g f0 f1 f2 f3 f4 f5 f6) (ho : d.Q e W base ok v xs) (ht : e ≠ 26) : some g ≠ v.ownBlock := by
 obtain ⟨A2, c2, A3, c3, A6, c6, hb, hg, hr2, hr3, hr6⟩ := h
 exact Kd.Q_ne ho hb ht
theorem IsS26.apartS {w0 W : World} {g : Nat} {f0 : Int} {f1 : Int} {f2 : List Int} {f3 : List (S81)} {f4 : Int} {f5 : ByteArray} {f6 : List (S83)} {α : Type} {d : Kd α} {e : Nat} {base : Nat} {ok : Nat → Prop} {v : Value} {xs : List α} (h : IsS26 w0 W g f0 f1 f2 f3 f4 f5 f6) (ho : d.S e W base ok v xs) (ht : ∀ q, q ∈ e :: d.E → q ≠ 26) : d.S e W base (fun k => ok k ∧ k ≠ g) v xs := by
 obtain ⟨A2, c2, A3, c3, A6, c6, hb, hg, hr2, hr3, hr6⟩ := h
 exact Kd.S_types ho hb ht
theorem IsS26.own_neS {w0 W : World} {g : Nat} {f0 : Int} {f1 : Int} {f2 : List Int} {f3 : List (S81)} {f4 : Int} {f5 : ByteArray} {f6 : List (S83)} {α : Type} {d : Kd α} {e : Nat} {base : Nat} {ok : Nat → Prop} {v : Value} {xs : List α} (h : IsS26 w0 W g f0 f1 f2 f3 f4 f5 f6) (ho : d.S e W base ok v xs) (ht : e ≠ 26) : some g ≠ v.ownBlock := by
 obtain ⟨A2, c2, A3, c3, A6, c6, hb, hg, hr2, hr3, hr6⟩ := h
 exact Kd.S_ne ho hb ht
theorem IsS26.lt {w0 W : World} {g : Nat} {f0 : Int} {f1 : Int} {f2 : List Int} {f3 : List (S81)} {f4 : Int} {f5 : ByteArray} {f6 : List (S83)} (h : IsS26 w0 W g f0 f1 f2 f3 f4 f5 f6) : g < W.heap.size := by
 obtain ⟨A2, c2, A3, c3, A6, c6, hb, hg, hr2, hr3, hr6⟩ := h
 exact blk_lt hb
theorem IsS26.ge {w0 W : World} {g : Nat} {f0 : Int} {f1 : Int} {f2 : List Int} {f3 : List (S81)} {f4 : Int} {f5 : ByteArray} {f6 : List (S83)} (h : IsS26 w0 W g f0 f1 f2 f3 f4 f5 f6) : w0.heap.size ≤ g := by
 obtain ⟨A2, c2, A3, c3, A6, c6, hb, hg, hr2, hr3, hr6⟩ := h
 exact hg
theorem IsS26.ne_blk {w0 W : World} {g : Nat} {f0 : Int} {f1 : Int} {f2 : List Int} {f3 : List (S81)} {f4 : Int} {f5 : ByteArray} {f6 : List (S83)} {a : Nat} {cs : Array Value} {t : TypeId} {fr : Nat × Nat} (h : IsS26 w0 W g f0 f1 f2 f3 f4 f5 f6) (hb2 : W.heap[a]? = some (.cells cs t fr)) (ht : t ≠ 26) : g ≠ a := by
 obtain ⟨A2, c2, A3, c3, A6, c6, hb, hg, hr2, hr3, hr6⟩ := h
 rintro rfl
 rw [hb] at hb2
 injection hb2 with hb2
 injection hb2 with _ ht2
 exact ht ht2.symm
theorem IsS26.far {w0 W : World} {g : Nat} {f0 : Int} {f1 : Int} {f2 : List Int} {f3 : List (S81)} {f4 : Int} {f5 : ByteArray} {f6 : List (S83)} {p : Addr} (h : IsS26 w0 W g f0 f1 f2 f3 f4 f5 f6) (hne : g ≠ p.block) (u : Value) : IsS26 w0 (W.setCell p u) g f0 f1 f2 f3 f4 f5 f6 := by
 obtain ⟨A2, c2, A3, c3, A6, c6, hb, hg, hr2, hr3, hr6⟩ := h
 exact ⟨A2, c2, A3, c3, A6, c6, blk_far hb hne u, hg, hr2, hr3, hr6⟩
theorem cellS26_0 {W : World} {g : Nat} {A2 : Option Addr} {c2 : Nat} {A3 : Option Addr} {c3 : Nat} {A6 : Option Addr} {c6 : Nat} {f0 : Int} {f1 : Int} {f2 : List Int} {f3 : List (S81)} {f4 : Int} {f5 : ByteArray} {f6 : List (S83)} (h : W.heap[g]? = some (.cells #[.int .i64 f0, .int .i64 f1, .slice A2 f2.length c2, .slice A3 f3.length c3, .int .i64 f4, .string f5, .slice A6 f6.length c6] 26 (0, 0))) : W.cell? ⟨g, 0, none⟩ = some (.int .i64 f0) := (bc_ h 0).trans rfl
theorem IsS26.set_0 {w0 W : World} {g : Nat} {f0 : Int} {f1 : Int} {f2 : List Int} {f3 : List (S81)} {f4 : Int} {f5 : ByteArray} {f6 : List (S83)} (h : IsS26 w0 W g f0 f1 f2 f3 f4 f5 f6) (x : Int) : IsS26 w0 (W.setCell ⟨g, 0, none⟩ (.int .i64 x)) g x f1 f2 f3 f4 f5 f6 := by
 obtain ⟨A2, c2, A3, c3, A6, c6, hb, hg, hr2, hr3, hr6⟩ := h
 exact ⟨A2, c2, A3, c3, A6, c6, by simpa using blk_set hb 0 (.int .i64 x), hg, hr2, hr3, hr6⟩
theorem cellS26_1 {W : World} {g : Nat} {A2 : Option Addr} {c2 : Nat} {A3 : Option Addr} {c3 : Nat} {A6 : Option Addr} {c6 : Nat} {f0 : Int} {f1 : Int} {f2 : List Int} {f3 : List (S81)} {f4 : Int} {f5 : ByteArray} {f6 : List (S83)} (h : W.heap[g]? = some (.cells #[.int .i64 f0, .int .i64 f1, .slice A2 f2.length c2, .slice A3 f3.length c3, .int .i64 f4, .string f5, .slice A6 f6.length c6] 26 (0, 0))) : W.cell? ⟨g, 1, none⟩ = some (.int .i64 f1) := (bc_ h 1).trans rfl
theorem IsS26.set_1 {w0 W : World} {g : Nat} {f0 : Int} {f1 : Int} {f2 : List Int} {f3 : List (S81)} {f4 : Int} {f5 : ByteArray} {f6 : List (S83)} (h : IsS26 w0 W g f0 f1 f2 f3 f4 f5 f6) (x : Int) : IsS26 w0 (W.setCell ⟨g, 1, none⟩ (.int .i64 x)) g f0 x f2 f3 f4 f5 f6 := by
 obtain ⟨A2, c2, A3, c3, A6, c6, hb, hg, hr2, hr3, hr6⟩ := h
 exact ⟨A2, c2, A3, c3, A6, c6, by simpa using blk_set hb 1 (.int .i64 x), hg, hr2, hr3, hr6⟩
theorem cellS26_2 {W : World} {g : Nat} {A2 : Option Addr} {c2 : Nat} {A3 : Option Addr} {c3 : Nat} {A6 : Option Addr} {c6 : Nat} {f0 : Int} {f1 : Int} {f2 : List Int} {f3 : List (S81)} {f4 : Int} {f5 : ByteArray} {f6 : List (S83)} (h : W.heap[g]? = some (.cells #[.int .i64 f0, .int .i64 f1, .slice A2 f2.length c2, .slice A3 f3.length c3, .int .i64 f4, .string f5, .slice A6 f6.length c6] 26 (0, 0))) : W.cell? ⟨g, 2, none⟩ = some (.slice A2 f2.length c2) := (bc_ h 2).trans rfl
theorem cellS26_3 {W : World} {g : Nat} {A2 : Option Addr} {c2 : Nat} {A3 : Option Addr} {c3 : Nat} {A6 : Option Addr} {c6 : Nat} {f0 : Int} {f1 : Int} {f2 : List Int} {f3 : List (S81)} {f4 : Int} {f5 : ByteArray} {f6 : List (S83)} (h : W.heap[g]? = some (.cells #[.int .i64 f0, .int .i64 f1, .slice A2 f2.length c2, .slice A3 f3.length c3, .int .i64 f4, .string f5, .slice A6 f6.length c6] 26 (0, 0))) : W.cell? ⟨g, 3, none⟩ = some (.slice A3 f3.length c3) := (bc_ h 3).trans rfl
theorem cellS26_4 {W : World} {g : Nat} {A2 : Option Addr} {c2 : Nat} {A3 : Option Addr} {c3 : Nat} {A6 : Option Addr} {c6 : Nat} {f0 : Int} {f1 : Int} {f2 : List Int} {f3 : List (S81)} {f4 : Int} {f5 : ByteArray} {f6 : List (S83)} (h : W.heap[g]? = some (.cells #[.int .i64 f0, .int .i64 f1, .slice A2 f2.length c2, .slice A3 f3.length c3, .int .i64 f4, .string f5, .slice A6 f6.length c6] 26 (0, 0))) : W.cell? ⟨g, 4, none⟩ = some (.int .i64 f4) := (bc_ h 4).trans rfl
theorem IsS26.set_4 {w0 W : World} {g : Nat} {f0 : Int} {f1 : Int} {f2 : List Int} {f3 : List (S81)} {f4 : Int} {f5 : ByteArray} {f6 : List (S83)} (h : IsS26 w0 W g f0 f1 f2 f3 f4 f5 f6) (x : Int) : IsS26 w0 (W.setCell ⟨g, 4, none⟩ (.int .i64 x)) g f0 f1 f2 f3 x f5 f6 := by
 obtain ⟨A2, c2, A3, c3, A6, c6, hb, hg, hr2, hr3, hr6⟩ := h
 exact ⟨A2, c2, A3, c3, A6, c6, by simpa using blk_set hb 4 (.int .i64 x), hg, hr2, hr3, hr6⟩
theorem cellS26_5 {W : World} {g : Nat} {A2 : Option Addr} {c2 : Nat} {A3 : Option Addr} {c3 : Nat} {A6 : Option Addr} {c6 : Nat} {f0 : Int} {f1 : Int} {f2 : List Int} {f3 : List (S81)} {f4 : Int} {f5 : ByteArray} {f6 : List (S83)} (h : W.heap[g]? = some (.cells #[.int .i64 f0, .int .i64 f1, .slice A2 f2.length c2, .slice A3 f3.length c3, .int .i64 f4, .string f5, .slice A6 f6.length c6] 26 (0, 0))) : W.cell? ⟨g, 5, none⟩ = some (.string f5) := (bc_ h 5).trans rfl
theorem IsS26.set_5 {w0 W : World} {g : Nat} {f0 : Int} {f1 : Int} {f2 : List Int} {f3 : List (S81)} {f4 : Int} {f5 : ByteArray} {f6 : List (S83)} (h : IsS26 w0 W g f0 f1 f2 f3 f4 f5 f6) (x : ByteArray) : IsS26 w0 (W.setCell ⟨g, 5, none⟩ (.string x)) g f0 f1 f2 f3 f4 x f6 := by
 obtain ⟨A2, c2, A3, c3, A6, c6, hb, hg, hr2, hr3, hr6⟩ := h
 exact ⟨A2, c2, A3, c3, A6, c6, by simpa using blk_set hb 5 (.string x), hg, hr2, hr3, hr6⟩
theorem cellS26_6 {W : World} {g : Nat} {A2 : Option Addr} {c2 : Nat} {A3 : Option Addr} {c3 : Nat} {A6 : Option Addr} {c6 : Nat} {f0 : Int} {f1 : Int} {f2 : List Int} {f3 : List (S81)} {f4 : Int} {f5 : ByteArray} {f6 : List (S83)} (h : W.heap[g]? = some (.cells #[.int .i64 f0, .int .i64 f1, .slice A2 f2.length c2, .slice A3 f3.length c3, .int .i64 f4, .string f5, .slice A6 f6.length c6] 26 (0, 0))) : W.cell? ⟨g, 6, none⟩ = some (.slice A6 f6.length c6) := (bc_ h 6).trans rfl
theorem IsS26.new (w0 W : World) (A2 : Option Addr) (c2 : Nat) (A3 : Option Addr) (c3 : Nat) (A6 : Option Addr) (c6 : Nat) (f0 : Int) (f1 : Int) (f2 : List Int) (f3 : List (S81)) (f4 : Int) (f5 : ByteArray) (f6 : List (S83)) (hB : Below w0.heap.size w0 W) (hr2 : Kd.C (Kd.int .i64) w0 A2 f2.length f2) (hr3 : Kd.C k81 w0 A3 f3.length f3) (hr6 : Kd.C k83 w0 A6 f6.length f6) : IsS26 w0 (W.alloc (.cells #[.int .i64 f0, .int .i64 f1, .slice A2 f2.length c2, .slice A3 f3.length c3, .int .i64 f4, .string f5, .slice A6 f6.length c6] 26)) W.heap.size f0 f1 f2 f3 f4 f5 f6 := ⟨A2, c2, A3, c3, A6, c6, by simpa using heap_alloc_new W _, hB.size, hr2, hr3, hr6⟩

/-! ### conf_hosts: function 80 -/
-- BY HAND
theorem dropInt (l0 : List Int) (i : Int) (h0 : 0 ≤ i) (h1 : i < l0.length) : l0.drop i.toNat = rd l0 i :: l0.drop (i.toNat + 1) := by
 have h : i.toNat < l0.length := by omega
 rw [List.drop_eq_getElem_cons h]
 unfold rd
 rw [List.getD_eq_getElem?_getD, List.getElem?_eq_getElem h]
 rfl
set_option maxHeartbeats 8000000 in
set_option maxRecDepth 100000 in
theorem conf_hosts.calls (g : Nat) (a b : Int) (A0 : Option Addr) (c0 : Nat) (l0 : List Int) (n : Int) (w : World) (ha : w.cell? ⟨g, 0, none⟩ = some (.int .i64 a)) (hb : w.cell? ⟨g, 1, none⟩ = some (.int .i64 b)) (h2 : 2 ≤ a ∧ b ≤ 254) (hr0 : Kd.C (Kd.int .i64) w A0 l0.length l0) (hs : l0.length ≤ 140737488351232) :
  Calls Tryz.prog 80 #[.pointer (some ⟨g, 0, none⟩), .slice A0 l0.length c0, .int .i64 n] w fun e w' => e = .returned (.bool (hostsB a b l0 n)) ∧ Below w.heap.size w w' := by
 have HR0 := am_ hr0
 have HA := am_ ha
 have HB1 := am_ hb
 have e4 := goHosts_nil a b l0 n
 replace e4 := am_ e4
 obtain ⟨r, hr⟩ : ∃ r, hostsB a b l0 n = r := ⟨_, rfl⟩
 rw [hr] at e4 ⊢
 clear hr0 ha hb hr
 have hmm := @run_makeMap Tryz.prog
 go_enter Tryz.func80, Tryz.ntmps80
 go_wp2
 clear hmm
 go_loopg [13] l0.length (fun d v9 w' => ∃ (i : Int) (cs : List Int), 0 ≤ i ∧ i.toNat + d = l0.length ∧ v9 = .int .i64 i ∧ Aside0 (w'.ownsMap Tryz.prog 3 (plainElem (H := Unit) Tryz.prog 4) w.heap.size i.toNat (mapD (.int .i64) cs)) ∧ Aside0 (Below w.heap.size w w') ∧ Aside0 (goHosts a b [] l0 = goHosts a b cs (l0.drop i.toNat)))
 case atStart => exact ⟨0, [], by omega, by simp, rfl, ⟨World.ownsMap_made _ _ _ _⟩, ⟨(Below.refl _ _).alloc (Nat.le_refl _) _⟩, ⟨rfl⟩⟩
 case round =>
  obtain ⟨i, cs, hi0, hd, rfl, HM, HB, HS⟩ := hrel
  have ha := (HB.out.cell (wb_ w _ HA.out)).trans HA.out
  have hb := (HB.out.cell (wb_ w _ HB1.out)).trans HB1.out
  by_cases hlt : i < (l0.length : Int)
  ·obtain ⟨ad, e1, hx0⟩ := Kd.at_int HR0.out i hi0 hlt
   cases e1
   replace hx0 := (HB.out.cell (wb_ w _ hx0)).trans hx0
   have HD := HS.out
   rw [dropInt l0 i hi0 hlt] at HD
   clear HS
   generalize rd l0 i = x at hx0 HD
   replace HD := am_ HD
   have fin : ¬ (a ≤ x ∧ x ≤ b ∧ x ∉ cs) → false = r := fun e => by
    rw [← e4.out, HD.out]
    unfold goHosts
    rw [if_neg e]
    rfl
   replace fin := am_ fin
   by_cases q1 : x < a
   ·go_wp2
    go_ret
    exact ⟨ret_bool (fin.out (by omega)), HB.out⟩
   by_cases q2 : b < x
   ·go_wp2
    go_ret
    exact ⟨ret_bool (fin.out (by omega)), HB.out⟩
   have hkey := Maps.keyOf_int_mk Tryz.underlying3 (a := x) (WalkArith.wf_i64 (by omega))
   have hlook := setLook (.int .i64) (fun _ => trivial) (fun _ _ e => by injection e) (Maps.int_keyed Tryz.underlying3) Tryz.underlying110 Tryz.underlying4 (by kernel_rfl) HM.out hkey (b3 := decide (x ∈ cs)) decide_eq_true_iff
   by_cases q3 : x ∈ cs
   ·rw [decide_eq_true q3] at hlook
    go_wp2
    go_ret
    exact ⟨ret_bool (fin.out (fun e => e.2.2 q3)), HB.out⟩
   rw [decide_eq_false q3] at hlook
   have HN := am_ (show goHosts a b [] l0 = goHosts a b (cs ++ [x]) (l0.drop (i.toNat + 1)) by
    rw [HD.out]
    conv => lhs; unfold goHosts
    rw [if_pos ⟨by omega, by omega, q3⟩])
   clear fin HD
   have hown := HM.out
   go_wp2_with (first
    | (at_mapUpdate; refine wpList_mapUpdate_own _ rfl _ _ _ 110 rfl 3 4 (Maps.int_keyed Tryz.underlying3) Tryz.underlying110 _ w.heap.size i.toNat _ rfl hown (by unfold maxLen; omega) _ _ _ rfl rfl hkey _ [] (plainElem_bool Tryz.underlying4 true) ?_; intro w1 hown1 hgrow1)
    | go_in)
   go_roundg (l0.length - (i.toNat + 1))
   case measure => first | omega | (simp; omega)
   case rel =>
    have e2 : (i + 1).toNat = i.toNat + 1 := by omega
    refine ⟨i + 1, cs ++ [x], by omega, by omega, by go_num, ⟨?_⟩, ⟨?_⟩, ⟨?_⟩⟩
    ·rw [mapD_snoc, e2]
     exact hown1
    ·exact HB.out.grown hgrow1 HB.out.size (fun j hj => by cases hj; exact Nat.le_refl _)
    ·rw [e2]
     exact HN.out
  ·have e3 : l0.drop i.toNat = [] := List.drop_eq_nil_of_le (by omega)
   have HE := am_ (show goHosts a b [] l0 = true by rw [HS.out, e3]; rfl)
   clear HS
   go_wp2
   go_ret
   refine ⟨ret_bool ?_, HB.out⟩
   rw [← e4.out, HE.out, Bool.true_and]

/-! ### ident_May: function 62 -/
def ident_May.f (a0 : ByteArray) : Option (Bool) := if (a0.size : Int) ≥ 1 then (some (decide ((a0.size : Int) ≤ 16))) else (some false)
set_option maxHeartbeats 8000000 in
set_option maxRecDepth 100000 in
theorem ident_May.calls (a0 : ByteArray) (r : Bool) (w : World) (h : ident_May.f a0 = some r) :
  Calls Tryz.prog 62 #[.string a0] w fun e w' => e = .returned (.bool r) ∧ Drawn0 w w' := by
 have H : (if (a0.size : Int) ≥ 1 then (some (decide ((a0.size : Int) ≤ 16))) else (some false)) = some r := h
 clear h
 by_cases c2 : (a0.size : Int) ≥ 1
 ·rw [if_pos c2] at H
  have c2b0 : decide (1 ≤ (a0.size : Int)) = true := decide_eq_true c2
  have c2b1 : decide (1 ≤ a0.size) = true := decide_eq_true (by omega)
  clear c2
  obtain rfl := e5_ H
  go_enter Tryz.func62, Tryz.ntmps62
  go_wp2
  go_ret
  exact ⟨by first | rfl | (simp; done) | (simp [*]; done), by repeat (first | exact Drawn0.refl _ | apply Drawn0.step)⟩
 rw [if_neg c2] at H
 have c2b0 : decide (1 ≤ (a0.size : Int)) = false := decide_eq_false c2
 have c2b1 : decide (1 ≤ a0.size) = false := decide_eq_false (by omega)
 clear c2
 obtain rfl := e5_ H
 go_enter Tryz.func62, Tryz.ntmps62
 go_wp2
 go_ret
 exact ⟨by first | rfl | (simp; done) | (simp [*]; done), by repeat (first | exact Drawn0.refl _ | apply Drawn0.step)⟩

/-! ### ident_May_c: function 62 -/
def ident_May_c.f (a0 : ByteArray) : Option Bool := some (clientB a0)
theorem ident_May_c.calls (a0 : ByteArray) (r : Bool) (w : World) (h : ident_May_c.f a0 = some r) :
  Calls Tryz.prog 62 #[.string a0] w fun e w' => e = .returned (.bool r) ∧ Drawn0 w w' := by
 refine ident_May.calls a0 r w ?_
 rw [← h]
 unfold ident_May.f ident_May_c.f clientB
 by_cases q : (a0.size : Int) ≥ 1
 ·rw [if_pos q]
  congr 1
  rw [Bool.eq_iff_iff, decide_eq_true_eq, decide_eq_true_eq]
  omega
 ·rw [if_neg q]
  congr 1
  symm
  rw [decide_eq_false_iff_not]
  omega

end Go.Proofs.YtdhckibkljafgaaGreatDoor.PI
