/- What an argument reads as, told by the print's kinds: for any program, any type of whole numbers, bools, strings, structs of one-cell fields and slices of such. No condition. -/
import Derived.Test.YtibmakpghbinbaaVQ
import Derived.Deep.Slices
import Derived.Deep.Fields
import Derived.ChangeSame
import Derived.SizedLaws
namespace Go.Proofs.Ytibmakpghbinbaa.Opening
open Go.ChangeShapes Go.WideShapes Go.Deep Go.Proofs.YtibmakpghbinbaaW.PrintWords

/-- What is known of a datum's size. -/
structure Fits (P : Program) where
  F : ∀ {H : Type}, TypeId → DataW H → Prop
  S : Nat
  L : TypeId → Nat → Prop
  str : ∀ {H : Type} {t : TypeId} {l : List UInt8}, F (H := H) t (.lit (.string l)) → l.length ≤ S
  none_ : ∀ e, L e 0
  sl : ∀ {H : Type} {t e : TypeId} {es sp : List (DataW H)}, P.underlying t = some (.slice e) → F t (.slice es sp) → L e es.length ∧ ∀ d ∈ es, F e d
  ag : ∀ {H : Type} {t : TypeId} {fs : Array Field} {ps : List (DataW H)}, P.underlying t = some (.struct fs) → F t (.agg ps) → ∀ (i : Nat) (f : Field) (p : DataW H), fs[i]? = some f → ps[i]? = some p → F f.type p

/-- Whatever reads as data at this type is of this kind, and what is said of it holds. -/
def Opens {α : Type} {P : Program} (Z : Fits P) (t : TypeId) (d : Kd α) (Q : α → Prop) : Prop :=
  ∀ {H : Type} {enc : TypeId × Value → H} {w : World} {base : Nat} {spare : Nat → Bool} {held : Bool} {fuel : Nat} {cs : List Value} {x : DataW H × List MemPlace},
    DataW.trod enc P w base spare held fuel t cs = some x → Z.F t x.1 → ∃ a, d.K w a cs ∧ Q a

theorem Opens.int {P : Program} {Z : Fits P} {t : TypeId} {k : IntKind} (hu : P.underlying t = some (.int k)) : Opens Z t (Kd.int k) (fun n => (Lit.int k n).wf = true) := by
  intro H enc w base spare held fuel cs x h _
  obtain ⟨n, rfl, rfl, hw⟩ := DataW.trod_int hu h
  exact ⟨n, rfl, hw⟩
theorem Opens.bool {P : Program} {Z : Fits P} {t : TypeId} (hu : P.underlying t = some .bool) : Opens Z t Kd.bool (fun _ => True) := by
  intro H enc w base spare held fuel cs x h _
  obtain ⟨b, rfl, rfl⟩ := DataW.trod_bool hu h
  exact ⟨b, rfl, trivial⟩
theorem Opens.string {P : Program} {Z : Fits P} {t : TypeId} (hu : P.underlying t = some .string) : Opens Z t Kd.string (fun s => s.size ≤ Z.S) := by
  intro H enc w base spare held fuel cs x h hw
  obtain ⟨s, rfl, rfl, _⟩ := DataW.trod_string hu h
  refine ⟨s, rfl, ?_⟩
  have := Z.str hw
  rwa [Array.length_toList] at this

/-- A row of fields, a cell each. -/
def OpensC {α : Type} {P : Program} (Z : Fits P) (fs : List Field) (d : Kd α) (Q : α → Prop) : Prop :=
  ∀ {H : Type} {enc : TypeId × Value → H} {w : World} {base : Nat} {spare : Nat → Bool} {held : Bool} {n : Nat} (vs : List Value) (ys : List (DataW H × List MemPlace)),
    vs.length = fs.length → ys.length = fs.length → (∀ (i : Nat) (f : Field) (v : Value), fs[i]? = some f → vs[i]? = some v → DataW.trod enc P w base spare held n f.type [v] = ys[i]?) →
    (∀ (i : Nat) (f : Field) (p : DataW H), fs[i]? = some f → (ys.map (·.1))[i]? = some p → Z.F f.type p) → ∃ a, d.K w a vs ∧ Q a
theorem OpensC.one {α : Type} {P : Program} {Z : Fits P} {f : Field} {d : Kd α} {Q : α → Prop} (h : Opens Z f.type d Q) : OpensC Z [f] d Q := by
  intro H enc w base spare held n vs ys hv hy ht hw
  match vs, ys, hv, hy with
  | [v], [y], _, _ =>
    have h0 := ht 0 f v rfl rfl
    exact h h0 (hw 0 f y.1 rfl rfl)
theorem OpensC.cons {α β : Type} {P : Program} {Z : Fits P} {f : Field} {fs : List Field} {d : Kd α} {e : Kd β} {Q : α → Prop} {R : β → Prop} (h : Opens Z f.type d Q) (k : OpensC Z fs e R) : OpensC Z (f :: fs) (Kd.pair d e) (fun p => Q p.1 ∧ R p.2) := by
  intro H enc w base spare held n vs ys hv hy ht hw
  match vs, ys, hv, hy with
  | v :: vs, y :: ys, hv, hy =>
    have h0 := ht 0 f v rfl rfl
    obtain ⟨a, ha, hQ⟩ := h h0 (hw 0 f y.1 rfl rfl)
    obtain ⟨b, hb, hR⟩ := k vs ys (by simpa using hv) (by simpa using hy) (fun i f' v' hf' hv' => by
      have := ht (i + 1) f' v' (by simpa using hf') (by simpa using hv')
      simpa using this) (fun i f' p hf' hp => hw (i + 1) f' p (by simpa using hf') (by simpa using hp))
    exact ⟨(a, b), ⟨[v], vs, rfl, ha, hb⟩, hQ, hR⟩
theorem Opens.struct {α β : Type} {P : Program} {Z : Fits P} {t : TypeId} {fs : Array Field} {d : Kd α} {Q : α → Prop} (hs : P.underlying t = some (.struct fs)) (hone : oneCellFields P fs = true) (hC : P.cellsOf t = fs.size) (k : OpensC Z fs.toList d Q)
    (f : β → α) (g : α → β) (hfg : ∀ a, f (g a) = a) : Opens Z t (Kd.iso d f) (fun b => Q (f b)) := by
  intro H enc w base spare held fuel cs x h hw
  obtain ⟨ys, n, rfl, rfl, hl, hyl, hf⟩ := DataW.trod_struct hs h
  obtain ⟨a, ha, hQ⟩ := k (n := n) cs ys (by rw [hl, hC, Array.length_toList]) (by rw [hyl, Array.length_toList]) (fun i f' v hf' hv => by
    have hf2 : fs[i]? = some f' := by rw [← Array.getElem?_toList]; exact hf'
    obtain ⟨ho, hk⟩ := hone_of hone i f' hf2
    have := hf i f' hf2
    rw [ho, hk] at this
    have hil : i < cs.length := (List.getElem?_eq_some_iff.1 hv).1
    rw [List.drop_eq_getElem_cons hil, List.take_succ_cons, List.take_zero] at this
    rw [(List.getElem?_eq_some_iff.1 hv).2] at this
    exact this) (fun i f' p hf' hp => Z.ag hs hw i f' p (by rw [← Array.getElem?_toList]; exact hf') hp)
  refine ⟨g a, ?_, ?_⟩
  · show d.K w (f (g a)) cs
    rw [hfg]
    exact ha
  · show Q (f (g a))
    rw [hfg]
    exact hQ
theorem Opens.slice {α : Type} (z : α) {P : Program} {Z : Fits P} {t e : TypeId} {d : Kd α} {Q : α → Prop} (hu : P.underlying t = some (.slice e)) (ho : Opens Z e d Q) (hsz : P.cellsOf e = d.sz) :
    Opens Z t (Kd.slice e d) (fun xs => Z.L e xs.length ∧ ∀ x ∈ xs, Q x) := by
  intro H enc w base spare held fuel cs x h hw
  rcases open_slice hu h with ⟨rfl, rfl⟩ | ⟨a, len, cap, m, n, D, Pl, rfl, hb, hl, hm, hmm, rfl, hel⟩
  · exact ⟨[], ⟨none, 0, rfl, Nat.le_refl _, Kd.C_nil _ _⟩, Z.none_ e, fun x hx => by cases hx⟩
  · obtain ⟨hL, hE⟩ := Z.sl hu hw
    have hlm : len ≤ m := by rw [hmm]; split <;> omega
    obtain ⟨X, hX⟩ := @choose_lt α ⟨z⟩ len (fun i x => (∃ c, w.cells? base (a.add (i * P.cellsOf e)) (P.cellsOf e) = some c ∧ d.K w x c) ∧ Q x) (fun i hi => by
      obtain ⟨c, hc, ht⟩ := hel i (by omega)
      obtain ⟨x, hx, hq⟩ := ho ht (hE (D i) (List.mem_map.2 ⟨i, List.mem_range.2 hi, rfl⟩))
      exact ⟨x, ⟨c, hc, hx⟩, hq⟩)
    have hll : ((List.range len).map X).length = len := by simp
    refine ⟨(List.range len).map X, ⟨some a, cap, by rw [hll], by rw [hll]; exact hl, ?_⟩, ?_, ?_⟩
    · rw [hll]
      refine ⟨hll, by unfold maxLen at hm; omega, fun _ => ⟨a, rfl, fun j p hp => ?_⟩⟩
      have hj : j < len := by
        have := (List.getElem?_eq_some_iff.1 hp).1
        rw [hll] at this
        exact this
      have hpj : X j = p := by
        rw [List.getElem?_map, List.getElem?_range hj] at hp
        simpa using hp
      obtain ⟨⟨c, hc, hk⟩, _⟩ := hX j hj
      obtain ⟨_, hcl, hat⟩ := World.cells?_some hc
      refine ⟨c, by rw [hcl, hsz], by rw [← hpj]; exact hk, fun i u hi => ?_⟩
      have hil : i < P.cellsOf e := by rw [← hcl]; exact (List.getElem?_eq_some_iff.1 hi).1
      rw [← hsz, ← Go.Deep.add_add, hat i hil, hi]
    · rw [hll]
      have hL2 := hL
      rw [List.length_map, List.length_range] at hL2
      exact hL2
    · intro x hx
      obtain ⟨i, hi, rfl⟩ := List.mem_map.1 hx
      exact (hX i (List.mem_range.1 hi)).2

/-- The form's own reach. -/
theorem mem_weightsAll {H : Type} {P : Program} {e : TypeId} : ∀ {l : List (DataW H)} {d : DataW H}, d ∈ l → ∀ n ∈ d.weights P e, n ∈ DataW.weightsAll P e l
  | d0 :: l, d, hd, n, hn => by
    rw [DataW.weightsAll, List.mem_append]
    rcases List.mem_cons.1 hd with rfl | hd
    · exact .inl hn
    · exact .inr (mem_weightsAll hd n hn)
def reach (P : Program) : Fits P where
  F := fun t d => ∀ n ∈ d.weights P t, n ≤ 140737488351232
  S := 140737488351232
  L := fun e n => n * P.bytesOf e ≤ 140737488351232
  str := fun h => h _ (by simp [DataW.weights])
  none_ := fun e => by simp
  sl := fun {H t e es sp} hu h => by
    simp only [DataW.weights, hu] at h
    refine ⟨?_, fun d hd n hn => h n (List.mem_cons_of_mem _ (List.mem_append_left _ (mem_weightsAll hd n hn)))⟩
    exact Nat.le_trans (Nat.mul_le_mul_right _ (Nat.le_add_right _ _)) (h _ (List.mem_cons_self ..))
  ag := fun {H t fs ps} hu h i f p hf hp n hn => by
    simp only [DataW.weights, hu] at h
    exact h n (DataW.weights_mem_each (t := f.type) (by rw [List.getElem?_map, Array.getElem?_toList, hf]; rfl) hp n hn)
theorem reach_of {H : Type} {P : Program} {ts : List TypeId} {ds : List (DataW H)} (h : (DataW.weightsEach P ts ds).all (· ≤ reachBytes) = true) {j : Nat} {t : TypeId} {d : DataW H} (ht : ts[j]? = some t) (hd : ds[j]? = some d) : (reach P).F t d := fun n hn => by
  have h1 := List.all_eq_true.1 h _ (DataW.weights_mem_each ht hd n hn)
  have h2 : n ≤ reachBytes := by simpa using h1
  exact h2
end Go.Proofs.Ytibmakpghbinbaa.Opening
