/- SweepPick: a sweep takes nothing from anybody: who has a host open has it open behind it, too. No condition. -/
import Derived.Test.YtibmakpghbinbaaPSx9
namespace Go.Proofs.Ytibmakpghbinbaa.Pure
open Go.RowKit Go.Proofs.Ytibmakpghbinbaa.PS Go.Proofs.YtibmakpghbinbaaW.PrintWords Go.Proofs.YtibmakpghbinbaaW.PrintLast
set_option linter.unusedSimpArgs false
set_option linter.unusedVariables false

section
variable {a0 a1 : Int} {l2 : List Int} {l3 : List S118} {a4 : Int} {z : ByteArray} {l6 : List S139} {ls : List S37} {now : Int} {c : ByteArray} {g : S37 → S37}
/-- a change of leases that leaves the host, the client, the time and the live ones. -/
structure Calm (now : Int) (g : S37 → S37) : Prop where
  host : ∀ x, (g x).f0 = x.f0
  client : ∀ x, (g x).f2 = x.f2
  til : ∀ x, (g x).f3 = x.f3
  live : ∀ x, liveX now (g x) = liveX now x
  same : ∀ x, liveX now x = true → g x = x
theorem calm_find (hg : Calm now g) (h : Int) : findL (ls.map g) h = (findL ls h).map g := by
  unfold findL
  rw [List.find?_map]
  congr 1
  congr 1
  funext x
  show ((g x).f0 == h) = _
  rw [hg.host]
theorem holds_live {x : S37} (h : holdsX c now x = true) : liveX now x = true := by
  unfold holdsX holdsB at h
  rw [Bool.and_eq_true] at h
  exact h.1
theorem calm_holds (hg : Calm now g) (x : S37) : holdsX c now (g x) = holdsX c now x := by
  by_cases h : liveX now x = true
  · rw [hg.same x h]
  · have e1 : holdsX c now x = false := by
      cases e : holdsX c now x with
      | false => rfl
      | true => exact absurd (holds_live e) h
    have e2 : holdsX c now (g x) = false := by
      cases e : holdsX c now (g x) with
      | false => rfl
      | true => exact absurd (by rw [← hg.live x]; exact holds_live e) h
    rw [e1, e2]
theorem calm_free (hg : Calm now g) (h : Int) : freeX c now (findL (ls.map g) h) = freeX c now (findL ls h) := by
  rw [calm_find hg]
  cases findL ls h with
  | none => rfl
  | some x =>
    show (!liveX now (g x) || holdsX c now (g x)) = (!liveX now x || holdsX c now x)
    rw [hg.live, calm_holds hg]
theorem calm_open (hg : Calm now g) (h : Int) : openB a0 a1 l2 l3 a4 z l6 (ls.map g) now c h = openB a0 a1 l2 l3 a4 z l6 ls now c h := by
  unfold openB
  rw [calm_free hg]
theorem calm_of (hg : Calm now g) (ht : tableB (ls.map g) = tableB ls) : ofL (ls.map g) c now = ofL ls c now := by
  unfold ofL
  rw [ht]
  by_cases h : tableB ls = true
  · rw [if_pos h, if_pos h, List.find?_map]
    have e : (holdsX c now ∘ g) = holdsX c now := funext fun x => calm_holds hg x
    rw [e]
    cases hf : ls.find? (holdsX c now) with
    | none => rfl
    | some x =>
      show some (g x) = some x
      rw [hg.same x (holds_live (List.find?_some hf))]
  · rw [if_neg h, if_neg h]
theorem calm_go (hg : Calm now g) : ∀ (O : List Int) (best til : Int), refGo (ls.map g) best til O = refGo ls best til O
  | [], best, til => rfl
  | h :: r, best, til => by
    have e := calm_find (ls := ls) hg h
    cases hf : findL ls h with
    | none =>
      rw [hf] at e
      simp only [refGo, e, hf, Option.map_none]
    | some x =>
      rw [hf] at e
      simp only [refGo, e, hf, Option.map_some, hg.til, calm_go hg r]
theorem calm_pick (hg : Calm now g) (ht : tableB (ls.map g) = tableB ls) (wanted : Int) : refPickP a0 a1 l2 l3 a4 z l6 (ls.map g) now c wanted = refPickP a0 a1 l2 l3 a4 z l6 ls now c wanted := by
  have ho : openB a0 a1 l2 l3 a4 z l6 (ls.map g) now c = openB a0 a1 l2 l3 a4 z l6 ls now c := funext fun h => calm_open hg h
  have hh : (hadC a0 a1 l2 l3 a4 z l6 (ls.map g) now c ∘ g) = hadC a0 a1 l2 l3 a4 z l6 ls now c := by
    funext x
    show ((!liveX now (g x) && decide ((g x).f2.toList = c.toList)) && openB a0 a1 l2 l3 a4 z l6 (ls.map g) now c (g x).f0) = ((!liveX now x && decide (x.f2.toList = c.toList)) && openB a0 a1 l2 l3 a4 z l6 ls now c x.f0)
    rw [hg.live, hg.client, hg.host, calm_open hg]
  have he : refEnd a0 a1 l2 l3 a4 z l6 (ls.map g) now c ((ls.map g).find? (hadC a0 a1 l2 l3 a4 z l6 (ls.map g) now c)) = refEnd a0 a1 l2 l3 a4 z l6 ls now c (ls.find? (hadC a0 a1 l2 l3 a4 z l6 ls now c)) := by
    rw [List.find?_map, hh]
    unfold refEnd
    rw [ho]
    cases ls.find? (hadC a0 a1 l2 l3 a4 z l6 ls now c) with
    | none =>
      show refGo (ls.map g) 0 0 _ = refGo ls 0 0 _
      rw [calm_go hg]
    | some x =>
      show ((g x).f0, (0 : Int)) = (x.f0, 0)
      rw [hg.host]
  unfold refPickP
  rw [calm_of hg ht, ho, he]
theorem calm_may (ht : tableB (ls.map g) = tableB ls) : pickMayB a0 a1 l2 l3 a4 z l6 (ls.map g) now c = pickMayB a0 a1 l2 l3 a4 z l6 ls now c := by
  unfold pickMayB
  rw [ht]
end
/-- what a host's lease becomes. -/
def thenL (p : S37 → Bool) (ls : List S37) (host : Int) (t : S37) : S37 := match findL ls host with
  | some x => if p x = true then ⟨host, t.f1, t.f2, t.f3, t.f4, t.f5⟩ else x
  | none => z37
def swapL (ls : List S37) (host : Int) (y : S37) : List S37 := ls.map fun x => if x.f0 = host then y else x
/-- a lease in its place. -/
def putGo (x : S37) : Bool → List S37 → List S37
  | d, [] => if d = true then [] else [x]
  | d, y :: r => (if d = false ∧ y.f0 ≥ x.f0 then [x] else []) ++ ((if y.f0 = x.f0 then [] else [y]) ++ putGo x (d || decide (y.f0 ≥ x.f0)) r)
def putL (l : List S37) (x : S37) : List S37 := putGo x false l
theorem goTab_sorted : ∀ (l : List S37) (p : Option Int), goTab p l = true → (∀ x ∈ l, leaseOk x = true) ∧ l.Pairwise (fun a b => a.f0 < b.f0) ∧ ∀ q, p = some q → ∀ x ∈ l, q < x.f0
  | [], p, _ => ⟨fun _ h => by simp at h, List.Pairwise.nil, fun _ _ _ h => by simp at h⟩
  | x :: r, p, h => by
    unfold goTab at h
    rw [Bool.and_eq_true, Bool.and_eq_true] at h
    obtain ⟨h1, h2, h3⟩ := h
    obtain ⟨i1, i2, i3⟩ := goTab_sorted r (some x.f0) h3
    have i4 := i3 x.f0 rfl
    refine ⟨fun y hy => ?_, List.pairwise_cons.2 ⟨i4, i2⟩, fun q hq y hy => ?_⟩
    · rcases List.mem_cons.1 hy with e | hy
      · rw [e]
        exact h1
      · exact i1 y hy
    · subst hq
      have hx : q < x.f0 := of_decide_eq_true h2
      rcases List.mem_cons.1 hy with e | hy
      · rw [e]
        exact hx
      · have := i4 y hy
        omega
theorem table_sorted {l : List S37} (h : tableB l = true) : (∀ x ∈ l, leaseOk x = true) ∧ l.Pairwise (fun a b => a.f0 < b.f0) ∧ l.length ≤ 8 := by
  unfold tableB at h
  rw [Bool.and_eq_true, decide_eq_true_eq] at h
  exact ⟨(goTab_sorted l none h.1).1, (goTab_sorted l none h.1).2.1, h.2⟩
/-- hosts stand once. -/
theorem host_once : ∀ {l : List S37}, l.Pairwise (fun a b => a.f0 < b.f0) → ∀ x ∈ l, ∀ y ∈ l, x.f0 = y.f0 → x = y
  | [], _, x, hx, _, _, _ => by simp at hx
  | a :: r, h, x, hx, y, hy, e => by
    obtain ⟨h1, h2⟩ := List.pairwise_cons.1 h
    rcases List.mem_cons.1 hx with hx1 | hx1
    · rcases List.mem_cons.1 hy with hy1 | hy1
      · rw [hx1, hy1]
      · have := h1 y hy1
        rw [hx1] at e
        omega
    · rcases List.mem_cons.1 hy with hy1 | hy1
      · have := h1 x hx1
        rw [hy1] at e
        omega
      · exact host_once h2 x hx1 y hy1 e
theorem put_done : ∀ (l : List S37) (y : S37), (∀ x ∈ l, x.f0 ≠ y.f0) → putGo y true l = l
  | [], y, _ => rfl
  | x :: r, y, h => by
    unfold putGo
    rw [if_neg (by simp), if_neg (h x List.mem_cons_self), Bool.true_or, put_done r y (fun z hz => h z (List.mem_cons_of_mem _ hz))]
    rfl
/-- a lease in the place of another one of the same host. -/
theorem put_swap : ∀ (l : List S37) (y : S37), l.Pairwise (fun a b => a.f0 < b.f0) → (∃ x ∈ l, x.f0 = y.f0) → putGo y false l = swapL l y.f0 y
  | [], y, _, ⟨x, hx, _⟩ => by simp at hx
  | x :: r, y, h, ⟨x', hx', e'⟩ => by
    obtain ⟨h1, h2⟩ := List.pairwise_cons.1 h
    unfold putGo swapL
    rw [List.map_cons]
    by_cases q : x.f0 = y.f0
    · rw [if_pos ⟨rfl, by omega⟩, if_pos q, if_pos q, decide_eq_true (by omega), Bool.or_true]
      have hr : ∀ z ∈ r, z.f0 ≠ y.f0 := fun z hz => by have := h1 z hz; omega
      rw [put_done r y hr]
      have hm : r.map (fun x => if x.f0 = y.f0 then y else x) = r := (List.map_congr_left (g := id) (fun z hz => if_neg (hr z hz)) : r.map (fun x => if x.f0 = y.f0 then y else x) = r.map id).trans (List.map_id r)
      rw [hm]
      rfl
    · have hr : x' ∈ r := by
        rcases List.mem_cons.1 hx' with e | e
        · rw [e] at e'
          exact absurd e' q
        · exact e
      have hlt := h1 x' hr
      rw [if_neg (by omega), if_neg q, if_neg q, decide_eq_false (by omega), Bool.or_false, put_swap r y h2 ⟨x', hr, e'⟩]
      rfl
theorem swap_id (l : List S37) (host : Int) (y : S37) (h : ∀ x ∈ l, x.f0 = host → x = y) : swapL l host y = l := by
  have hm : l.map (fun x => if x.f0 = host then y else x) = l.map id := List.map_congr_left (fun z hz => by
    by_cases e : z.f0 = host
    · rw [if_pos e, h z hz e]
      rfl
    · rw [if_neg e]
      rfl)
  exact hm.trans (List.map_id l)
theorem find_some {l : List S37} {h : Int} {x : S37} (e : findL l h = some x) : x ∈ l ∧ x.f0 = h := by
  unfold findL at e
  refine ⟨List.mem_of_find?_eq_some e, ?_⟩
  have := List.find?_some e
  simpa using this
theorem find_none {l : List S37} {h : Int} (e : findL l h = none) : ∀ x ∈ l, x.f0 ≠ h := fun x hx => by
  unfold findL at e
  have := List.find?_eq_none.1 e x hx
  simpa using this
/-- a lease that is swept. -/
def sweptX (now : Int) (x : S37) : S37 := if liveX now x = true then x else ⟨x.f0, 0, x.f2, x.f3, ⟨#[]⟩, false⟩
theorem swept_dead (now : Int) (x : S37) : liveX now (⟨x.f0, 0, x.f2, x.f3, ⟨#[]⟩, false⟩ : S37) = false := by
  show liveB x.f0 0 x.f2 x.f3 ⟨#[]⟩ false now = false
  unfold liveB
  rw [show decide ((0 : Int) ≠ 0) = false from rfl, Bool.and_false, Bool.false_and]
theorem swept_calm (now : Int) : Calm now (sweptX now) where
  host x := by unfold sweptX; split <;> rfl
  client x := by unfold sweptX; split <;> rfl
  til x := by unfold sweptX; split <;> rfl
  live x := by
    unfold sweptX
    by_cases h : liveX now x = true
    · rw [if_pos h]
    · rw [if_neg h, swept_dead]
      simpa using h
  same x h := by unfold sweptX; rw [if_pos h]
theorem swept_ok (now : Int) {x : S37} (h : leaseOk x = true) : leaseOk (sweptX now x) = true := by
  unfold sweptX
  split
  · exact h
  · have h1 : leaseB x.f0 x.f1 x.f2 x.f3 x.f4 x.f5 = true := h
    show leaseB x.f0 0 x.f2 x.f3 ⟨#[]⟩ false = true
    unfold leaseB at h1 ⊢
    simp only [Bool.and_eq_true, decide_eq_true_eq] at h1
    rw [decide_eq_true h1.1.1.1.1, decide_eq_true h1.1.1.2, decide_eq_true h1.1.2]
    have e1 : stateB 0 x.f2 (⟨#[]⟩ : ByteArray) false = true := by
      unfold stateB
      rw [if_pos (.inl rfl)]
      kernel_rfl
    have e2 : nameB (bytesOf (⟨#[]⟩ : ByteArray)) = true := by kernel_rfl
    rw [e1, e2]
    rfl
theorem swept_go (now : Int) : ∀ (l : List S37) (p : Option Int), goTab p l = true → goTab p (l.map (sweptX now)) = true
  | [], p, h => h
  | x :: r, p, h => by
    unfold goTab at h
    rw [Bool.and_eq_true, Bool.and_eq_true] at h
    obtain ⟨h1, h2, h3⟩ := h
    rw [List.map_cons]
    unfold goTab
    rw [swept_ok now h1, (swept_calm now).host x, h2, swept_go now r (some x.f0) h3]
    rfl
theorem swept_table (now : Int) {ls : List S37} (h : tableB ls = true) : tableB (ls.map (sweptX now)) = true := by
  unfold tableB at h ⊢
  rw [Bool.and_eq_true, decide_eq_true_eq] at h
  rw [swept_go now ls none h.1, List.length_map, decide_eq_true h.2]
  rfl
theorem sweep_l0 (ls : List S37) (h8 : ls.length ≤ 8) (hs : ∀ x ∈ ls, x.f4.size ≤ 140737488351232) (now : Int) : ∀ (d k i : Nat) (acc : List S37), i + d = ls.length → d + 1 ≤ k → acc.length ≤ i → sweep_Sweep.l0 k now acc ls (ls.length : Int) (i : Int) = some (acc ++ (ls.drop i).map (sweptX now), 0)
  | 0, k, i, acc, hi, hk, ha => by
    obtain ⟨k, rfl⟩ : ∃ j, k = j + 1 := ⟨k - 1, by omega⟩
    rw [List.drop_eq_nil_of_le (by omega), sweep_Sweep.l0, if_neg (by omega)]
    simp
  | d + 1, k, i, acc, hi, hk, ha => by
    obtain ⟨k, rfl⟩ : ∃ j, k = j + 1 := ⟨k - 1, by omega⟩
    have hlt : i < ls.length := by omega
    have hsz := hs ls[i] (List.getElem_mem hlt)
    have ih := fun (y : S37) => sweep_l0 ls h8 hs now d k (i + 1) (acc ++ [y]) (by omega) (by omega) (by rw [List.length_append, List.length_singleton]; omega)
    rw [sweep_Sweep.l0, if_pos (by omega), if_pos (by omega), if_pos (by omega), wrap_succ i ls.length hlt (by omega), rdLease_get ls i hlt]
    unfold lease_Live.f lease_Freed.f
    rw [if_pos hsz, Option.bind_some, if_pos (show acc.length < 2199023255552 by omega), Option.bind_some, if_pos (show acc.length < 2199023255552 by omega), ih, ih, List.drop_eq_getElem_cons hlt, List.map_cons, List.append_assoc, List.append_assoc]
    have e : sweptX now ls[i] = if liveB ls[i].f0 ls[i].f1 ls[i].f2 ls[i].f3 ls[i].f4 ls[i].f5 now = true then ls[i] else ⟨ls[i].f0, 0, ls[i].f2, ls[i].f3, ⟨#[]⟩, false⟩ := rfl
    rw [e]
    cases liveB ls[i].f0 ls[i].f1 ls[i].f2 ls[i].f3 ls[i].f4 ls[i].f5 now <;> rfl
theorem sweep_eq (ls : List S37) (now : Int) (hl : ls.length ≤ 140737488351232) (hs : ∀ x ∈ ls, x.f4.size ≤ 140737488351232) (k : Nat) (hk : 12 ≤ k) : sweep_Sweep.f k ls now = some (if (tableB ls && decide (0 ≤ now ∧ now ≤ 1099511627776)) = true then (ls.map (sweptX now), 0) else ([], 1900)) := by
  obtain ⟨k, rfl⟩ : ∃ j, k = j + 1 := ⟨k - 1, by omega⟩
  unfold sweep_Sweep.f table_May_c.f lease_Time_c.f
  rw [if_pos ⟨hl, hs⟩, Option.bind_some]
  cases hT : tableB ls with
  | false => rw [if_neg (by decide), sweep_Sweep.j0, if_pos rfl]; rfl
  | true =>
    rw [if_pos rfl, Option.bind_some, sweep_Sweep.j0]
    by_cases q : 0 ≤ now ∧ now ≤ 1099511627776
    · have h8 := (table_sorted hT).2.2
      have e := sweep_l0 ls h8 hs now ls.length k 0 [] (by omega) (by omega) (by simp)
      rw [show ((0 : Nat) : Int) = 0 from rfl, List.nil_append, List.drop_zero] at e
      rw [decide_eq_true q, if_neg (by decide), e]
      rfl
    · rw [decide_eq_false q]
      rfl
/-- a sweep takes nothing from anybody: who has a host open has it open behind it, too. -/
theorem SweepPick : pinfoldlaw19_SweepPick.Pure := by
  intro a0 a1 l2 l3 a4 z l6 ls now c wanted w0 w1 h2 h3 w4 hz h6 hl w8 hc w9
  have hx : ∀ x ∈ l6, x.f0.size ≤ 1048576 ∧ x.f4.size ≤ 1048576 := fun x hx => ⟨(h6.2 x hx).1, (h6.2 x hx).2.2.2.2.1⟩
  have hy : ∀ x ∈ ls, x.f4.size ≤ 1048576 := fun x hx => (hl.2 x hx).2.2.2.2.1
  replace h2 := h2.1
  replace h3 := h3.1
  replace h6 := h6.1
  replace hl := hl.1
  have hr : confFitR l2 l3 z l6 := ⟨by omega, by omega, by omega, by omega, fun x h => by have := hx x h; omega⟩
  have htr : tabFitR ls := ⟨by omega, fun x h => by have := hy x h; omega⟩
  refine ⟨40, ?_⟩
  unfold pinfoldlaw19_SweepPick.f
  rw [show pinfoldlaw19_awake.f 40 = some true by kernel_rfl, Option.bind_some, if_pos rfl, sweep_eq ls now (by omega) (fun x h => by have := hy x h; omega) 40 (by omega), Option.bind_some]
  unfold pinfoldref11_Pick_c.f pinfoldlaw0_Num.f
  rw [if_pos ⟨hr, htr⟩, Option.bind_some]
  by_cases q : (tableB ls && decide (0 ≤ now ∧ now ≤ 1099511627776)) = true
  · rw [if_pos q]
    dsimp only
    rw [Bool.and_eq_true] at q
    have ht : tableB (ls.map (sweptX now)) = tableB ls := by rw [q.1, swept_table now q.1]
    have htr2 : tabFitR (ls.map (sweptX now)) := ⟨by rw [List.length_map]; omega, fun x h => by
      obtain ⟨y, hm, rfl⟩ := List.mem_map.1 h
      have := hy y hm
      unfold sweptX
      split
      · omega
      · show (⟨#[]⟩ : ByteArray).size ≤ _
        decide⟩
    rw [if_pos ⟨hr, htr2⟩, Option.bind_some, Option.bind_some, if_pos rfl, calm_may ht, calm_pick (swept_calm now) ht, if_pos rfl]
    simp
  · rw [if_neg q]
    dsimp only
    rw [if_pos ⟨hr, (⟨by decide, fun x h => by cases h⟩ : tabFitR ([] : List S37))⟩, Option.bind_some, Option.bind_some, if_neg (by decide)]
    rfl

end Go.Proofs.Ytibmakpghbinbaa.Pure
