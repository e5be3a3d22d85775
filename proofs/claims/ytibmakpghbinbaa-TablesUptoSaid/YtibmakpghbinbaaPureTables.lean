/- Tables: any leases, host, lease, client, time: every call is the document's; they stay. No condition. -/
import Derived.Test.YtibmakpghbinbaaPTx10
namespace Go.Proofs.Ytibmakpghbinbaa.Pure
open Go.RowKit Go.Proofs.Ytibmakpghbinbaa.PT Go.Proofs.YtibmakpghbinbaaW.PrintWords Go.Proofs.YtibmakpghbinbaaW.PrintLast
set_option linter.unusedSimpArgs false
set_option linter.unusedVariables false

-- behind table_With.calls pinfoldlaw0_SameLeases.calls
-- behind table_With.calls
/-- what a host's lease becomes. -/
def thenL (p : S37 → Bool) (ls : List S37) (host : Int) (t : S37) : S37 := match findL ls host with
  | some x => if p x = true then ⟨host, t.f1, t.f2, t.f3, t.f4, t.f5⟩ else x
  | none => z37
def swapL (ls : List S37) (host : Int) (y : S37) : List S37 := ls.map fun x => if x.f0 = host then y else x
theorem goTab_sorted : ∀ (l : List S37) (p : Option Int), goTab p l = true → (∀ x ∈ l, leaseOk x = true) ∧ l.Pairwise (fun a b => a.f0 < b.f0) ∧ ∀ q, p = some q → ∀ x ∈ l, q < x.f0
  | [], p, _ => ⟨fun _ h => by simp at h, List.Pairwise.nil, fun _ _ _ h => by simp at h⟩
  | x :: r, p, h => by
    unfold goTab at h
    rw [Bool.and_eq_true, Bool.and_eq_true] at h
    obtain ⟨h1, h2, h3⟩ := h
    obtain ⟨i1, i2, i3⟩ := goTab_sorted r (some x.f0) h3
    have i4 := i3 x.f0 rfl
    refine ⟨fun y hy => ?_, List.pairwise_cons.2 ⟨i4, i2⟩, fun q hq y hy => ?_⟩
    · rcases List.mem_cons.1 hy with e | hy
      · rw [e]
        exact h1
      · exact i1 y hy
    · subst hq
      have hx : q < x.f0 := of_decide_eq_true h2
      rcases List.mem_cons.1 hy with e | hy
      · rw [e]
        exact hx
      · have := i4 y hy
        omega
theorem table_sorted {l : List S37} (h : tableB l = true) : (∀ x ∈ l, leaseOk x = true) ∧ l.Pairwise (fun a b => a.f0 < b.f0) ∧ l.length ≤ 8 := by
  unfold tableB at h
  rw [Bool.and_eq_true, decide_eq_true_eq] at h
  exact ⟨(goTab_sorted l none h.1).1, (goTab_sorted l none h.1).2.1, h.2⟩
/-- hosts stand once. -/
theorem host_once : ∀ {l : List S37}, l.Pairwise (fun a b => a.f0 < b.f0) → ∀ x ∈ l, ∀ y ∈ l, x.f0 = y.f0 → x = y
  | [], _, x, hx, _, _, _ => by simp at hx
  | a :: r, h, x, hx, y, hy, e => by
    obtain ⟨h1, h2⟩ := List.pairwise_cons.1 h
    rcases List.mem_cons.1 hx with hx1 | hx1
    · rcases List.mem_cons.1 hy with hy1 | hy1
      · rw [hx1, hy1]
      · have := h1 y hy1
        rw [hx1] at e
        omega
    · rcases List.mem_cons.1 hy with hy1 | hy1
      · have := h1 x hx1
        rw [hy1] at e
        omega
      · exact host_once h2 x hx1 y hy1 e
theorem put_done : ∀ (l : List S37) (y : S37), (∀ x ∈ l, x.f0 ≠ y.f0) → putGo y true l = l
  | [], y, _ => rfl
  | x :: r, y, h => by
    unfold putGo
    rw [if_neg (by simp), if_neg (h x List.mem_cons_self), Bool.true_or, put_done r y (fun z hz => h z (List.mem_cons_of_mem _ hz))]
    rfl
/-- a lease in the place of another one of the same host. -/
theorem put_swap : ∀ (l : List S37) (y : S37), l.Pairwise (fun a b => a.f0 < b.f0) → (∃ x ∈ l, x.f0 = y.f0) → putGo y false l = swapL l y.f0 y
  | [], y, _, ⟨x, hx, _⟩ => by simp at hx
  | x :: r, y, h, ⟨x', hx', e'⟩ => by
    obtain ⟨h1, h2⟩ := List.pairwise_cons.1 h
    unfold putGo swapL
    rw [List.map_cons]
    by_cases q : x.f0 = y.f0
    · rw [if_pos ⟨rfl, by omega⟩, if_pos q, if_pos q, decide_eq_true (by omega), Bool.or_true]
      have hr : ∀ z ∈ r, z.f0 ≠ y.f0 := fun z hz => by have := h1 z hz; omega
      rw [put_done r y hr]
      have hm : r.map (fun x => if x.f0 = y.f0 then y else x) = r := (List.map_congr_left (g := id) (fun z hz => if_neg (hr z hz)) : r.map (fun x => if x.f0 = y.f0 then y else x) = r.map id).trans (List.map_id r)
      rw [hm]
      rfl
    · have hr : x' ∈ r := by
        rcases List.mem_cons.1 hx' with e | e
        · rw [e] at e'
          exact absurd e' q
        · exact e
      have hlt := h1 x' hr
      rw [if_neg (by omega), if_neg q, if_neg q, decide_eq_false (by omega), Bool.or_false, put_swap r y h2 ⟨x', hr, e'⟩]
      rfl
theorem swap_id (l : List S37) (host : Int) (y : S37) (h : ∀ x ∈ l, x.f0 = host → x = y) : swapL l host y = l := by
  have hm : l.map (fun x => if x.f0 = host then y else x) = l.map id := List.map_congr_left (fun z hz => by
    by_cases e : z.f0 = host
    · rw [if_pos e, h z hz e]
      rfl
    · rw [if_neg e]
      rfl)
  exact hm.trans (List.map_id l)
theorem find_some {l : List S37} {h : Int} {x : S37} (e : findL l h = some x) : x ∈ l ∧ x.f0 = h := by
  unfold findL at e
  refine ⟨List.mem_of_find?_eq_some e, ?_⟩
  have := List.find?_some e
  simpa using this
theorem find_none {l : List S37} {h : Int} (e : findL l h = none) : ∀ x ∈ l, x.f0 ≠ h := fun x hx => by
  unfold findL at e
  have := List.find?_eq_none.1 e x hx
  simpa using this
def insR (lt : S37 → S37 → Bool) (x : S37) : List S37 → List S37 → List S37
  | [], b => x :: b
  | y :: ra, b => if lt x y = true then insR lt x ra (y :: b) else (y :: ra).reverse ++ x :: b
theorem wp_get (a : List S37) (x : S37) (b : List S37) (i : Nat) (h : a.length = i) : (a ++ x :: b).toArray[i]! = x := by
  subst h
  rw [getElem!_pos _ _ (by simp)]
  simp
theorem wp_swp (a : List S37) (y x : S37) (b : List S37) : Go.Sort.swp (a ++ y :: x :: b).toArray (a.length + 1) a.length = (a ++ x :: y :: b).toArray := by
  unfold Go.Sort.swp
  have e1 : (a ++ y :: x :: b).toArray[a.length]! = y := wp_get a y (x :: b) _ rfl
  have e2 : (a ++ y :: x :: b).toArray[a.length + 1]! = x := by
    rw [show a ++ y :: x :: b = (a ++ [y]) ++ x :: b by simp]
    exact wp_get (a ++ [y]) x b _ (by simp)
  rw [e1, e2, List.setIfInBounds_toArray, List.setIfInBounds_toArray]
  congr 1
  rw [List.set_append_right _ _ (by omega), show a.length + 1 - a.length = 1 by omega, List.set_cons_succ, List.set_cons_zero, List.set_append_right _ _ (by omega), Nat.sub_self, List.set_cons_zero]
theorem wp_inner (lt : S37 → S37 → Bool) (x : S37) : ∀ (ra b : List S37), Go.Sort.insInner lt 0 ra.length (ra.reverse ++ x :: b).toArray = (insR lt x ra b).toArray
  | [], b => rfl
  | y :: ra, b => by
    have h1 : ((y :: ra).reverse ++ x :: b).toArray[ra.length + 1]! = x := wp_get _ x b _ (by simp)
    have h2 : ((y :: ra).reverse ++ x :: b).toArray[ra.length]! = y := by
      rw [List.reverse_cons, List.append_assoc]
      exact wp_get _ y (x :: b) _ (by simp)
    have h3 : Go.Sort.swp ((y :: ra).reverse ++ x :: b).toArray (ra.length + 1) ra.length = (ra.reverse ++ x :: y :: b).toArray := by
      have := wp_swp ra.reverse y x b
      rw [List.length_reverse] at this
      rw [List.reverse_cons, List.append_assoc]
      exact this
    rw [List.length_cons, Go.Sort.insInner, h1, h2, h3]
    unfold insR
    cases lt x y with
    | true =>
      rw [show (decide (ra.length + 1 > 0) && true) = true by simp, if_pos rfl, if_pos rfl]
      exact wp_inner lt x ra (y :: b)
    | false => simp
/-- a row that stands in order stays. -/
theorem wp_rounds (lt : S37 → S37 → Bool) (l b : List S37) (hl : ∀ u y x v, l = u ++ y :: x :: v → lt x y = false) : ∀ (m i : Nat), 1 ≤ i → i + m = l.length → table_With.outer lt m i (l ++ b).toArray = (l ++ b).toArray
  | 0, _, _, _ => rfl
  | m + 1, i, h1, hi => by
    have hs : Go.Sort.insInner lt 0 i (l ++ b).toArray = (l ++ b).toArray := by
      obtain ⟨j, rfl⟩ : ∃ j, i = j + 1 := ⟨i - 1, by omega⟩
      have hj : j + 1 < l.length := by omega
      have e : l = l.take j ++ l[j] :: l[j + 1] :: l.drop (j + 2) := by
        rw [← List.drop_eq_getElem_cons hj, ← List.drop_eq_getElem_cons (by omega : j < l.length), List.take_append_drop]
      have h1 : (l ++ b).toArray[j + 1]! = l[j + 1] := by
        rw [getElem!_pos _ _ (by simp; omega)]
        simp [List.getElem_append_left hj]
      have h2 : (l ++ b).toArray[j]! = l[j] := by
        rw [getElem!_pos _ _ (by simp; omega)]
        simp [List.getElem_append_left (show j < l.length by omega)]
      rw [Go.Sort.insInner, h1, h2, hl _ _ _ _ e]
      simp
    rw [table_With.outer, hs]
    exact wp_rounds lt l b hl m (i + 1) (by omega) (by omega)
theorem wp_last (lt : S37 → S37 → Bool) (l : List S37) (x : S37) (hl : ∀ u y x v, l = u ++ y :: x :: v → lt x y = false) : (table_With.outer lt ((l ++ [x]).length - 1) 1 (l ++ [x]).toArray).toList = insR lt x l.reverse [] := by
  cases l with
  | nil => rfl
  | cons a r =>
    have key : ∀ (m i : Nat) (d : Array S37), table_With.outer lt (m + 1) i d = Go.Sort.insInner lt 0 (i + m) (table_With.outer lt m i d) := by
      intro m
      induction m with
      | zero => intro i d; rfl
      | succ m ih =>
        intro i d
        rw [table_With.outer, ih (i + 1)]
        conv => rhs; rw [table_With.outer]
        rw [show i + 1 + m = i + (m + 1) by omega]
    have e1 : ((a :: r) ++ [x]).length - 1 = r.length + 1 := by simp
    rw [e1, key, wp_rounds lt (a :: r) [x] hl r.length 1 (by omega) (by simp; omega)]
    have := wp_inner lt x (a :: r).reverse []
    rw [List.reverse_reverse, List.length_reverse] at this
    rw [show 1 + r.length = (a :: r).length by simp; omega, this]
theorem wp_ins (lt : S37 → S37 → Bool) (x : S37) (u : List S37) (hu : ∀ y ∈ u, lt x y = false) : ∀ (rv b : List S37), (∀ y ∈ rv, lt x y = true) → insR lt x (rv ++ u.reverse) b = u ++ x :: (rv.reverse ++ b)
  | [], b, _ => by
    rw [List.nil_append, List.reverse_nil, List.nil_append]
    cases hr : u.reverse with
    | nil =>
      have : u = [] := by simpa using hr
      rw [this]
      rfl
    | cons y ra =>
      have hy : lt x y = false := hu y (by rw [← List.mem_reverse, hr]; exact List.mem_cons_self)
      unfold insR
      rw [hy, if_neg (by decide), ← hr, List.reverse_reverse]
  | y :: rv, b, h => by
    rw [List.cons_append]
    unfold insR
    rw [h y List.mem_cons_self, if_pos rfl, wp_ins lt x u hu rv (y :: b) (fun z hz => h z (List.mem_cons_of_mem _ hz))]
    simp
theorem wp_split (x : S37) : ∀ (l : List S37), l.Pairwise (fun a b => a.f0 < b.f0) → (∀ y ∈ l, y.f0 ≠ x.f0) → ∃ u v, l = u ++ v ∧ (∀ y ∈ u, y.f0 < x.f0) ∧ ∀ y ∈ v, x.f0 < y.f0
  | [], _, _ => ⟨[], [], rfl, (fun y h => by cases h), (fun y h => by cases h)⟩
  | y :: r, hs, hn => by
    obtain ⟨h1, h2⟩ := List.pairwise_cons.1 hs
    by_cases q : y.f0 < x.f0
    · obtain ⟨u, v, e, hu, hv⟩ := wp_split x r h2 (fun z hz => hn z (List.mem_cons_of_mem _ hz))
      refine ⟨y :: u, v, by rw [e]; rfl, ?_, hv⟩
      intro z hz
      rcases List.mem_cons.1 hz with e | e
      · rw [e]; exact q
      · exact hu z e
    · refine ⟨[], y :: r, rfl, (fun z h => by cases h), ?_⟩
      have := hn y List.mem_cons_self
      intro z hz
      rcases List.mem_cons.1 hz with e | e
      · rw [e]; omega
      · have := h1 z e; omega
theorem put_mid (x : S37) (v : List S37) (hv : ∀ y ∈ v, x.f0 < y.f0) : ∀ (u : List S37), (∀ y ∈ u, y.f0 < x.f0) → putGo x false (u ++ v) = u ++ x :: v
  | [], _ => by
    rw [List.nil_append, List.nil_append]
    cases v with
    | nil => rfl
    | cons y r =>
      have hy := hv y List.mem_cons_self
      unfold putGo
      rw [if_pos ⟨rfl, by omega⟩, if_neg (by omega), decide_eq_true (by omega), Bool.or_true, put_done r x (fun z hz => by have := hv z (List.mem_cons_of_mem _ hz); omega)]
      rfl
  | y :: u, hu => by
    have hy := hu y List.mem_cons_self
    rw [List.cons_append, List.cons_append]
    unfold putGo
    rw [if_neg (by omega), if_neg (by omega), decide_eq_false (by omega), Bool.or_false, put_mid x v hv u (fun z hz => hu z (List.mem_cons_of_mem _ hz))]
    rfl
theorem lease_host {x : S37} (h : leaseOk x = true) : 2 ≤ x.f0 ∧ x.f0 ≤ 254 := by
  have h1 : leaseB x.f0 x.f1 x.f2 x.f3 x.f4 x.f5 = true := h
  unfold leaseB at h1
  simp only [Bool.and_eq_true, decide_eq_true_eq] at h1
  exact h1.1.1.1.1
theorem cf_lt (x y : S37) (hx : 2 ≤ x.f0 ∧ x.f0 ≤ 254) (hy : 2 ≤ y.f0 ∧ y.f0 ≤ 254) : ltOf table_With.cf x y = decide (x.f0 < y.f0) := by
  unfold ltOf table_With.cf
  rw [show wrap64 (x.f0 - y.f0) = x.f0 - y.f0 by unfold wrap64; omega, decide_eq_decide]
  omega
/-- With's row is the document's. -/
theorem with_put (l : List S37) (x : S37) (hT : tableB l = true) (hx : leaseOk x = true) : table_With.out l x = putL l x := by
  obtain ⟨hok, hs, h8⟩ := table_sorted hT
  have hxb := lease_host hx
  unfold table_With.out putL
  by_cases hm : ∃ y ∈ l, y.f0 = x.f0
  · rw [put_swap l x hs hm]
    obtain ⟨y, hy, hye⟩ := hm
    obtain ⟨i, hi, rfl⟩ := List.getElem_of_mem hy
    have hne : ∀ (j : Nat) (hj : j < l.length), l[j].f0 = x.f0 → j = i := by
      intro j hj e
      rcases Nat.lt_trichotomy j i with h | h | h
      · have := List.pairwise_iff_getElem.1 hs j i hj hi h; omega
      · exact h
      · have := List.pairwise_iff_getElem.1 hs i j hi hj h; omega
    have he : table_at.idx (fun y => y.f0 == x.f0) l = (i : Int) := table_at.idx_hit _ l i hi (by simpa using hye) (fun j hj hji => by
      rw [beq_eq_false_iff_ne]
      intro e
      have := hne j hj e
      omega)
    rw [he, if_pos (by omega), Int.toNat_natCast]
    refine List.ext_getElem (by unfold swapL; rw [List.length_set, List.length_map]) (fun j h1 h2 => ?_)
    have hj : j < l.length := by rw [List.length_set] at h1; exact h1
    have e5 : (swapL l x.f0 x)[j]'h2 = (if l[j].f0 = x.f0 then x else l[j]) := by simp only [swapL, List.getElem_map]
    rw [List.getElem_set, e5]
    by_cases e : i = j
    · subst e
      rw [if_pos rfl, if_pos hye]
    · rw [if_neg e, if_neg (fun h => e (hne j hj h).symm)]
  · have hn : ∀ y ∈ l, y.f0 ≠ x.f0 := fun y hy e => hm ⟨y, hy, e⟩
    have he : table_at.idx (fun y => y.f0 == x.f0) l = -1 := table_at.idx_miss _ l (fun j hj => by
      rw [beq_eq_false_iff_ne]
      exact hn _ (List.getElem_mem hj))
    rw [he, if_neg (by decide)]
    have hlt : ∀ y ∈ l, ltOf table_With.cf x y = decide (x.f0 < y.f0) := fun y hy => cf_lt x y hxb (lease_host (hok y hy))
    obtain ⟨u, v, e, hu, hv⟩ := wp_split x l hs hn
    unfold table_With.srt
    rw [wp_last (ltOf table_With.cf) l x (fun a y z b e => by
      have hy : y ∈ l := by rw [e]; simp
      have hz : z ∈ l := by rw [e]; simp
      have h1 := (List.pairwise_append.1 (by rw [e] at hs; exact hs)).2.1
      have h2 := (List.pairwise_cons.1 h1).1 z List.mem_cons_self
      rw [cf_lt z y (lease_host (hok z hz)) (lease_host (hok y hy)), decide_eq_false (by omega)])]
    have e2 : l.reverse = v.reverse ++ u.reverse := by rw [e, List.reverse_append]
    rw [e2, wp_ins (ltOf table_With.cf) x u (fun y hy => by rw [hlt y (by rw [e]; exact List.mem_append_left _ hy), decide_eq_false (by have := hu y hy; omega)]) v.reverse [] (fun y hy => by
      have hy2 : y ∈ v := by simpa using hy
      rw [hlt y (by rw [e]; exact List.mem_append_right _ hy2), decide_eq_true (hv y hy2)])]
    rw [List.reverse_reverse, List.append_nil, e, put_mid x v hv u hu]
theorem go_ins (x : S37) (hx : leaseOk x = true) (v : List S37) (hv : ∀ y ∈ v, x.f0 < y.f0) : ∀ (u : List S37) (p : Option Int), goTab p (u ++ v) = true → (∀ y ∈ u, y.f0 < x.f0) → above p x.f0 = true → goTab p (u ++ x :: v) = true
  | [], p, h, _, ha => by
    rw [List.nil_append] at h ⊢
    unfold goTab
    rw [hx, ha, Bool.true_and, Bool.true_and]
    cases v with
    | nil => rfl
    | cons y r =>
      have hy := hv y List.mem_cons_self
      unfold goTab at h ⊢
      rw [Bool.and_eq_true, Bool.and_eq_true] at h
      rw [h.1, h.2.2, show above (some x.f0) y.f0 = true from decide_eq_true hy]
      rfl
  | a :: u, p, h, hu, _ => by
    rw [List.cons_append] at h ⊢
    unfold goTab at h ⊢
    rw [Bool.and_eq_true, Bool.and_eq_true] at h
    rw [h.1, h.2.1, Bool.true_and, Bool.true_and]
    exact go_ins x hx v hv u (some a.f0) h.2.2 (fun y hy => hu y (List.mem_cons_of_mem _ hy)) (decide_eq_true (hu a List.mem_cons_self))
theorem row_split (x : S37) : ∀ (l : List S37), l.Pairwise (fun a b => a.f0 < b.f0) → (∀ y ∈ l, y.f0 ≠ x.f0) → ∃ u v, l = u ++ v ∧ (∀ y ∈ u, y.f0 < x.f0) ∧ ∀ y ∈ v, x.f0 < y.f0
  | [], _, _ => ⟨[], [], rfl, (fun y h => by cases h), (fun y h => by cases h)⟩
  | y :: r, hs, hn => by
    obtain ⟨h1, h2⟩ := List.pairwise_cons.1 hs
    by_cases q : y.f0 < x.f0
    · obtain ⟨u, v, e, hu, hv⟩ := row_split x r h2 (fun z hz => hn z (List.mem_cons_of_mem _ hz))
      refine ⟨y :: u, v, by rw [e]; rfl, ?_, hv⟩
      intro z hz
      rcases List.mem_cons.1 hz with e | e
      · rw [e]; exact q
      · exact hu z e
    · refine ⟨[], y :: r, rfl, (fun z h => by cases h), ?_⟩
      have := hn y List.mem_cons_self
      intro z hz
      rcases List.mem_cons.1 hz with e | e
      · rw [e]; omega
      · have := h1 z e; omega
theorem putrow_mid (x : S37) (v : List S37) (hv : ∀ y ∈ v, x.f0 < y.f0) : ∀ (u : List S37), (∀ y ∈ u, y.f0 < x.f0) → putGo x false (u ++ v) = u ++ x :: v
  | [], _ => by
    rw [List.nil_append, List.nil_append]
    cases v with
    | nil => rfl
    | cons y r =>
      have hy := hv y List.mem_cons_self
      unfold putGo
      rw [if_pos ⟨rfl, by omega⟩, if_neg (show ¬ y.f0 = x.f0 by omega), decide_eq_true (show y.f0 ≥ x.f0 by omega), Bool.or_true, put_done r x (fun z hz => by have := hv z (List.mem_cons_of_mem _ hz); omega)]
      rfl
  | y :: u, hu => by
    have hy := hu y List.mem_cons_self
    rw [List.cons_append, List.cons_append]
    unfold putGo
    rw [if_neg (by omega), if_neg (show ¬ y.f0 = x.f0 by omega), decide_eq_false (show ¬ y.f0 ≥ x.f0 by omega), Bool.or_false, putrow_mid x v hv u (fun z hz => hu z (List.mem_cons_of_mem _ hz))]
    rfl
theorem go_swap (host : Int) (y : S37) (hh : y.f0 = host) (hy : leaseOk y = true) : ∀ (l : List S37) (p : Option Int), goTab p l = true → goTab p (swapL l host y) = true
  | [], p, h => h
  | x :: r, p, h => by
    unfold goTab at h
    rw [Bool.and_eq_true, Bool.and_eq_true] at h
    obtain ⟨h1, h2, h3⟩ := h
    have i := go_swap host y hh hy r (some x.f0) h3
    rw [show swapL (x :: r) host y = (if x.f0 = host then y else x) :: swapL r host y from rfl]
    unfold goTab
    by_cases q : x.f0 = host
    · rw [← q] at i
      rw [if_pos q, hh, hy, ← q, h2, i]
      rfl
    · rw [if_neg q, h1, h2, i]
      rfl
theorem table_parts {l : List S37} (h : tableB l = true) : goTab none l = true ∧ l.length ≤ 8 := by
  unfold tableB at h
  rw [Bool.and_eq_true, decide_eq_true_eq] at h
  exact h
theorem table_of {l : List S37} (h : goTab none l = true) (h8 : l.length ≤ 8) : tableB l = true := by
  unfold tableB
  rw [h, decide_eq_true h8]
  rfl
/-- a lease put into a table: the row stands in order. -/
theorem go_put {l : List S37} {x : S37} (hT : tableB l = true) (hx : leaseOk x = true) : goTab none (putL l x) = true := by
  obtain ⟨_, hs, _⟩ := table_sorted hT
  have hg := (table_parts hT).1
  unfold putL
  by_cases hm : ∃ y ∈ l, y.f0 = x.f0
  · rw [put_swap l x hs hm]
    exact go_swap x.f0 x rfl hx l none hg
  · obtain ⟨u, v, e, hu, hv⟩ := row_split x l hs (fun y hy e => hm ⟨y, hy, e⟩)
    rw [e, putrow_mid x v hv u hu]
    rw [e] at hg
    exact go_ins x hx v hv u none hg hu rfl
theorem table_put {l : List S37} {x : S37} (hT : tableB l = true) (hx : leaseOk x = true) : tableB (putL l x) = decide ((putL l x).length ≤ 8) := by
  unfold tableB
  rw [go_put hT hx, Bool.true_and]
/-- a lease stands in a row: it is found by its host. -/
theorem find_of {ls : List S37} (hs : ls.Pairwise (fun a b => a.f0 < b.f0)) {x : S37} (hx : x ∈ ls) : findL ls x.f0 = some x := by
  cases hfd : findL ls x.f0 with
  | none => exact absurd rfl (find_none hfd x hx)
  | some y =>
    obtain ⟨hy, he⟩ := find_some hfd
    rw [host_once hs y hy x hx he]
theorem find_put {l : List S37} {x : S37} (hT : tableB l = true) (hx : leaseOk x = true) (host : Int) : findL (putL l x) host = if host = x.f0 then some x else findL l host := by
  obtain ⟨_, hs, _⟩ := table_sorted hT
  have hsp : (putL l x).Pairwise (fun a b => a.f0 < b.f0) := (goTab_sorted _ none (go_put hT hx)).2.1
  have hmem : ∀ y, y ∈ putL l x ↔ y = x ∨ y ∈ l ∧ y.f0 ≠ x.f0 := by
    intro y
    unfold putL
    by_cases hm : ∃ y ∈ l, y.f0 = x.f0
    · rw [put_swap l x hs hm]
      unfold swapL
      rw [List.mem_map]
      constructor
      · rintro ⟨z, hz, e⟩
        by_cases q : z.f0 = x.f0
        · rw [if_pos q] at e; exact .inl e.symm
        · rw [if_neg q] at e; rw [← e]; exact .inr ⟨hz, q⟩
      · rintro (e | ⟨hy, hn⟩)
        · obtain ⟨z, hz, hzx⟩ := hm
          exact ⟨z, hz, by rw [if_pos hzx, e]⟩
        · exact ⟨y, hy, if_neg hn⟩
    · have hn : ∀ y ∈ l, y.f0 ≠ x.f0 := fun y hy e => hm ⟨y, hy, e⟩
      obtain ⟨u, v, e, hu, hv⟩ := row_split x l hs hn
      rw [e, putrow_mid x v hv u hu]
      constructor
      · intro h
        rcases List.mem_append.1 h with h | h
        · exact .inr ⟨List.mem_append_left _ h, hn y (by rw [e]; exact List.mem_append_left _ h)⟩
        · rcases List.mem_cons.1 h with h | h
          · exact .inl h
          · exact .inr ⟨List.mem_append_right _ h, hn y (by rw [e]; exact List.mem_append_right _ h)⟩
      · rintro (h | ⟨h, _⟩)
        · rw [h]; simp
        · rcases List.mem_append.1 h with h | h
          · exact List.mem_append_left _ h
          · exact List.mem_append_right _ (List.mem_cons_of_mem _ h)
  by_cases q : host = x.f0
  · rw [if_pos q, q]
    exact find_of hsp ((hmem x).2 (.inl rfl))
  · rw [if_neg q]
    cases hf : findL l host with
    | some y =>
      obtain ⟨hy, he⟩ := find_some hf
      have := find_of hsp ((hmem y).2 (.inr ⟨hy, by rw [he]; exact q⟩))
      rw [he] at this
      exact this
    | none =>
      cases hf2 : findL (putL l x) host with
      | none => rfl
      | some y =>
        obtain ⟨hy, he⟩ := find_some hf2
        rcases (hmem y).1 hy with e | ⟨h, _⟩
        · rw [e] at he; exact absurd he.symm q
        · exact absurd he (find_none hf y h)
theorem cutL_sum : ∀ l : List Int, ((cutL l).map (fun p => p.length + 1)).sum = l.length + 1
  | [] => rfl
  | b :: l => by
    have ih := cutL_sum l
    by_cases hb : b = 46
    · subst hb
      rw [cutL_point, List.map_cons, List.sum_cons, ih]
      simp only [List.length_nil, List.length_cons]
      omega
    · rw [cutL_other _ _ hb]
      cases hc : cutL l with
      | nil => exact absurd hc (cutL_ne l)
      | cons q qs =>
        rw [hc] at ih
        simp only [glue, List.map_cons, List.sum_cons, List.length_cons, List.length_append, List.length_nil] at ih ⊢
        omega
theorem label_sum : ∀ L : List (List Int), L.all labelB = true → (L.map (fun p => p.length + 1)).sum ≤ 9 * L.length
  | [] => fun _ => Nat.zero_le _
  | p :: L => fun h => by
    rw [List.all_cons, Bool.and_eq_true] at h
    have ih := label_sum L h.2
    have h1 := h.1
    unfold labelB at h1
    rw [Bool.and_eq_true, decide_eq_true_eq] at h1
    simp only [List.map_cons, List.sum_cons, List.length_cons]
    omega
/-- a name that may be is short. -/
theorem name_short (l : List Int) (h : nameB l = true) : l.length ≤ 72 := by
  unfold nameB at h
  rw [Bool.or_eq_true, Bool.and_eq_true, decide_eq_true_eq, decide_eq_true_eq] at h
  rcases h with h | ⟨h1, h2⟩
  · rw [h]
    exact Nat.zero_le _
  · have := label_sum _ h1
    rw [cutL_sum] at this
    omega
theorem mem_insR (lt : S37 → S37 → Bool) (x : S37) : ∀ (ra b : List S37), x ∈ insR lt x ra b
  | [], b => List.mem_cons_self
  | y :: ra, b => by
    unfold insR
    split
    · exact mem_insR lt x ra (y :: b)
    · exact List.mem_append_right _ List.mem_cons_self
/-- what is put in stands in the row. -/
theorem mem_out {l : List S37} (hT : tableB l = true) (x : S37) : x ∈ table_With.out l x := by
  obtain ⟨hok, hs, _⟩ := table_sorted hT
  have hlt := table_at.idx_lt (fun y => y.f0 == x.f0) l
  unfold table_With.out
  by_cases q : table_at.idx (fun y => y.f0 == x.f0) l ≥ 0
  · rw [if_pos q]
    have hi : (table_at.idx (fun y => y.f0 == x.f0) l).toNat < l.length := by omega
    exact List.mem_iff_getElem.2 ⟨_, by rw [List.length_set]; exact hi, by rw [List.getElem_set, if_pos rfl]⟩
  · rw [if_neg q]
    unfold table_With.srt
    rw [wp_last (ltOf table_With.cf) l x (fun a y z b e => by
      have hy : y ∈ l := by rw [e]; simp
      have hz : z ∈ l := by rw [e]; simp
      have h1 := (List.pairwise_append.1 (by rw [e] at hs; exact hs)).2.1
      have h2 := (List.pairwise_cons.1 h1).1 z List.mem_cons_self
      rw [cf_lt z y (lease_host (hok z hz)) (lease_host (hok y hy)), decide_eq_false (by omega)])]
    exact mem_insR _ _ _ _
theorem ok_mem {l : List S37} (hT : tableB l = true) {x : S37} (hx : x ∈ l) : leaseOk x = true := (table_sorted hT).1 x hx
/-- what With answers. -/
def withV (l : List S37) (x : S37) : List S37 × Int := if (tableB l && (leaseOk x && decide ((putL l x).length ≤ 8))) = true then (putL l x, 0) else ([], 1300)
theorem with_out {l : List S37} (hT : tableB l = true) (x : S37) : tableB (table_With.out l x) = (leaseOk x && decide ((putL l x).length ≤ 8)) := by
  cases hx : leaseOk x with
  | true => rw [with_put l x hT hx, table_put hT hx, Bool.true_and]
  | false =>
    cases h : tableB (table_With.out l x) with
    | false => rfl
    | true => rw [ok_mem h (mem_out hT x)] at hx; cases hx
theorem find_none_of {l : List S37} {h : Int} (hn : ∀ x ∈ l, x.f0 ≠ h) : findL l h = none := by
  unfold findL
  rw [List.find?_eq_none]
  intro x hx e
  exact hn x hx (by simpa using e)
/-- two rows in order that find the same are one. -/
theorem row_ext : ∀ (l1 l2 : List S37), l1.Pairwise (fun a b => a.f0 < b.f0) → l2.Pairwise (fun a b => a.f0 < b.f0) → (∀ h, findL l1 h = findL l2 h) → l1 = l2
  | [], [], _, _, _ => rfl
  | [], y :: r, _, h2, h => by
    have e := h y.f0
    rw [find_of h2 List.mem_cons_self] at e
    cases e
  | x :: r, [], h1, _, h => by
    have e := h x.f0
    rw [find_of h1 List.mem_cons_self] at e
    cases e
  | x :: r, y :: s, h1, h2, h => by
    obtain ⟨a1, b1⟩ := List.pairwise_cons.1 h1
    obtain ⟨a2, b2⟩ := List.pairwise_cons.1 h2
    have hx : x ∈ y :: s := by
      have e := h x.f0
      rw [find_of h1 List.mem_cons_self] at e
      exact (find_some e.symm).1
    have hy : y ∈ x :: r := by
      have e := h y.f0
      rw [find_of h2 List.mem_cons_self] at e
      exact (find_some e).1
    have hxy : x = y := by
      rcases List.mem_cons.1 hx with e | e
      · exact e
      · have q1 := a2 x e
        rcases List.mem_cons.1 hy with e2 | e2
        · exact e2.symm
        · have q2 := a1 y e2
          omega
    subst hxy
    congr 1
    refine row_ext r s b1 b2 (fun q => ?_)
    by_cases c : q = x.f0
    · rw [find_none_of (fun z hz => by have := a1 z hz; omega), find_none_of (fun z hz => by have := a2 z hz; omega)]
    · have e := h q
      have g : ∀ t : List S37, findL (x :: t) q = findL t q := fun t => by
        unfold findL
        rw [List.find?_cons, show (x.f0 == q) = false from beq_eq_false_iff_ne.2 (fun e => c e.symm)]
      rw [g, g] at e
      exact e
theorem put_sorted {l : List S37} {x : S37} (hT : tableB l = true) (hx : leaseOk x = true) : (putL l x).Pairwise (fun a b => a.f0 < b.f0) := (goTab_sorted _ none (go_put hT hx)).2.1
theorem put_length {l : List S37} (hT : tableB l = true) (x : S37) : (putL l x).length = l.length + (if (findL l x.f0).isSome = true then 0 else 1) := by
  obtain ⟨_, hs, _⟩ := table_sorted hT
  unfold putL
  by_cases hm : ∃ y ∈ l, y.f0 = x.f0
  · rw [put_swap l x hs hm]
    obtain ⟨y, hy, e⟩ := hm
    rw [← e, find_of hs hy]
    unfold swapL
    rw [List.length_map]
    rfl
  · rw [find_none_of (fun y hy e => hm ⟨y, hy, e⟩)]
    obtain ⟨u, v, e, hu, hv⟩ := row_split x l hs (fun y hy e => hm ⟨y, hy, e⟩)
    rw [e, putrow_mid x v hv u hu]
    simp only [List.length_append, List.length_cons, Option.isSome_none, Bool.false_eq_true, if_false]
    omega
theorem put_again {l : List S37} {x : S37} (hT : tableB l = true) (hx : leaseOk x = true) (h8 : (putL l x).length ≤ 8) : putL (putL l x) x = putL l x := by
  have hA : tableB (putL l x) = true := by rw [table_put hT hx, decide_eq_true h8]
  refine row_ext _ _ (put_sorted hA hx) (put_sorted hT hx) (fun h => ?_)
  rw [find_put hA hx, find_put hT hx]
  split <;> rfl
theorem put_swap2 {l : List S37} {a b : S37} (hT : tableB l = true) (ha : leaseOk a = true) (hb : leaseOk b = true) (hne : a.f0 ≠ b.f0) (h1 : (putL l a).length ≤ 8) (h2 : (putL (putL l a) b).length ≤ 8) : (putL l b).length ≤ 8 ∧ (putL (putL l b) a).length ≤ 8 ∧ putL (putL l a) b = putL (putL l b) a := by
  have hA : tableB (putL l a) = true := by rw [table_put hT ha, decide_eq_true h1]
  have e1 := put_length hT a
  have e2 := put_length hA b
  rw [find_put hT ha, show (if b.f0 = a.f0 then some a else findL l b.f0) = findL l b.f0 from if_neg (fun e => hne e.symm)] at e2
  have e3 := put_length hT b
  have h3 : (putL l b).length ≤ 8 := by omega
  have hB : tableB (putL l b) = true := by rw [table_put hT hb, decide_eq_true h3]
  have e4 := put_length hB a
  rw [find_put hT hb, show (if a.f0 = b.f0 then some b else findL l a.f0) = findL l a.f0 from if_neg hne] at e4
  refine ⟨h3, by omega, row_ext _ _ (put_sorted hA hb) (put_sorted hB ha) (fun h => ?_)⟩
  rw [find_put hA hb, find_put hT ha, find_put hB ha, find_put hT hb]
  by_cases q : h = b.f0
  · rw [if_pos q, if_neg (fun e => hne (e.symm.trans q)), if_pos q]
  · rw [if_neg q, if_neg q]
theorem insR_sub (lt : S37 → S37 → Bool) (x : S37) : ∀ (ra b : List S37), ∀ y ∈ insR lt x ra b, y = x ∨ y ∈ ra ∨ y ∈ b
  | [], b, y, h => by
    rcases List.mem_cons.1 h with e | e
    · exact .inl e
    · exact .inr (.inr e)
  | z :: ra, b, y, h => by
    unfold insR at h
    split at h
    · rcases insR_sub lt x ra (z :: b) y h with e | e | e
      · exact .inl e
      · exact .inr (.inl (List.mem_cons_of_mem _ e))
      · rcases List.mem_cons.1 e with e | e
        · exact .inr (.inl (by rw [e]; exact List.mem_cons_self))
        · exact .inr (.inr e)
    · rcases List.mem_append.1 h with e | e
      · exact .inr (.inl (List.mem_reverse.1 e))
      · rcases List.mem_cons.1 e with e | e
        · exact .inl e
        · exact .inr (.inr e)
theorem out_sub {l : List S37} (hT : tableB l = true) (x : S37) : ∀ y ∈ table_With.out l x, y = x ∨ y ∈ l := by
  obtain ⟨hok, hs, _⟩ := table_sorted hT
  intro y hy
  unfold table_With.out at hy
  by_cases q : table_at.idx (fun y => y.f0 == x.f0) l ≥ 0
  · rw [if_pos q] at hy
    rcases List.mem_or_eq_of_mem_set hy with e | e
    · exact .inr e
    · exact .inl e
  · rw [if_neg q] at hy
    unfold table_With.srt at hy
    rw [wp_last (ltOf table_With.cf) l x (fun a y z b e => by
      have hy : y ∈ l := by rw [e]; simp
      have hz : z ∈ l := by rw [e]; simp
      have h1 := (List.pairwise_append.1 (by rw [e] at hs; exact hs)).2.1
      have h2 := (List.pairwise_cons.1 h1).1 z List.mem_cons_self
      rw [cf_lt z y (lease_host (hok z hz)) (lease_host (hok y hy)), decide_eq_false (by omega)])] at hy
    rcases insR_sub _ _ _ _ y hy with e | e | e
    · exact .inl e
    · exact .inr (List.mem_reverse.1 e)
    · cases e
theorem out_len (l : List S37) (x : S37) : (table_With.out l x).length ≤ l.length + 1 := by
  unfold table_With.out
  split
  · rw [List.length_set]; omega
  · rw [table_With.srt_length]; simp
theorem tname_size (s : ByteArray) (h : nameB (bytesOf s) = true) : s.size ≤ 72 := by
  have e : s.size = (bytesOf s).length := by
    unfold bytesOf
    rw [List.length_map]
    first | rfl | simp
  rw [e]
  exact name_short _ h
theorem table_names {l : List S37} (hT : tableB l = true) {y : S37} (hy : y ∈ l) : y.f4.size ≤ 72 := by
  have h1 : leaseB y.f0 y.f1 y.f2 y.f3 y.f4 y.f5 = true := ok_mem hT hy
  unfold leaseB at h1
  simp only [Bool.and_eq_true] at h1
  exact tname_size _ h1.2
theorem samleases_l0 (l : List S37) (hl : l.length ≤ 140737488351232) : ∀ (d k i : Nat), i + d = l.length → d + 1 ≤ k → pinfoldlaw0_SameLeases.l0 k l l (i : Int) = some true
  | 0, k, i, hi, hk => by
    obtain ⟨k, rfl⟩ : ∃ j, k = j + 1 := ⟨k - 1, by omega⟩
    rw [pinfoldlaw0_SameLeases.l0, if_neg (by omega)]
  | d + 1, k, i, hi, hk => by
    obtain ⟨k, rfl⟩ : ∃ j, k = j + 1 := ⟨k - 1, by omega⟩
    rw [pinfoldlaw0_SameLeases.l0, if_pos (by omega), if_pos (by omega), if_pos (by omega), if_neg (by simp), wrap_succ i l.length (by omega) hl]
    exact samleases_l0 l hl d k (i + 1) (by omega) (by omega)
theorem tw_eq (l : List S37) (x : S37) (hl : l.length ≤ 2199023255488) (hs : ∀ y ∈ l, y.f4.size ≤ 140737488351232) (hx : x.f4.size ≤ 140737488351232) : table_With.f l x.f0 x.f1 x.f2 x.f3 x.f4 x.f5 = some (withV l x) := by
  have hf : tabFit l := ⟨by omega, hs⟩
  unfold table_With.f table_May_c.f withV
  rw [if_pos hl, if_pos hf, Option.bind_some]
  cases hT : tableB l with
  | false => rfl
  | true =>
    rw [if_pos rfl, Bool.true_and]
    have hm : ∀ y ∈ table_With.out l x, y = x ∨ y ∈ l := fun y hy => out_sub hT x y hy
    have hf2 : tabFit (table_With.out l x) := ⟨by have h1 := out_len l x; have h2 := (table_sorted hT).2.2; omega, fun y hy => by
      rcases hm y hy with e | e
      · rw [e]; exact hx
      · exact hs y e⟩
    show (if tabFit (table_With.out l x) then some (tableB (table_With.out l x)) else none).bind _ = _
    rw [if_pos hf2, Option.bind_some, with_out hT x]
    cases hq : (leaseOk x && decide ((putL l x).length ≤ 8)) with
    | false => rfl
    | true =>
      rw [Bool.and_eq_true] at hq
      rw [if_pos rfl, if_pos rfl]
      exact congrArg some (Prod.ext (with_put l x hT hq.1) rfl)
theorem same_row (k : Nat) (l : List S37) (h8 : l.length ≤ 8) (hk : 10 ≤ k) : pinfoldlaw0_SameLeases.f k l l = some true := by
  have := samleases_l0 l (by omega) l.length k 0 (by omega) (by omega)
  rw [show ((0 : Nat) : Int) = 0 from rfl] at this
  unfold pinfoldlaw0_SameLeases.f
  rw [if_pos rfl]
  exact this
theorem spoil_l0 (n : Nat) (hn : n ≤ 140737488351232) : ∀ (d k i : Nat) (l : List S37), l.length = n → i + d = n → d + 1 ≤ k → ∃ r, pinfoldlaw0_SpoilLeases.l0 k l (i : Int) = some r
  | 0, k, i, l, hl, hi, hk => by
    obtain ⟨k, rfl⟩ : ∃ j, k = j + 1 := ⟨k - 1, by omega⟩
    exact ⟨_, by rw [pinfoldlaw0_SpoilLeases.l0, if_neg (by omega)]⟩
  | d + 1, k, i, l, hl, hi, hk => by
    obtain ⟨k, rfl⟩ : ∃ j, k = j + 1 := ⟨k - 1, by omega⟩
    rw [pinfoldlaw0_SpoilLeases.l0, if_pos (by omega), if_pos (by omega), wrap_succ i n (by omega) hn]
    exact spoil_l0 n hn d k (i + 1) _ (by rw [List.length_set]; exact hl) (by omega) (by omega)
theorem spoil_eq (l : List S37) (hl : l.length ≤ 140737488351232) (k : Nat) (hk : l.length + 1 ≤ k) : ∃ r, pinfoldlaw0_SpoilLeases.f k l = some r := by
  unfold pinfoldlaw0_SpoilLeases.f
  exact spoil_l0 l.length hl l.length k 0 l rfl (by omega) hk
theorem mem_put {l : List S37} (hT : tableB l = true) (x : S37) : x ∈ putL l x := by
  obtain ⟨_, hs, _⟩ := table_sorted hT
  unfold putL
  by_cases hm : ∃ y ∈ l, y.f0 = x.f0
  · rw [put_swap l x hs hm]
    obtain ⟨y, hy, e⟩ := hm
    unfold swapL
    exact List.mem_map.2 ⟨y, hy, if_pos e⟩
  · obtain ⟨u, v, e, hu, hv⟩ := row_split x l hs (fun y hy e => hm ⟨y, hy, e⟩)
    rw [e, putrow_mid x v hv u hu]
    exact List.mem_append_right _ List.mem_cons_self
theorem put_sub {l : List S37} (hT : tableB l = true) (x : S37) : ∀ y ∈ putL l x, y = x ∨ y ∈ l := by
  obtain ⟨_, hs, _⟩ := table_sorted hT
  intro y hy
  unfold putL at hy
  by_cases hm : ∃ y ∈ l, y.f0 = x.f0
  · rw [put_swap l x hs hm] at hy
    unfold swapL at hy
    obtain ⟨z, hz, e⟩ := List.mem_map.1 hy
    by_cases q : z.f0 = x.f0
    · rw [if_pos q] at e; exact .inl e.symm
    · rw [if_neg q] at e; rw [← e]; exact .inr hz
  · obtain ⟨u, v, e, hu, hv⟩ := row_split x l hs (fun y hy e => hm ⟨y, hy, e⟩)
    rw [e, putrow_mid x v hv u hu] at hy
    rw [e]
    rcases List.mem_append.1 hy with h | h
    · exact .inr (List.mem_append_left _ h)
    · rcases List.mem_cons.1 h with h | h
      · exact .inl h
      · exact .inr (List.mem_append_right _ h)
theorem table_put2 {l : List S37} (hT : tableB l = true) (x : S37) : tableB (putL l x) = (leaseOk x && decide ((putL l x).length ≤ 8)) := by
  cases hx : leaseOk x with
  | true => rw [table_put hT hx, Bool.true_and]
  | false =>
    cases h : tableB (putL l x) with
    | false => rfl
    | true => rw [ok_mem h (mem_put hT x)] at hx; cases hx
theorem refwith_eq (l : List S37) (x : S37) (hl : l.length ≤ 1048576) (hs : ∀ y ∈ l, y.f4.size ≤ 1048576) (hx : x.f4.size ≤ 1048576) : pinfoldref11_With.f l x.f0 x.f1 x.f2 x.f3 x.f4 x.f5 = some (withV l x) := by
  have hf : tabFitR l := ⟨by omega, fun y hy => by have := hs y hy; omega⟩
  unfold pinfoldref11_With.f pinfoldref11_put_c.f pinfoldref11_TableMay_c.f withV
  rw [if_pos (by omega), if_pos hf, Option.bind_some, Option.bind_some]
  cases hT : tableB l with
  | false => rfl
  | true =>
    rw [if_pos rfl, Bool.true_and]
    have hln := put_length hT x
    have h8 := (table_sorted hT).2.2
    have hf2 : tabFitR (putL l x) := ⟨by split at hln <;> omega, fun y hy => by
      rcases put_sub hT x y hy with e | e
      · rw [e]; omega
      · have := hs y e; omega⟩
    show (if tabFitR (putL l x) then some (tableB (putL l x)) else none).bind _ = _
    rw [if_pos hf2, Option.bind_some, table_put2 hT x]
    cases (leaseOk x && decide ((putL l x).length ≤ 8)) <;> rfl
/-- any leases, host, lease, client, time: every call is the document's; they stay. -/
theorem Tables : pinfoldlaw13_Tables.Pure := by
  intro l host a0 a1 a2 a3 a4 a5 c now wl _ _ _ _ _ wa _ _
  have hl : l.length ≤ 1048576 := wl.1
  have hs : ∀ y ∈ l, y.f4.size ≤ 1048576 := fun y hy => (wl.2 y hy).2.2.2.2.1
  obtain ⟨x, hx⟩ : ∃ x : S37, x = ⟨a0, a1, a2, a3, a4, a5⟩ := ⟨_, rfl⟩
  have ex : table_With.f l a0 a1 a2 a3 a4 a5 = table_With.f l x.f0 x.f1 x.f2 x.f3 x.f4 x.f5 := by rw [hx]
  have er : pinfoldref11_With.f l a0 a1 a2 a3 a4 a5 = pinfoldref11_With.f l x.f0 x.f1 x.f2 x.f3 x.f4 x.f5 := by rw [hx]
  have sx : x.f4.size ≤ 1048576 := by rw [hx]; exact wa
  refine ⟨l.length + 60, ?_⟩
  generalize hK : l.length + 59 = K
  rw [show l.length + 60 = K + 1 by omega]
  have hf : tabFit l := ⟨by omega, fun y hy => by have := hs y hy; omega⟩
  have hfr : tabFitR l := ⟨by omega, fun y hy => by have := hs y hy; omega⟩
  have hlv : (withV l x).1.length ≤ 8 := by
    unfold withV
    split
    · rename_i q
      simp only [Bool.and_eq_true, decide_eq_true_eq] at q
      exact q.2.2
    · exact Nat.zero_le _
  obtain ⟨r, hr⟩ := spoil_eq (withV l x).1 (by omega) K (by omega)
  have ha : pinfoldlaw13_awake.f K = some true := by
    obtain ⟨j, rfl⟩ : ∃ j, K = j + 40 := ⟨K - 40, by omega⟩
    exact at_rounds (g := fun k => pinfoldlaw13_awake.f k) pinfoldlaw13_awake.mono (k := 40) (by omega) (by kernel_rfl)
  have hk2 : pinfoldlaw0_KeptLeases.f K l l = some true := by
    have := samleases_l0 l (by omega) l.length K 0 (by omega) (by omega)
    rw [show ((0 : Nat) : Int) = 0 from rfl] at this
    unfold pinfoldlaw0_KeptLeases.f pinfoldlaw0_SameLeases.f
    rw [if_pos (by omega), if_pos rfl]
    exact this
  unfold pinfoldlaw13_Tables.f
  unfold pinfoldlaw0_LendLeases.f
  rw [if_pos (by omega), Option.bind_some, ex, tw_eq l x (by omega) (fun y hy => by have := hs y hy; omega) (by omega), Option.bind_some, er, refwith_eq l x hl hs sx, Option.bind_some]
  unfold table_Find_c.f pinfoldref11_FindLease_c.f table_Of.f pinfoldref11_Of_c.f table_May_c.f pinfoldref11_TableMay_c.f pinfoldlaw0_Num.f
  rw [if_pos (show l.length ≤ 140737488351232 by omega), Option.bind_some, Option.bind_some, if_pos hf, Option.bind_some, if_pos hfr, Option.bind_some, same_row (K + 1) _ hlv (by omega), Option.bind_some, if_pos rfl, Option.bind_some, if_pos rfl]
  simp only [beq_self_eq_true, Bool.not_true, Bool.or_self, Bool.false_eq_true, if_false, bne_self_eq_false]
  rw [if_pos hf, Option.bind_some, if_pos hfr, Option.bind_some, bne_self_eq_false, pinfoldlaw13_Tables.j0, if_neg (by decide), hr, Option.bind_some, hk2, Option.bind_some, if_pos rfl, ha]
  rfl

end Go.Proofs.Ytibmakpghbinbaa.Pure
