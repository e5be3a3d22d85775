-- Made by wip/pr.py out of the translation (a turned copy of the kit's print; contracts by hand where said).
import Derived.Test.YtibmakpghbinbaaPMx0
import Derived.Test.YtibmakpghbinbaaPMx2
import Derived.Test.YtibmakpghbinbaaPMx3
import Derived.Test.YtibmakpghbinbaaPMx4
import Derived.Test.YtibmakpghbinbaaPMx5
import Derived.Test.YtibmakpghbinbaaPMx6
namespace Go.Proofs.Ytibmakpghbinbaa.PM
open Go.RowKit Go.Proofs.YtibmakpghbinbaaW.PrintWords Go.Proofs.YtibmakpghbinbaaW.PrintLast Go.Proofs.YtibmakpghbinbaaW.PrintMore
-- shrunk
attribute [local go_sem] max2_int min2_int max_two min_two max_three min_three max_four min_four   -- for this text's walks alone
set_option linter.unusedVariables false
set_option linter.unusedSimpArgs false

/-! ### pinfoldlaw13_TableMap: function 5 -/
-- BY HAND
-- 29 18 20 25 16
-- inc twf.inc
-- behind table_With.calls pinfoldlaw0_SameLeases.calls
-- inc twith.inc
-- inc withput.inc
-- behind table_With.calls
def insR (lt : S37 → S37 → Bool) (x : S37) : List S37 → List S37 → List S37
 | [], b => x :: b
 | y :: ra, b => if lt x y = true then insR lt x ra (y :: b) else (y :: ra).reverse ++ x :: b
theorem wp_get (a : List S37) (x : S37) (b : List S37) (i : Nat) (h : a.length = i) : (a ++ x :: b).toArray[i]! = x := by
 subst h
 rw [getElem!_pos _ _ (by simp)]
 simp
theorem wp_swp (a : List S37) (y x : S37) (b : List S37) : Go.Sort.swp (a ++ y :: x :: b).toArray (a.length + 1) a.length = (a ++ x :: y :: b).toArray := by
 unfold Go.Sort.swp
 have e1 : (a ++ y :: x :: b).toArray[a.length]! = y := wp_get a y (x :: b) _ rfl
 have e2 : (a ++ y :: x :: b).toArray[a.length + 1]! = x := by
  rw [show a ++ y :: x :: b = (a ++ [y]) ++ x :: b by simp]
  exact wp_get (a ++ [y]) x b _ (by simp)
 rw [e1, e2, sa_, sa_]
 congr 1
 rw [List.set_append_right _ _ (by omega), show a.length + 1 - a.length = 1 by omega, sc_, sb_, List.set_append_right _ _ (by omega), Nat.sub_self, sb_]
theorem wp_inner (lt : S37 → S37 → Bool) (x : S37) : ∀ (ra b : List S37), Go.Sort.insInner lt 0 ra.length (ra.reverse ++ x :: b).toArray = (insR lt x ra b).toArray
 | [], b => rfl
 | y :: ra, b => by
  have h1 : ((y :: ra).reverse ++ x :: b).toArray[ra.length + 1]! = x := wp_get _ x b _ (by simp)
  have h2 : ((y :: ra).reverse ++ x :: b).toArray[ra.length]! = y := by
   rw [List.reverse_cons, List.append_assoc]
   exact wp_get _ y (x :: b) _ (by simp)
  have h3 : Go.Sort.swp ((y :: ra).reverse ++ x :: b).toArray (ra.length + 1) ra.length = (ra.reverse ++ x :: y :: b).toArray := by
   have := wp_swp ra.reverse y x b
   rw [List.length_reverse] at this
   rw [List.reverse_cons, List.append_assoc]
   exact this
  rw [List.length_cons, Go.Sort.insInner, h1, h2, h3]
  unfold insR
  cases lt x y with
  | true =>
   rw [show (decide (ra.length + 1 > 0) && true) = true by simp, if_pos rfl, if_pos rfl]
   exact wp_inner lt x ra (y :: b)
  | false => simp
/-- a row that stands in order stays. -/
theorem wp_rounds (lt : S37 → S37 → Bool) (l b : List S37) (hl : ∀ u y x v, l = u ++ y :: x :: v → lt x y = false) : ∀ (m i : Nat), 1 ≤ i → i + m = l.length → table_With.outer lt m i (l ++ b).toArray = (l ++ b).toArray
 | 0, _, _, _ => rfl
 | m + 1, i, h1, hi => by
  have hs : Go.Sort.insInner lt 0 i (l ++ b).toArray = (l ++ b).toArray := by
   obtain ⟨j, rfl⟩ : ∃ j, i = j + 1 := ⟨i - 1, by omega⟩
   have hj : j + 1 < l.length := by omega
   have e : l = l.take j ++ l[j] :: l[j + 1] :: l.drop (j + 2) := by
    rw [← List.drop_eq_getElem_cons hj, ← List.drop_eq_getElem_cons (by omega : j < l.length), List.take_append_drop]
   have h1 : (l ++ b).toArray[j + 1]! = l[j + 1] := by
    rw [getElem!_pos _ _ (by simp; omega)]
    simp [List.getElem_append_left hj]
   have h2 : (l ++ b).toArray[j]! = l[j] := by
    rw [getElem!_pos _ _ (by simp; omega)]
    simp [List.getElem_append_left (show j < l.length by omega)]
   rw [Go.Sort.insInner, h1, h2, hl _ _ _ _ e]
   simp
  rw [table_With.outer, hs]
  exact wp_rounds lt l b hl m (i + 1) (by omega) (by omega)
theorem wp_last (lt : S37 → S37 → Bool) (l : List S37) (x : S37) (hl : ∀ u y x v, l = u ++ y :: x :: v → lt x y = false) : (table_With.outer lt ((l ++ [x]).length - 1) 1 (l ++ [x]).toArray).toList = insR lt x l.reverse [] := by
 cases l with
 | nil => rfl
 | cons a r =>
  have key : ∀ (m i : Nat) (d : Array S37), table_With.outer lt (m + 1) i d = Go.Sort.insInner lt 0 (i + m) (table_With.outer lt m i d) := by
   intro m
   induction m with
   | zero => intro i d; rfl
   | succ m ih =>
    intro i d
    rw [table_With.outer, ih (i + 1)]
    conv => rhs; rw [table_With.outer]
    rw [show i + 1 + m = i + (m + 1) by omega]
  have e1 : ((a :: r) ++ [x]).length - 1 = r.length + 1 := by simp
  rw [e1, key, wp_rounds lt (a :: r) [x] hl r.length 1 (by omega) (by simp; omega)]
  have := wp_inner lt x (a :: r).reverse []
  rw [List.reverse_reverse, List.length_reverse] at this
  rw [show 1 + r.length = (a :: r).length by simp; omega, this]
theorem wp_ins (lt : S37 → S37 → Bool) (x : S37) (u : List S37) (hu : ∀ y ∈ u, lt x y = false) : ∀ (rv b : List S37), (∀ y ∈ rv, lt x y = true) → insR lt x (rv ++ u.reverse) b = u ++ x :: (rv.reverse ++ b)
 | [], b, _ => by
  rw [List.nil_append, List.reverse_nil, List.nil_append]
  cases hr : u.reverse with
  | nil =>
   have : u = [] := by simpa using hr
   rw [this]
   rfl
  | cons y ra =>
   have hy : lt x y = false := hu y (by rw [← List.mem_reverse, hr]; exact List.mem_cons_self)
   unfold insR
   rw [hy, if_neg (by decide), ← hr, List.reverse_reverse]
 | y :: rv, b, h => by
  rw [List.cons_append]
  unfold insR
  rw [h y List.mem_cons_self, if_pos rfl, wp_ins lt x u hu rv (y :: b) (fun z hz => h z (List.mem_cons_of_mem _ hz))]
  simp
theorem wp_split (x : S37) : ∀ (l : List S37), l.Pairwise (fun a b => a.f0 < b.f0) → (∀ y ∈ l, y.f0 ≠ x.f0) → ∃ u v, l = u ++ v ∧ (∀ y ∈ u, y.f0 < x.f0) ∧ ∀ y ∈ v, x.f0 < y.f0
 | [], _, _ => ⟨[], [], rfl, (fun y h => by cases h), (fun y h => by cases h)⟩
 | y :: r, hs, hn => by
  obtain ⟨h1, h2⟩ := List.pairwise_cons.1 hs
  by_cases q : y.f0 < x.f0
  ·obtain ⟨u, v, e, hu, hv⟩ := wp_split x r h2 (fun z hz => hn z (List.mem_cons_of_mem _ hz))
   refine ⟨y :: u, v, by rw [e]; rfl, ?_, hv⟩
   intro z hz
   rcases List.mem_cons.1 hz with e | e
   ·rw [e]; exact q
   ·exact hu z e
  ·refine ⟨[], y :: r, rfl, (fun z h => by cases h), ?_⟩
   have := hn y List.mem_cons_self
   intro z hz
   rcases List.mem_cons.1 hz with e | e
   ·rw [e]; omega
   ·have := h1 z e; omega
theorem put_mid (x : S37) (v : List S37) (hv : ∀ y ∈ v, x.f0 < y.f0) : ∀ (u : List S37), (∀ y ∈ u, y.f0 < x.f0) → putGo x false (u ++ v) = u ++ x :: v
 | [], _ => by
  rw [List.nil_append, List.nil_append]
  cases v with
  | nil => rfl
  | cons y r =>
   have hy := hv y List.mem_cons_self
   unfold putGo
   rw [if_pos ⟨rfl, by omega⟩, if_neg (by omega), decide_eq_true (by omega), Bool.or_true, put_done r x (fun z hz => by have := hv z (List.mem_cons_of_mem _ hz); omega)]
   rfl
 | y :: u, hu => by
  have hy := hu y List.mem_cons_self
  rw [List.cons_append, List.cons_append]
  unfold putGo
  rw [if_neg (by omega), if_neg (by omega), decide_eq_false (by omega), Bool.or_false, put_mid x v hv u (fun z hz => hu z (List.mem_cons_of_mem _ hz))]
  rfl
theorem lease_host {x : S37} (h : leaseOk x = true) : 2 ≤ x.f0 ∧ x.f0 ≤ 254 := by
 have h1 : leaseB x.f0 x.f1 x.f2 x.f3 x.f4 x.f5 = true := h
 unfold leaseB at h1
 simp only [Bool.and_eq_true, decide_eq_true_eq] at h1
 exact h1.1.1.1.1
theorem cf_lt (x y : S37) (hx : 2 ≤ x.f0 ∧ x.f0 ≤ 254) (hy : 2 ≤ y.f0 ∧ y.f0 ≤ 254) : ltOf table_With.cf x y = decide (x.f0 < y.f0) := by
 unfold ltOf table_With.cf
 rw [show wrap64 (x.f0 - y.f0) = x.f0 - y.f0 by unfold wrap64; omega, decide_eq_decide]
 omega
/-- With's row is the document's. -/
theorem with_put (l : List S37) (x : S37) (hT : tableB l = true) (hx : leaseOk x = true) : table_With.out l x = putL l x := by
 obtain ⟨hok, hs, h8⟩ := table_sorted hT
 have hxb := lease_host hx
 unfold table_With.out putL
 by_cases hm : ∃ y ∈ l, y.f0 = x.f0
 ·rw [put_swap l x hs hm]
  obtain ⟨y, hy, hye⟩ := hm
  obtain ⟨i, hi, rfl⟩ := List.getElem_of_mem hy
  have hne : ∀ (j : Nat) (hj : j < l.length), l[j].f0 = x.f0 → j = i := by
   intro j hj e
   rcases Nat.lt_trichotomy j i with h | h | h
   ·have := List.pairwise_iff_getElem.1 hs j i hj hi h; omega
   ·exact h
   ·have := List.pairwise_iff_getElem.1 hs i j hi hj h; omega
  have he : table_at.idx (fun y => y.f0 == x.f0) l = (i : Int) := table_at.idx_hit _ l i hi (by simpa using hye) (fun j hj hji => by
   rw [beq_eq_false_iff_ne]
   intro e
   have := hne j hj e
   omega)
  rw [he, if_pos (by omega), Int.toNat_natCast]
  refine List.ext_getElem (by unfold swapL; rw [List.length_set, List.length_map]) (fun j h1 h2 => ?_)
  have hj : j < l.length := by rw [List.length_set] at h1; exact h1
  have e5 : (swapL l x.f0 x)[j]'h2 = (if l[j].f0 = x.f0 then x else l[j]) := by simp only [swapL, List.getElem_map]
  rw [List.getElem_set, e5]
  by_cases e : i = j
  ·subst e
   rw [if_pos rfl, if_pos hye]
  ·rw [if_neg e, if_neg (fun h => e (hne j hj h).symm)]
 ·have hn : ∀ y ∈ l, y.f0 ≠ x.f0 := fun y hy e => hm ⟨y, hy, e⟩
  have he : table_at.idx (fun y => y.f0 == x.f0) l = -1 := table_at.idx_miss _ l (fun j hj => by
   rw [beq_eq_false_iff_ne]
   exact hn _ (List.getElem_mem hj))
  rw [he, if_neg (by decide)]
  have hlt : ∀ y ∈ l, ltOf table_With.cf x y = decide (x.f0 < y.f0) := fun y hy => cf_lt x y hxb (lease_host (hok y hy))
  obtain ⟨u, v, e, hu, hv⟩ := wp_split x l hs hn
  unfold table_With.srt
  rw [wp_last (ltOf table_With.cf) l x (fun a y z b e => by
   have hy : y ∈ l := by rw [e]; simp
   have hz : z ∈ l := by rw [e]; simp
   have h1 := (List.pairwise_append.1 (by rw [e] at hs; exact hs)).2.1
   have h2 := (List.pairwise_cons.1 h1).1 z List.mem_cons_self
   rw [cf_lt z y (lease_host (hok z hz)) (lease_host (hok y hy)), decide_eq_false (by omega)])]
  have e2 : l.reverse = v.reverse ++ u.reverse := by rw [e, List.reverse_append]
  rw [e2, wp_ins (ltOf table_With.cf) x u (fun y hy => by rw [hlt y (by rw [e]; exact List.mem_append_left _ hy), decide_eq_false (by have := hu y hy; omega)]) v.reverse [] (fun y hy => by
   have hy2 : y ∈ v := by simpa using hy
   rw [hlt y (by rw [e]; exact List.mem_append_right _ hy2), decide_eq_true (hv y hy2)])]
  rw [List.reverse_reverse, List.append_nil, e, put_mid x v hv u hu]
theorem mem_insR (lt : S37 → S37 → Bool) (x : S37) : ∀ (ra b : List S37), x ∈ insR lt x ra b
 | [], b => List.mem_cons_self
 | y :: ra, b => by
  unfold insR
  split
  ·exact mem_insR lt x ra (y :: b)
  ·exact List.mem_append_right _ List.mem_cons_self
/-- what is put in stands in the row. -/
theorem mem_out {l : List S37} (hT : tableB l = true) (x : S37) : x ∈ table_With.out l x := by
 obtain ⟨hok, hs, _⟩ := table_sorted hT
 have hlt := table_at.idx_lt (fun y => y.f0 == x.f0) l
 unfold table_With.out
 by_cases q : table_at.idx (fun y => y.f0 == x.f0) l ≥ 0
 ·rw [if_pos q]
  have hi : (table_at.idx (fun y => y.f0 == x.f0) l).toNat < l.length := by omega
  exact List.mem_iff_getElem.2 ⟨_, by rw [List.length_set]; exact hi, by rw [List.getElem_set, if_pos rfl]⟩
 ·rw [if_neg q]
  unfold table_With.srt
  rw [wp_last (ltOf table_With.cf) l x (fun a y z b e => by
   have hy : y ∈ l := by rw [e]; simp
   have hz : z ∈ l := by rw [e]; simp
   have h1 := (List.pairwise_append.1 (by rw [e] at hs; exact hs)).2.1
   have h2 := (List.pairwise_cons.1 h1).1 z List.mem_cons_self
   rw [cf_lt z y (lease_host (hok z hz)) (lease_host (hok y hy)), decide_eq_false (by omega)])]
  exact mem_insR _ _ _ _
theorem ok_mem {l : List S37} (hT : tableB l = true) {x : S37} (hx : x ∈ l) : leaseOk x = true := (table_sorted hT).1 x hx
/-- what With answers. -/
def withV (l : List S37) (x : S37) : List S37 × Int := if (tableB l && (leaseOk x && decide ((putL l x).length ≤ 8))) = true then (putL l x, 0) else ([], 1300)
theorem with_out {l : List S37} (hT : tableB l = true) (x : S37) : tableB (table_With.out l x) = (leaseOk x && decide ((putL l x).length ≤ 8)) := by
 cases hx : leaseOk x with
 | true => rw [with_put l x hT hx, table_put hT hx, Bool.true_and]
 | false =>
  cases h : tableB (table_With.out l x) with
  | false => rfl
  | true => rw [ok_mem h (mem_out hT x)] at hx; cases hx
theorem find_none_of {l : List S37} {h : Int} (hn : ∀ x ∈ l, x.f0 ≠ h) : findL l h = none := by
 unfold findL
 rw [List.find?_eq_none]
 intro x hx e
 exact hn x hx (by simpa using e)
/-- two rows in order that find the same are one. -/
theorem row_ext : ∀ (l1 l2 : List S37), l1.Pairwise (fun a b => a.f0 < b.f0) → l2.Pairwise (fun a b => a.f0 < b.f0) → (∀ h, findL l1 h = findL l2 h) → l1 = l2
 | [], [], _, _, _ => rfl
 | [], y :: r, _, h2, h => by
  have e := h y.f0
  rw [find_of h2 List.mem_cons_self] at e
  cases e
 | x :: r, [], h1, _, h => by
  have e := h x.f0
  rw [find_of h1 List.mem_cons_self] at e
  cases e
 | x :: r, y :: s, h1, h2, h => by
  obtain ⟨a1, b1⟩ := List.pairwise_cons.1 h1
  obtain ⟨a2, b2⟩ := List.pairwise_cons.1 h2
  have hx : x ∈ y :: s := by
   have e := h x.f0
   rw [find_of h1 List.mem_cons_self] at e
   exact (find_some e.symm).1
  have hy : y ∈ x :: r := by
   have e := h y.f0
   rw [find_of h2 List.mem_cons_self] at e
   exact (find_some e).1
  have hxy : x = y := by
   rcases List.mem_cons.1 hx with e | e
   ·exact e
   ·have q1 := a2 x e
    rcases List.mem_cons.1 hy with e2 | e2
    ·exact e2.symm
    ·have q2 := a1 y e2
     omega
  subst hxy
  congr 1
  refine row_ext r s b1 b2 (fun q => ?_)
  by_cases c : q = x.f0
  ·rw [find_none_of (fun z hz => by have := a1 z hz; omega), find_none_of (fun z hz => by have := a2 z hz; omega)]
  ·have e := h q
   have g : ∀ t : List S37, findL (x :: t) q = findL t q := fun t => by
    unfold findL
    rw [List.find?_cons, show (x.f0 == q) = false from beq_eq_false_iff_ne.2 (fun e => c e.symm)]
   rw [g, g] at e
   exact e
theorem put_sorted {l : List S37} {x : S37} (hT : tableB l = true) (hx : leaseOk x = true) : (putL l x).Pairwise (fun a b => a.f0 < b.f0) := (goTab_sorted _ none (go_put hT hx)).2.1
theorem put_length {l : List S37} (hT : tableB l = true) (x : S37) : (putL l x).length = l.length + (if (findL l x.f0).isSome = true then 0 else 1) := by
 obtain ⟨_, hs, _⟩ := table_sorted hT
 unfold putL
 by_cases hm : ∃ y ∈ l, y.f0 = x.f0
 ·rw [put_swap l x hs hm]
  obtain ⟨y, hy, e⟩ := hm
  rw [← e, find_of hs hy]
  unfold swapL
  rw [List.length_map]
  rfl
 ·rw [find_none_of (fun y hy e => hm ⟨y, hy, e⟩)]
  obtain ⟨u, v, e, hu, hv⟩ := row_split x l hs (fun y hy e => hm ⟨y, hy, e⟩)
  rw [e, putrow_mid x v hv u hu]
  simp only [List.length_append, List.length_cons, Option.isSome_none, Bool.false_eq_true, if_false]
  omega
theorem put_again {l : List S37} {x : S37} (hT : tableB l = true) (hx : leaseOk x = true) (h8 : (putL l x).length ≤ 8) : putL (putL l x) x = putL l x := by
 have hA : tableB (putL l x) = true := by rw [table_put hT hx, decide_eq_true h8]
 refine row_ext _ _ (put_sorted hA hx) (put_sorted hT hx) (fun h => ?_)
 rw [find_put hA hx, find_put hT hx]
 split <;> rfl
theorem put_swap2 {l : List S37} {a b : S37} (hT : tableB l = true) (ha : leaseOk a = true) (hb : leaseOk b = true) (hne : a.f0 ≠ b.f0) (h1 : (putL l a).length ≤ 8) (h2 : (putL (putL l a) b).length ≤ 8) : (putL l b).length ≤ 8 ∧ (putL (putL l b) a).length ≤ 8 ∧ putL (putL l a) b = putL (putL l b) a := by
 have hA : tableB (putL l a) = true := by rw [table_put hT ha, decide_eq_true h1]
 have e1 := put_length hT a
 have e2 := put_length hA b
 rw [find_put hT ha, show (if b.f0 = a.f0 then some a else findL l b.f0) = findL l b.f0 from if_neg (fun e => hne e.symm)] at e2
 have e3 := put_length hT b
 have h3 : (putL l b).length ≤ 8 := by omega
 have hB : tableB (putL l b) = true := by rw [table_put hT hb, decide_eq_true h3]
 have e4 := put_length hB a
 rw [find_put hT hb, show (if a.f0 = b.f0 then some b else findL l a.f0) = findL l a.f0 from if_neg hne] at e4
 refine ⟨h3, by omega, row_ext _ _ (put_sorted hA hb) (put_sorted hB ha) (fun h => ?_)⟩
 rw [find_put hA hb, find_put hT ha, find_put hB ha, find_put hT hb]
 by_cases q : h = b.f0
 ·rw [if_pos q, if_neg (fun e => hne (e.symm.trans q)), if_pos q]
 ·rw [if_neg q, if_neg q]
theorem insR_sub (lt : S37 → S37 → Bool) (x : S37) : ∀ (ra b : List S37), ∀ y ∈ insR lt x ra b, y = x ∨ y ∈ ra ∨ y ∈ b
 | [], b, y, h => by
  rcases List.mem_cons.1 h with e | e
  ·exact .inl e
  ·exact .inr (.inr e)
 | z :: ra, b, y, h => by
  unfold insR at h
  split at h
  ·rcases insR_sub lt x ra (z :: b) y h with e | e | e
   ·exact .inl e
   ·exact .inr (.inl (List.mem_cons_of_mem _ e))
   ·rcases List.mem_cons.1 e with e | e
    ·exact .inr (.inl (by rw [e]; exact List.mem_cons_self))
    ·exact .inr (.inr e)
  ·rcases List.mem_append.1 h with e | e
   ·exact .inr (.inl (List.mem_reverse.1 e))
   ·rcases List.mem_cons.1 e with e | e
    ·exact .inl e
    ·exact .inr (.inr e)
theorem out_sub {l : List S37} (hT : tableB l = true) (x : S37) : ∀ y ∈ table_With.out l x, y = x ∨ y ∈ l := by
 obtain ⟨hok, hs, _⟩ := table_sorted hT
 intro y hy
 unfold table_With.out at hy
 by_cases q : table_at.idx (fun y => y.f0 == x.f0) l ≥ 0
 ·rw [if_pos q] at hy
  rcases List.mem_or_eq_of_mem_set hy with e | e
  ·exact .inr e
  ·exact .inl e
 ·rw [if_neg q] at hy
  unfold table_With.srt at hy
  rw [wp_last (ltOf table_With.cf) l x (fun a y z b e => by
   have hy : y ∈ l := by rw [e]; simp
   have hz : z ∈ l := by rw [e]; simp
   have h1 := (List.pairwise_append.1 (by rw [e] at hs; exact hs)).2.1
   have h2 := (List.pairwise_cons.1 h1).1 z List.mem_cons_self
   rw [cf_lt z y (lease_host (hok z hz)) (lease_host (hok y hy)), decide_eq_false (by omega)])] at hy
  rcases insR_sub _ _ _ _ y hy with e | e | e
  ·exact .inl e
  ·exact .inr (List.mem_reverse.1 e)
  ·cases e
theorem out_len (l : List S37) (x : S37) : (table_With.out l x).length ≤ l.length + 1 := by
 unfold table_With.out
 split
 ·rw [List.length_set]; omega
 ·rw [table_With.srt_length]; simp
theorem tname_size (s : ByteArray) (h : nameB (bytesOf s) = true) : s.size ≤ 72 := by
 have e : s.size = (bytesOf s).length := by
  unfold bytesOf
  rw [List.length_map]
  first | rfl | simp
 rw [e]
 exact name_short _ h
theorem table_names {l : List S37} (hT : tableB l = true) {y : S37} (hy : y ∈ l) : y.f4.size ≤ 72 := by
 have h1 : leaseB y.f0 y.f1 y.f2 y.f3 y.f4 y.f5 = true := ok_mem hT hy
 unfold leaseB at h1
 simp only [Bool.and_eq_true] at h1
 exact tname_size _ h1.2
-- inc samelease.inc
theorem samleases_l0 (l : List S37) (hl : l.length ≤ 140737488351232) : ∀ (d k i : Nat), i + d = l.length → d + 1 ≤ k → pinfoldlaw0_SameLeases.l0 k l l (i : Int) = some true
 | 0, k, i, hi, hk => by
  obtain ⟨k, rfl⟩ : ∃ j, k = j + 1 := ⟨k - 1, by omega⟩
  rw [pinfoldlaw0_SameLeases.l0, if_neg (by omega)]
 | d + 1, k, i, hi, hk => by
  obtain ⟨k, rfl⟩ : ∃ j, k = j + 1 := ⟨k - 1, by omega⟩
  rw [pinfoldlaw0_SameLeases.l0, if_pos (by omega), if_pos (by omega), if_pos (by omega), if_neg (by simp), wrap_succ i l.length (by omega) hl]
  exact samleases_l0 l hl d k (i + 1) (by omega) (by omega)
theorem tw_eq (l : List S37) (x : S37) (hl : l.length ≤ 2199023255488) (hs : ∀ y ∈ l, y.f4.size ≤ 140737488351232) (hx : x.f4.size ≤ 140737488351232) : table_With.f l x.f0 x.f1 x.f2 x.f3 x.f4 x.f5 = some (withV l x) := by
 have hf : tabFit l := ⟨by omega, hs⟩
 unfold table_With.f table_May_c.f withV
 rw [if_pos hl, if_pos hf, Option.bind_some]
 cases hT : tableB l with
 | false => rfl
 | true =>
  rw [if_pos rfl, Bool.true_and]
  have hm : ∀ y ∈ table_With.out l x, y = x ∨ y ∈ l := fun y hy => out_sub hT x y hy
  have hf2 : tabFit (table_With.out l x) := ⟨by have h1 := out_len l x; have h2 := (table_sorted hT).2.2; omega, fun y hy => by
   rcases hm y hy with e | e
   ·rw [e]; exact hx
   ·exact hs y e⟩
  show (if tabFit (table_With.out l x) then some (tableB (table_With.out l x)) else none).bind _ = _
  rw [if_pos hf2, Option.bind_some, with_out hT x]
  cases hq : (leaseOk x && decide ((putL l x).length ≤ 8)) with
  | false => rfl
  | true =>
   rw [Bool.and_eq_true] at hq
   rw [if_pos rfl, if_pos rfl]
   exact congrArg some (Prod.ext (with_put l x hT hq.1) rfl)
theorem same_row (k : Nat) (l : List S37) (h8 : l.length ≤ 8) (hk : 10 ≤ k) : pinfoldlaw0_SameLeases.f k l l = some true := by
 have := samleases_l0 l (by omega) l.length k 0 (by omega) (by omega)
 rw [show ((0 : Nat) : Int) = 0 from rfl] at this
 unfold pinfoldlaw0_SameLeases.f
 rw [if_pos rfl]
 exact this
/-- block b is the array that holds these numbers. -/
def pinfoldlaw13_TableMap.Own (w : World) (b : Nat) (f : Nat → Int) : Prop :=
 ∃ cells : Array Value, w.heap[b]? = some (.cells cells 49 (0, 0)) ∧ cells.size = 256 ∧ ∀ j : Nat, j < 256 → cells[j]? = some (.int .i64 (f j))
theorem pinfoldlaw13_TableMap.run_new (w : World) : (Instr.alloc 49 true (.tuple #[])).run Try.prog w = .ok (.pointer (some ⟨w.heap.size, 0, none⟩)) (w.alloc (.cells (Array.replicate 256 (.int .i64 0)) 49 (0, 0))) := by kernel_rfl
theorem pinfoldlaw13_TableMap.Own.new (w : World) : pinfoldlaw13_TableMap.Own (w.alloc (.cells (Array.replicate 256 (.int .i64 0)) 49 (0, 0))) w.heap.size (fun _ => 0) := by
 refine ⟨_, blk_new _ _, by simp, fun j hj => ?_⟩
 simp [hj]
theorem pinfoldlaw13_TableMap.Own.cell {w : World} {b : Nat} {f : Nat → Int} (h : pinfoldlaw13_TableMap.Own w b f) {j : Nat} (hj : j < 256) : w.cell? ⟨b, j, none⟩ = some (.int .i64 (f j)) := by
 obtain ⟨cells, e, hs, hc⟩ := h
 rw [bc_ e, hc j hj]
theorem pinfoldlaw13_TableMap.Own.frozen {w : World} {b : Nat} {f : Nat → Int} (h : pinfoldlaw13_TableMap.Own w b f) (j : Nat) : w.frozen? ⟨b, j, none⟩ = false := by
 obtain ⟨cells, e, _⟩ := h
 exact bf_ e j
theorem pinfoldlaw13_TableMap.Own.below {w w1 : World} {b : Nat} {f : Nat → Int} (h : pinfoldlaw13_TableMap.Own w b f) (hb : Below w.heap.size w w1) : pinfoldlaw13_TableMap.Own w1 b f := by
 obtain ⟨cells, e, hs, hc⟩ := h
 exact ⟨cells, kb_ e hb, hs, hc⟩
theorem pinfoldlaw13_TableMap.Own.drewN {w : World} {b : Nat} {f : Nat → Int} (h : pinfoldlaw13_TableMap.Own w b f) (k : Nat) : pinfoldlaw13_TableMap.Own (w.drewN k) b f := h
def pinfoldlaw13_TableMap.up (f : Nat → Int) (j : Nat) (u : Int) : Nat → Int := fun q => if q = j then u else f q
theorem pinfoldlaw13_TableMap.Own.set {w : World} {b : Nat} {f : Nat → Int} (h : pinfoldlaw13_TableMap.Own w b f) {j : Nat} (hj : j < 256) (u : Int) : pinfoldlaw13_TableMap.Own (w.setCell ⟨b, j, none⟩ (.int .i64 u)) b (pinfoldlaw13_TableMap.up f j u) := by
 obtain ⟨cells, e, hs, hc⟩ := h
 refine ⟨_, blk_set e _ _, by simpa using hs, fun q hq => ?_⟩
 unfold pinfoldlaw13_TableMap.up
 by_cases hjc : q = j
 ·subst hjc
  rw [Array.getElem?_setIfInBounds_self_of_lt (by omega), if_pos rfl]
 ·rw [Array.getElem?_setIfInBounds_ne (fun e => hjc e.symm), hc q hq, if_neg hjc]
/-- the row holds these times, by hosts. -/
structure pinfoldlaw13_TableMap.TM (T : List S37) (f : Nat → Int) : Prop where
 table : tableB T = true
 find : ∀ j : Nat, findL T (j : Int) = if 0 < f j then some (⟨(j : Int), 0, (⟨#[]⟩ : ByteArray), f j, (⟨#[]⟩ : ByteArray), false⟩ : S37) else none
 pos : ∀ j, 0 < f j → 2 ≤ j ∧ j ≤ 13
 bnd : ∀ j, 0 ≤ f j ∧ f j ≤ 65536
theorem pinfoldlaw13_TableMap.TM.nil : pinfoldlaw13_TableMap.TM [] (fun _ => 0) where
 table := by kernel_rfl
 find j := rfl
 pos j h := by simp at h
 bnd j := by simp
theorem pinfoldlaw13_TableMap.ok {h : Nat} {u : Int} (h0 : 2 ≤ h) (h1 : h ≤ 13) (u0 : 1 ≤ u) (u1 : u ≤ 65536) : leaseOk (⟨(h : Int), 0, (⟨#[]⟩ : ByteArray), u, (⟨#[]⟩ : ByteArray), false⟩ : S37) = true := by
 show leaseB (h : Int) 0 (⟨#[]⟩ : ByteArray) u (⟨#[]⟩ : ByteArray) false = true
 unfold leaseB
 rw [decide_eq_true (show 2 ≤ (h : Int) ∧ (h : Int) ≤ 254 by omega), decide_eq_true (show 0 ≤ u ∧ u ≤ 1099511627776 by omega)]
 kernel_rfl
theorem pinfoldlaw13_TableMap.TM.put {T : List S37} {f : Nat → Int} (H : pinfoldlaw13_TableMap.TM T f) {h : Nat} {u : Int} (h0 : 2 ≤ h) (h1 : h ≤ 13) (u0 : 1 ≤ u) (u1 : u ≤ 65536) (h8 : (putL T (⟨(h : Int), 0, (⟨#[]⟩ : ByteArray), u, (⟨#[]⟩ : ByteArray), false⟩ : S37)).length ≤ 8) : pinfoldlaw13_TableMap.TM (putL T (⟨(h : Int), 0, (⟨#[]⟩ : ByteArray), u, (⟨#[]⟩ : ByteArray), false⟩ : S37)) (pinfoldlaw13_TableMap.up f h u) where
 table := by rw [table_put H.table (pinfoldlaw13_TableMap.ok h0 h1 u0 u1), decide_eq_true h8]
 find j := by
  rw [find_put H.table (pinfoldlaw13_TableMap.ok h0 h1 u0 u1)]
  unfold pinfoldlaw13_TableMap.up
  by_cases q : j = h
  ·subst q
   rw [if_pos rfl, if_pos rfl, if_pos (by omega)]
  ·rw [if_neg (fun e => q (by have e2 : (j : Int) = (h : Int) := e; omega)), if_neg q, H.find j]
 pos j hj := by
  unfold pinfoldlaw13_TableMap.up at hj
  by_cases q : j = h
  ·omega
  ·rw [if_neg q] at hj
   exact H.pos j hj
 bnd j := by
  unfold pinfoldlaw13_TableMap.up
  have := H.bnd j
  split <;> omega
theorem pinfoldlaw13_TableMap.len {T : List S37} {f : Nat → Int} (H : pinfoldlaw13_TableMap.TM T f) (h : Nat) (u : Int) : (putL T (⟨(h : Int), 0, (⟨#[]⟩ : ByteArray), u, (⟨#[]⟩ : ByteArray), false⟩ : S37)).length = T.length + (if 0 < f h then 0 else 1) := by
 rw [put_length H.table, show ((⟨(h : Int), 0, (⟨#[]⟩ : ByteArray), u, (⟨#[]⟩ : ByteArray), false⟩ : S37)).f0 = (h : Int) from rfl, H.find h]
 split <;> rfl
theorem pinfoldlaw13_TableMap.says {T : List S37} {f : Nat → Int} (H : pinfoldlaw13_TableMap.TM T f) {h : Nat} {u : Int} (h0 : 2 ≤ h) (h1 : h ≤ 13) (u0 : 1 ≤ u) (u1 : u ≤ 65536) : table_With.f T (h : Int) 0 (⟨#[]⟩ : ByteArray) u (⟨#[]⟩ : ByteArray) false = some (if 0 < f h ∨ T.length < 8 then (putL T (⟨(h : Int), 0, (⟨#[]⟩ : ByteArray), u, (⟨#[]⟩ : ByteArray), false⟩ : S37), 0) else ([], 1300)) := by
 have h8 := (table_sorted H.table).2.2
 have e := tw_eq T (⟨(h : Int), 0, (⟨#[]⟩ : ByteArray), u, (⟨#[]⟩ : ByteArray), false⟩ : S37) (by omega) (fun y hy => by have := table_names H.table hy; omega) (show (⟨#[]⟩ : ByteArray).size ≤ _ by decide)
 refine e.trans ?_
 unfold withV
 rw [H.table, pinfoldlaw13_TableMap.ok h0 h1 u0 u1, pinfoldlaw13_TableMap.len H h u]
 by_cases q : 0 < f h ∨ T.length < 8
 ·rw [if_pos q, if_pos]
  rw [decide_eq_true (by split <;> omega)]
  rfl
 ·rw [if_neg q, if_neg]
  rw [decide_eq_false (by rw [if_neg (fun e => q (.inl e))]; omega)]
  decide
def pinfoldlaw13_TableMap.f (l0 l1 : List Int) : Option Bool := if l0.length ≤ 140737488351232 ∧ l1.length ≤ 140737488351232 then some true else none

set_option maxHeartbeats 8000000 in
set_option maxRecDepth 100000 in
theorem pinfoldlaw13_TableMap.calls (A0 : Option Addr) (c0 : Nat) (l0 : List Int) (A1 : Option Addr) (c1 : Nat) (l1 : List Int) (r : Bool) (w : World) (hr0 : Kd.C (Kd.int .i64) w A0 l0.length l0) (hc0 : l0.length ≤ c0) (hr1 : Kd.C (Kd.int .i64) w A1 l1.length l1) (hc1 : l1.length ≤ c1) (h : pinfoldlaw13_TableMap.f l0 l1 = some r) :
  Calls Try.prog 5 #[.slice A0 l0.length c0, .slice A1 l1.length c1] w fun e w' => e = .returned (.bool r) ∧ Below w.heap.size w w' := by
 unfold pinfoldlaw13_TableMap.f at h
 by_cases hs : l0.length ≤ 140737488351232 ∧ l1.length ≤ 140737488351232
 rotate_left
 ·rw [if_neg hs] at h
  cases h
 rw [if_pos hs] at h
 obtain rfl := e5_ h
 obtain ⟨hs0, hs1⟩ := hs
 have HR0 := am_ hr0
 have HR1 := am_ hr1
 have CA := am_ (fun W => pinfoldlaw13_awake.calls 40 true W (by kernel_rfl))
 have CN := am_ (fun (x : Int) W => pinfoldlaw0_Num.calls x x W rfl)
 have HB := am_ (Below.refl w.heap.size w)
 have hmm := pinfoldlaw13_TableMap.run_new
 clear h hr0 hr1 hc0 hc1
 go_enter Try.func5, Try.ntmps5
 go_wp2_with (first | (go_at_call 29; (with_reducible refine (CA.out _).mono ?_); rintro e w1 ⟨rfl, hb2⟩; replace HB := am_ (bt_ HB.out hb2); clear hb2))
 clear hmm CA
 have HO := am_ (pinfoldlaw13_TableMap.Own.new w1)
 have NB := am_ (show w.heap.size ≤ w1.heap.size from bz_ HB.out)
 replace HB := am_ (p3_ HB.out (.cells (Array.replicate 256 (.int .i64 0)) 49 (0, 0)))
 generalize w1.heap.size = nb at HO NB ⊢
 go_loopg [5, 7, 8] 30 (fun d v5 v7 v8 w' => ∃ (i : Nat) (T : List S37) (f : Nat → Int), i + d = 30 ∧ v8 = .int .i64 (i : Int) ∧ v7 = .int .i64 (T.length : Int) ∧ Aside0 (pinfoldlaw13_TableMap.TM T f) ∧ Aside0 (Kd.R k37 37 w' w.heap.size (fun k => k ≠ nb) v5 T) ∧ Aside0 (pinfoldlaw13_TableMap.Own w' nb f) ∧ Aside0 (Below w.heap.size w w'))
 case atStart => exact ⟨0, [], fun _ => 0, by omega, rfl, rfl, ⟨pinfoldlaw13_TableMap.TM.nil⟩, ⟨Kd.R_nil _ _ _ _ _⟩, HO, HB⟩
 case round =>
  clear HB HO
  obtain ⟨i, T, f, hd, rfl, rfl, HT, HV, HO, HB⟩ := hrel
  have h8 := (table_sorted HT.out.table).2.2
  obtain ⟨A, c, rfl, hcT, hC⟩ := Kd.R_reads HV.out
  have HC := am_ hC
  have HCT := am_ hcT
  clear hC hcT
  by_cases hlt : i < l0.length ∧ i < 30
  ·obtain ⟨hl0, h30⟩ := hlt
   have hlz : (i : Int) < (l0.length : Int) := by omega
   have h3z : (i : Int) < 30 := by omega
   obtain ⟨ad, e1, hx⟩ := Kd.at_int HR0.out (i : Int) (by omega) hlz
   cases e1
   replace hx := (HB.out.cell (wb_ w _ hx)).trans hx
   rw [Int.toNat_natCast] at hx
   generalize rd l0 (i : Int) = x at hx
   obtain ⟨j, hj, hj12⟩ : ∃ j : Nat, wrap64 (Int.tmod (IntKind.u64.wrap x) 12) = (j : Int) ∧ j < 12 := by
    rw [u64_eq]
    have g1 : 0 ≤ x % 18446744073709551616 := Int.emod_nonneg _ (by decide)
    rw [Int.tmod_eq_emod_of_nonneg g1, w64 (by omega)]
    exact ⟨(x % 18446744073709551616 % 12).toNat, by omega, by omega⟩
   have hjw : IntKind.i64.wrap (Int.tmod (IntKind.u64.wrap x) 12) = (j : Int) := (i64_w _).trans hj
   obtain ⟨h, hh⟩ : ∃ h : Nat, 2 + j = h := ⟨_, rfl⟩
   have eh : (2 : Int) + (j : Int) = (h : Int) := by omega
   have h2 : 2 ≤ h := by omega
   have h13 : h ≤ 13 := by omega
   clear hj
   have NBL := am_ (show nb < wr.heap.size from by obtain ⟨_, e, _⟩ := HO.out; exact blk_lt e)
   by_cases hun : i < l1.length
   all_goals first
    | (
      obtain ⟨ad1, e1, hy⟩ := Kd.at_int HR1.out (i : Int) (by omega) (show (i : Int) < (l1.length : Int) by omega)
      cases e1
      replace hy := (HB.out.cell (wb_ w _ hy)).trans hy
      rw [Int.toNat_natCast] at hy
      generalize rd l1 (i : Int) = y at hy
      have hb0 := and_65535 y
      have g0 := Int.emod_nonneg y (show (65536 : Int) ≠ 0 by decide)
      have g1 := Int.emod_lt_of_pos y (show (0 : Int) < 65536 by decide)
      generalize y % 65536 = eb at hb0 g0 g1
      obtain ⟨u, eu⟩ : ∃ u, (1 : Int) + eb = u := ⟨_, rfl⟩
      have u0 : 1 ≤ u := by omega
      have u1 : u ≤ 65536 := by omega
      have hz1 : (i : Int) < (l1.length : Int) := by omega)
    | (
      obtain ⟨u, eu⟩ : ∃ u, (1 : Int) + (i : Int) = u := ⟨_, rfl⟩
      have u0 : 1 ≤ u := by omega
      have u1 : u ≤ 65536 := by omega
      have hz1 : ¬ (i : Int) < (l1.length : Int) := by omega)
   all_goals
    obtain ⟨fh, hfh⟩ : ∃ q, f h = q := ⟨_, rfl⟩
    have hys := pinfoldlaw13_TableMap.says HT.out h2 h13 u0 u1
    have hln := pinfoldlaw13_TableMap.len HT.out h u
    have hbd := HT.out.bnd h
    rw [hfh] at hys hln hbd
    have HFH := am_ hfh
    clear hfh hh hj12
    have HU := am_ (⟨u0, u1⟩ : 1 ≤ u ∧ u ≤ 65536)
    by_cases hft : 0 < fh ∨ T.length < 8
   all_goals first
    | (
      rw [if_pos hft] at hys
      have CW := am_ (fun W (hr : Kd.C k37 W A T.length T) => table_With.calls A c T (h : Int) 0 (⟨#[]⟩ : ByteArray) u (⟨#[]⟩ : ByteArray) false _ _ W hr HCT.out hys)
      clear hys
      have hq : (0 < fh ∧ (putL T (⟨(h : Int), 0, (⟨#[]⟩ : ByteArray), u, (⟨#[]⟩ : ByteArray), false⟩ : S37)).length = T.length) ∨ (fh = 0 ∧ T.length < 8 ∧ (putL T (⟨(h : Int), 0, (⟨#[]⟩ : ByteArray), u, (⟨#[]⟩ : ByteArray), false⟩ : S37)).length = T.length + 1) := by
       by_cases q : 0 < fh
       ·rw [if_pos q] at hln
        exact .inl ⟨q, hln⟩
       ·rw [if_neg q] at hln
        exact .inr ⟨by omega, by omega, hln⟩
      clear hln hft
      have HP8 := am_ (show (putL T (⟨(h : Int), 0, (⟨#[]⟩ : ByteArray), u, (⟨#[]⟩ : ByteArray), false⟩ : S37)).length ≤ 8 by omega)
      have HTP := am_ (pinfoldlaw13_TableMap.TM.put HT.out h2 h13 HU.out.1 HU.out.2 HP8.out)
      generalize putL T (⟨(h : Int), 0, (⟨#[]⟩ : ByteArray), u, (⟨#[]⟩ : ByteArray), false⟩ : S37) = T2 at CW hq HTP HP8
      rcases hq with ⟨q, hlq⟩ | ⟨rfl, q8, hlq⟩
      rotate_left
      have q9 : decide ((T.length : Int) < 8) = true := decide_eq_true (by omega)
      rotate_left
      all_goals
       have HLQ := am_ hlq
       clear hlq)
    | (
      rw [if_neg hft] at hys
      have CW := am_ (fun W (hr : Kd.C k37 W A T.length T) => table_With.calls A c T (h : Int) 0 (⟨#[]⟩ : ByteArray) u (⟨#[]⟩ : ByteArray) false _ _ W hr HCT.out hys)
      have hno : fh = 0 ∧ ¬ T.length < 8 := by omega
      clear hys hln hft
      obtain ⟨rfl, hno⟩ := hno
      have q9 : decide ((T.length : Int) < 8) = false := decide_eq_false (by omega))
   all_goals
    have c0 := HO.out.cell (show h < 256 by omega)
    rw [HFH.out] at c0
    go_wp2_with (first
     | (go_at_call 18; (with_reducible refine (CW.out _ HC.out).mono ?_); rintro e w2 ⟨v, rfl, hv, hb2⟩; have HV2 := am_ (Kd.R_below HV.out hb2); have HVN := am_ (Kd.R_lower (Kd.R_mono (ok' := fun k => k ≠ nb) (Kd.R_bound hv) (fun k hk => by have := hk.2.1; have := NBL.out; omega)) (bz_ HB.out)); have HO2 := am_ (HO.out.below hb2); have HB2 := am_ (bt_ HB.out hb2); replace c0 := (hb2.cell (wb_ wr _ c0)).trans c0; have z0 := HO2.out.frozen h; clear hb2 hv)
     | (go_at_call 16; (with_reducible refine (CN.out _ _).mono ?_); rintro e wq ⟨rfl, ⟨nd, rfl⟩⟩))
    go_roundg (30 - (i + 1))
    case measure => omega
    case rel => first
     | exact ⟨i + 1, T2, pinfoldlaw13_TableMap.up f h u, by omega, by first | rfl | go_num, by rw [HLQ.out] <;> first | rfl | go_num, HTP, ⟨by (with_reducible repeat (first | apply r2_ | apply r3_)); exact Kd.R_far (p := ⟨nb, h, none⟩) (by (with_reducible repeat (first | exact HVN.out | apply r2_ | apply r3_))) (fun _ hk => hk) _⟩, ⟨(HO2.out.drewN _).set (by omega) u⟩, ⟨bs_ (p1_ HB2.out _) NB.out⟩⟩
     | exact ⟨i + 1, T, f, by omega, by first | rfl | go_num, rfl, HT, ⟨r2_ HV2.out _⟩, ⟨HO2.out.drewN _⟩, ⟨p1_ HB2.out _⟩⟩
  ·have hlz : ¬ (i : Int) < (l0.length : Int) ∨ ((i : Int) < (l0.length : Int) ∧ ¬ (i : Int) < 30) := by omega
   have HXX := am_ HO.out
   clear HV hlt hd CN
   obtain ⟨wE, rfl⟩ : ∃ wo : World, wo = wr := ⟨_, rfl⟩
   rcases hlz with hlz | ⟨hlz, h3z⟩
   all_goals
    go_wp2
    go_loopg [14] 14 (fun d v w' => ∃ h : Nat, h + d = 16 ∧ 2 ≤ h ∧ v = .int .i64 (h : Int) ∧ Aside0 (Below wE.heap.size wE w'))
    case atStart => exact ⟨2, by omega, by omega, rfl, ⟨by repeat (with_reducible first | exact Below.refl _ _ | apply p1_ | apply p2_)⟩⟩
    case round =>
     obtain ⟨h, hd, h2, rfl, HW⟩ := hrel
     by_cases h16 : h < 16
     ·have hz16 : (h : Int) < 16 := by omega
      have c0 := HO.out.cell (show h < 256 by omega)
      have hfi := HT.out.find h
      have hbd := HT.out.bnd h
      generalize f h = fh at c0 hfi hbd
      by_cases q : 0 < fh
      all_goals first
       | rw [if_pos q] at hfi
       | rw [if_neg q] at hfi
      all_goals first
       | (
         have CF := am_ (fun W (hb : Below wE.heap.size wE W) => table_Find_c.calls A c T (h : Int) (h : Int) 0 (⟨#[]⟩ : ByteArray) fh (⟨#[]⟩ : ByteArray) false true W (c4_ HC.out hb) HCT.out (by unfold table_Find_c.f; rw [if_pos (by omega), hfi]; rfl))
         have HE := am_ (Eq.refl (true, (h : Int), fh))
         have qn : (fh != fh) = false := by simp
         clear hfi
         have c1 := (HW.out.cell (wb_ wE _ c0)).trans c0
         go_wp2_with (first
          | (go_at_call 20; (with_reducible refine (CF.out _ HW.out).mono ?_); rintro e w5 ⟨rfl, hb2⟩; replace HW := am_ (p3_ (bt_ HW.out hb2) (.cells #[.int .i64 (h : Int), .int .i64 0, .string (⟨#[]⟩ : ByteArray), .int .i64 fh, .string (⟨#[]⟩ : ByteArray), .bool false] 37)); have BX := am_ (blk_new w5 (.cells #[.int .i64 (h : Int), .int .i64 0, .string (⟨#[]⟩ : ByteArray), .int .i64 fh, .string (⟨#[]⟩ : ByteArray), .bool false] 37)); clear hb2 c1))
         have c1 := (HW.out.cell (wb_ wE _ c0)).trans c0
         have c3 := bc_ BX.out 3)
       | (
         have CF := am_ (fun W (hb : Below wE.heap.size wE W) => table_Find_c.calls A c T (h : Int) 0 0 (⟨#[]⟩ : ByteArray) 0 (⟨#[]⟩ : ByteArray) false false W (c4_ HC.out hb) HCT.out (by unfold table_Find_c.f; rw [if_pos (by omega), hfi]; rfl))
         have q0 : fh = 0 := by omega
         clear hfi
         subst q0
         have c1 := (HW.out.cell (wb_ wE _ c0)).trans c0
         go_wp2_with (first
          | (go_at_call 20; (with_reducible refine (CF.out _ HW.out).mono ?_); rintro e w5 ⟨rfl, hb2⟩; replace HW := am_ (p3_ (bt_ HW.out hb2) (.cells #[.int .i64 0, .int .i64 0, .string (⟨#[]⟩ : ByteArray), .int .i64 0, .string (⟨#[]⟩ : ByteArray), .bool false] 37)); have BX := am_ (blk_new w5 (.cells #[.int .i64 0, .int .i64 0, .string (⟨#[]⟩ : ByteArray), .int .i64 0, .string (⟨#[]⟩ : ByteArray), .bool false] 37)); clear hb2 c1))
         have c1 := (HW.out.cell (wb_ wE _ c0)).trans c0
         have c3 := bc_ BX.out 3)
      all_goals
       go_quiet (fail)
       go_wp2
       go_roundg (16 - (h + 1))
       case measure => omega
       case rel => exact ⟨h + 1, by omega, by omega, by first | rfl | go_num, ⟨by repeat (with_reducible first | exact HW.out | apply p1_ | apply p2_)⟩⟩
     ·have hz16 : ¬ (h : Int) < 16 := by omega
      have CM := am_ (fun W (hb : Below wE.heap.size wE W) => table_May_c.calls A c T true W (c4_ HC.out hb) HCT.out (by unfold table_May_c.f; rw [if_pos ⟨by omega, fun y hy => by have := table_names HT.out.table hy; omega⟩, HT.out.table]))
      go_wp2_with (go_at_call 25; (with_reducible refine (CM.out _ HW.out).mono ?_); rintro e w7 ⟨rfl, hb2⟩; replace HW := am_ (bt_ HW.out hb2); clear hb2)
      go_ret
      exact ⟨by first | rfl | simp, bt_ HB.out HW.out⟩


/-- THE ONE PURE STATEMENT of pinfoldlaw13_TableMap. -/
def pinfoldlaw13_TableMap.Pure : Prop := ∀ (l0 : List Int) (l1 : List Int), (l0.length * Try.prog.bytesOf 3 ≤ 140737488351232 ∧ ∀ y0_ ∈ l0, (Lit.int .i64 y0_).wf = true) → (l1.length * Try.prog.bytesOf 3 ≤ 140737488351232 ∧ ∀ y0_ ∈ l1, (Lit.int .i64 y0_).wf = true) → pinfoldlaw13_TableMap.f l0 l1 = some true
theorem pinfoldlaw13_TableMap.walk (P : pinfoldlaw13_TableMap.Pure) (A0 : Option Addr) (c0 : Nat) (l0 : List Int) (A1 : Option Addr) (c1 : Nat) (l1 : List Int) (w : World) (hr0 : Kd.C (Kd.int .i64) w A0 l0.length l0) (hc0 : l0.length ≤ c0) (hr1 : Kd.C (Kd.int .i64) w A1 l1.length l1) (hc1 : l1.length ≤ c1) (w0 : (l0.length * Try.prog.bytesOf 3 ≤ 140737488351232 ∧ ∀ y0_ ∈ l0, (Lit.int .i64 y0_).wf = true)) (w1 : (l1.length * Try.prog.bytesOf 3 ≤ 140737488351232 ∧ ∀ y0_ ∈ l1, (Lit.int .i64 y0_).wf = true)) :
  Calls Try.prog 5 #[.slice A0 l0.length c0, .slice A1 l1.length c1] w fun e w' => e = .returned (.bool true) ∧ Below w.heap.size w w' := by
 have h := P l0 l1 w0 w1
 refine (pinfoldlaw13_TableMap.calls _ _ l0 _ _ l1 true w hr0 hc0 hr1 hc1 h).mono ?_
 rintro e w' ⟨rfl, hd⟩
 exact ⟨rfl, hd⟩
end Go.Proofs.Ytibmakpghbinbaa.PM
