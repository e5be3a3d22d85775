-- Made by wip/pr.py out of the translation (a turned copy of the kit's print; contracts by hand where said).
import Derived.Test.YtdhckibkljafgaaGreatDoorPIx0
import Derived.Test.YtdhckibkljafgaaGreatDoorPIx4
namespace Go.Proofs.YtdhckibkljafgaaGreatDoor.PI
open Go.RowKit Go.Proofs.YtdhckibkljafgaaGreatDoorW.PrintWords Go.Proofs.YtdhckibkljafgaaGreatDoorW.PrintLast Go.Proofs.YtdhckibkljafgaaGreatDoorW.PrintMore
-- shrunk
attribute [local go_sem] max2_int min2_int max_two min_two max_three min_three max_four min_four   -- for this text's walks alone
set_option linter.unusedVariables false
set_option linter.unusedSimpArgs false

/-! pickfacts.inc -/
section
variable {a0 a1 : Int} {l2 : List Int} {l3 : List S81} {a4 : Int} {z : ByteArray} {l6 : List S83} {ls : List S44} {now : Int} {c : ByteArray}
theorem open_in {h : Int} (e : openB a0 a1 l2 l3 a4 z l6 ls now c h = true) : a0 ≤ h ∧ h ≤ a1 ∧ confB a0 a1 l2 l3 a4 z l6 = true := by
 unfold openB lentB usableB at e
 simp only [Bool.and_eq_true, decide_eq_true_eq] at e
 exact ⟨e.1.1.2.2.1, e.1.1.2.2.2, e.1.1.2.1⟩
theorem mem_hosts (a b h : Int) : h ∈ hostsL a b ↔ a ≤ h ∧ h ≤ b := by
 unfold hostsL
 rw [List.mem_map]
 constructor
 ·rintro ⟨i, hi, rfl⟩
  rw [List.mem_range] at hi
  omega
 ·rintro ⟨h1, h2⟩
  exact ⟨(h - a).toNat, List.mem_range.2 (by omega), by omega⟩
theorem mem_open {h : Int} : h ∈ (hostsL a0 a1).filter (openB a0 a1 l2 l3 a4 z l6 ls now c) ↔ openB a0 a1 l2 l3 a4 z l6 ls now c h = true := by
 rw [List.mem_filter]
 constructor
 ·exact fun e => e.2
 ·intro e
  have := open_in e
  exact ⟨(mem_hosts a0 a1 h).2 ⟨this.1, this.2.1⟩, e⟩
theorem eld_mem (ls : List S44) : ∀ (L : List Int) (best til : Int), eldGo ls best til L = best ∨ eldGo ls best til L ∈ L
 | [], best, til => .inl rfl
 | h :: r, best, til => by
  unfold eldGo
  split
  ·rcases eld_mem ls r h (gotL (findL ls h)).f3 with e | e
   ·rw [e]
    exact .inr List.mem_cons_self
   ·exact .inr (List.mem_cons_of_mem _ e)
  ·rcases eld_mem ls r best til with e | e
   ·exact .inl e
   ·exact .inr (List.mem_cons_of_mem _ e)
theorem eld_some (ls : List S44) (L : List Int) (til : Int) (hl : L ≠ []) : eldGo ls 0 til L ∈ L := by
 cases L with
 | nil => exact absurd rfl hl
 | cons h r =>
  unfold eldGo
  rw [if_pos (.inl rfl)]
  rcases eld_mem ls r h (gotL (findL ls h)).f3 with e | e
  ·rw [e]
   exact List.mem_cons_self
  ·exact List.mem_cons_of_mem _ e
theorem first_mem (q : Option S44 → Bool) (ls : List S44) (L : List Int) : firstH q ls L = 0 ∨ firstH q ls L ∈ L := by
 unfold firstH
 cases e : L.find? (fun h => q (findL ls h)) with
 | none => exact .inl rfl
 | some h => exact .inr (List.mem_of_find?_eq_some e)
/-- what is picked where one has nothing, and what is wanted is not open. -/
def restV (a0 a1 : Int) (l2 : List Int) (l3 : List S81) (a4 : Int) (z : ByteArray) (l6 : List S83) (ls : List S44) (now : Int) (client : ByteArray) : Int × Int := match [firstH (hadQ client now) ls ((hostsL a0 a1).filter (openB a0 a1 l2 l3 a4 z l6 ls now client)), firstH Option.isNone ls ((hostsL a0 a1).filter (openB a0 a1 l2 l3 a4 z l6 ls now client)), eldGo ls 0 0 ((hostsL a0 a1).filter (openB a0 a1 l2 l3 a4 z l6 ls now client))].find? (fun h => decide (h > 0)) with
  | some h => (h, 0)
  | none => (0, 1401)
theorem rest_ok (hc : 2 ≤ a0) : (∃ h, restV a0 a1 l2 l3 a4 z l6 ls now c = (h, 0) ∧ openB a0 a1 l2 l3 a4 z l6 ls now c h = true) ∨ (restV a0 a1 l2 l3 a4 z l6 ls now c = (0, 1401) ∧ ∀ h, openB a0 a1 l2 l3 a4 z l6 ls now c h = false) := by
 have hmo := fun h => @mem_open a0 a1 l2 l3 a4 z l6 ls now c h
 have hin := fun h (e : openB a0 a1 l2 l3 a4 z l6 ls now c h = true) => open_in e
 unfold restV
 generalize (hostsL a0 a1).filter (openB a0 a1 l2 l3 a4 z l6 ls now c) = O at hmo
 by_cases hO : O = []
 ·right
  subst hO
  refine ⟨rfl, fun h => ?_⟩
  cases e : openB a0 a1 l2 l3 a4 z l6 ls now c h with
  | false => rfl
  | true => exact absurd ((hmo h).2 e) (by simp)
 ·left
  have he := eld_some ls O 0 hO
  have hf1 := first_mem (hadQ c now) ls O
  have hf2 := first_mem Option.isNone ls O
  have hpos : ∀ h ∈ O, h > 0 := fun h hh => by have := hin h ((hmo h).1 hh); omega
  generalize firstH (hadQ c now) ls O = x at hf1
  generalize firstH Option.isNone ls O = y at hf2
  generalize eldGo ls 0 0 O = w at he
  cases hfd : [x, y, w].find? (fun h => decide (h > 0)) with
  | none =>
   have := List.find?_eq_none.1 hfd w (by simp)
   exact absurd (hpos w he) (by simpa using this)
  | some h =>
   have hp : h > 0 := by simpa using List.find?_some hfd
   have hm := List.mem_of_find?_eq_some hfd
   simp only [List.mem_cons, List.not_mem_nil, or_false] at hm
   refine ⟨h, rfl, (hmo h).1 ?_⟩
   rcases hm with e | e | e
   ·subst e
    rcases hf1 with e | e
    ·omega
    ·exact e
   ·subst e
    rcases hf2 with e | e
    ·omega
    ·exact e
   ·subst e
    exact he
theorem pick_parts (wanted : Int) : pickV a0 a1 l2 l3 a4 z l6 ls now c wanted = if openB a0 a1 l2 l3 a4 z l6 ls now c (gotL (ofL ls c now)).f0 = true then ((gotL (ofL ls c now)).f0, 0) else if openB a0 a1 l2 l3 a4 z l6 ls now c (foundH (reservR a0 a1 l2 l3 a4 z l6 c)) = true then (foundH (reservR a0 a1 l2 l3 a4 z l6 c), 0) else if openB a0 a1 l2 l3 a4 z l6 ls now c wanted = true then (wanted, 0) else restV a0 a1 l2 l3 a4 z l6 ls now c := by
 unfold pickV restV
 generalize (gotL (ofL ls c now)).f0 = x
 generalize foundH (reservR a0 a1 l2 l3 a4 z l6 c) = y
 rw [List.find?_cons]
 cases openB a0 a1 l2 l3 a4 z l6 ls now c x with
 | true => rfl
 | false =>
  rw [if_neg (by decide), List.find?_cons]
  cases openB a0 a1 l2 l3 a4 z l6 ls now c y with
  | true => rfl
  | false =>
   rw [if_neg (by decide), List.find?_cons]
   cases openB a0 a1 l2 l3 a4 z l6 ls now c wanted with
   | true => rfl
   | false => rfl
theorem may_parts (h : pickMayB a0 a1 l2 l3 a4 z l6 ls now c = true) : 2 ≤ a0 ∧ a1 ≤ 254 ∧ confB a0 a1 l2 l3 a4 z l6 = true ∧ tableB ls = true ∧ (0 ≤ now ∧ now ≤ 1099511627776) ∧ clientB c = true := by
 unfold pickMayB at h
 simp only [Bool.and_eq_true, decide_eq_true_eq] at h
 have hb := conf_bounds h.1
 exact ⟨hb.1, hb.2.2.1, h.1, h.2.1, h.2.2.1, h.2.2.2⟩
end
/-- what is picked is open; nothing is picked just if nothing is open. -/
theorem pick_told {a0 a1 : Int} {l2 : List Int} {l3 : List S81} {a4 : Int} {z : ByteArray} {l6 : List S83} (ls : List S44) (now : Int) (c : ByteArray) (wanted h e : Int) (hM : pickMayB a0 a1 l2 l3 a4 z l6 ls now c = true) (hv : pickV a0 a1 l2 l3 a4 z l6 ls now c wanted = (h, e)) :
  (e = 0 ∧ openB a0 a1 l2 l3 a4 z l6 ls now c h = true ∧ a0 ≤ h ∧ h ≤ a1) ∨ (e = 1401 ∧ h = 0 ∧ ∀ x, openB a0 a1 l2 l3 a4 z l6 ls now c x = false) := by
 have hb := (may_parts hM).1
 have yes : ∀ x, openB a0 a1 l2 l3 a4 z l6 ls now c x = true → (x, (0 : Int)) = (h, e) → (e = 0 ∧ openB a0 a1 l2 l3 a4 z l6 ls now c h = true ∧ a0 ≤ h ∧ h ≤ a1) := by
  intro x hx hxe
  obtain ⟨rfl, rfl⟩ := Prod.mk.inj hxe
  have := open_in hx
  exact ⟨rfl, hx, this.1, this.2.1⟩
 rw [pick_parts] at hv
 by_cases q1 : openB a0 a1 l2 l3 a4 z l6 ls now c (gotL (ofL ls c now)).f0 = true
 ·rw [if_pos q1] at hv
  exact .inl (yes _ q1 hv)
 rw [if_neg q1] at hv
 by_cases q2 : openB a0 a1 l2 l3 a4 z l6 ls now c (foundH (reservR a0 a1 l2 l3 a4 z l6 c)) = true
 ·rw [if_pos q2] at hv
  exact .inl (yes _ q2 hv)
 rw [if_neg q2] at hv
 by_cases q3 : openB a0 a1 l2 l3 a4 z l6 ls now c wanted = true
 ·rw [if_pos q3] at hv
  exact .inl (yes _ q3 hv)
 rw [if_neg q3] at hv
 rcases rest_ok (a0 := a0) (a1 := a1) (l2 := l2) (l3 := l3) (a4 := a4) (z := z) (l6 := l6) (ls := ls) (now := now) (c := c) hb with ⟨x, hx, hx2⟩ | ⟨hx, hx2⟩
 ·exact .inl (yes x hx2 (hx.symm.trans hv))
 ·obtain ⟨rfl, rfl⟩ := Prod.mk.inj (hx.symm.trans hv)
  exact .inr ⟨rfl, rfl, hx2⟩

/-! offerfacts.inc -/
section
variable {a0 a1 : Int} {l2 : List Int} {l3 : List S81} {a4 : Int} {z : ByteArray} {l6 : List S83} {ls : List S44} {now : Int} {c : ByteArray}
theorem new_ok (h : Int) (hh : 2 ≤ h ∧ h ≤ 254) (hc : clientB c = true) (hn : 0 ≤ now ∧ now ≤ 1099510579200) : leaseOk (⟨h, 1, c, now + 8, ⟨#[]⟩, false⟩ : S44) = true := by
 unfold clientB at hc
 have hz := of_decide_eq_true hc
 show leaseB h 1 c (now + 8) ⟨#[]⟩ false = true
 have hne : c.toList ≠ [] := by
  intro e
  rw [ByteArray.toList_eq] at e
  have : c.size = 0 := by
   show c.data.size = 0
   rw [← Array.length_toList, e]
   rfl
  omega
 unfold leaseB stateB
 rw [if_neg (by omega), if_pos rfl, decide_eq_true hh, decide_eq_true hne, decide_eq_true (show c.size ≤ 16 by omega), decide_eq_true (show 0 ≤ now + 8 ∧ now + 8 ≤ 1099511627776 by omega), show nameB (bytesOf (⟨#[]⟩ : ByteArray)) = true by kernel_rfl, show decide ((⟨#[]⟩ : ByteArray).toList = []) = true by kernel_rfl]
 rfl
/-- what an offer gives that is granted. -/
theorem offer_told (h g : Int) (out : List S44) (hM : pickMayB a0 a1 l2 l3 a4 z l6 ls now c = true) (hn : 0 ≤ now ∧ now ≤ 1099510579200) (ho : openB a0 a1 l2 l3 a4 z l6 ls now c h = true) (he : offerGo c now h ls = (out, g, 0)) :
  g = h ∧ tableB out = true ∧ (∀ host, host ≠ h → findL out host = (findL ls host).map fun x => if dropX offeredX c now h x = true then freedX x else x) ∧ ((boundX c now (gotL (findL ls h)) = true ∧ findL out h = findL ls h ∧ out.length = ls.length) ∨ (boundX c now (gotL (findL ls h)) = false ∧ findL out h = some ⟨h, 1, c, now + 8, ⟨#[]⟩, false⟩)) := by
 obtain ⟨hb, hb2, hcf, hT, _, hcl⟩ := may_parts hM
 have hin := open_in ho
 have hD : tableB (dropL offeredX c now h ls) = true := table_drop hT
 have hx := new_ok (c := c) (now := now) h ⟨by omega, by omega⟩ hcl hn
 unfold offerGo at he
 cases hq : boundX c now (gotL (findL ls h)) with
 | true =>
  rw [hq, if_pos rfl] at he
  obtain ⟨rfl, he2⟩ := Prod.mk.inj he
  obtain ⟨rfl, _⟩ := Prod.mk.inj he2
  refine ⟨rfl, hD, fun host _ => find_drop _ _ _ _ _ _, .inl ⟨rfl, ?_, by unfold dropL; rw [List.length_map]⟩⟩
  rw [find_drop]
  cases hf : findL ls h with
  | none => rfl
  | some x =>
   have hx0 := (find_some hf).2
   show some (if dropX offeredX c now h x = true then freedX x else x) = some x
   rw [if_neg]
   unfold dropX
   rw [decide_eq_false (fun e => e hx0), Bool.false_and]
   decide
 | false =>
  rw [hq, if_neg (by decide)] at he
  by_cases q : (putL (dropL offeredX c now h ls) ⟨h, 1, c, now + 8, ⟨#[]⟩, false⟩).length ≤ 8
  ·rw [if_pos q] at he
   obtain ⟨rfl, he2⟩ := Prod.mk.inj he
   obtain ⟨rfl, _⟩ := Prod.mk.inj he2
   refine ⟨rfl, by rw [table_put hD hx]; exact decide_eq_true q, fun host hne => ?_, .inr ⟨rfl, ?_⟩⟩
   ·rw [find_put hD hx, if_neg hne, find_drop]
   ·rw [find_put hD hx, if_pos rfl]
  ·rw [if_neg q] at he
   obtain ⟨_, he2⟩ := Prod.mk.inj he
   obtain ⟨_, he3⟩ := Prod.mk.inj he2
   exact absurd he3 (by decide)
end

/-! fitr.inc -/
theorem size_of_bytes (s : ByteArray) : s.size = (bytesOf s).length := by
 unfold bytesOf
 rw [List.length_map]
 first | rfl | simp
theorem name_size (s : ByteArray) (h : nameB (bytesOf s) = true) : s.size ≤ 72 := by
 rw [size_of_bytes]
 exact name_short _ h
theorem nil_size (s : ByteArray) (h : s.toList = []) : s.size ≤ 72 := by
 rw [size_of_bytes]
 rw [ByteArray.toList_eq] at h
 unfold bytesOf
 simp [h]
theorem static_size (z : ByteArray) (x : S83) (h : staticB z x = true) : x.f0.size ≤ 72 ∧ x.f4.size ≤ 72 := by
 unfold staticB rrB at h
 simp only [Bool.and_eq_true, decide_eq_true_eq] at h
 obtain ⟨hk, ⟨⟨hn, _⟩, hr⟩, _⟩ := h
 refine ⟨name_size _ hn, ?_⟩
 rcases hk with e | e | e
 ·rw [if_pos e] at hr
  simp only [Bool.and_eq_true, decide_eq_true_eq] at hr
  exact nil_size _ hr.2.1
 ·rw [if_neg (by omega), if_pos (by omega)] at hr
  simp only [Bool.and_eq_true, decide_eq_true_eq] at hr
  exact name_size _ hr.2.1
 ·rw [if_neg (by omega), if_neg (by omega), if_neg (by omega), if_pos (by omega)] at hr
  simp only [Bool.and_eq_true, decide_eq_true_eq] at hr
  exact nil_size _ hr.2.1
theorem conf_fitr {a0 a1 : Int} {l2 : List Int} {l3 : List S81} {a4 : Int} {z : ByteArray} {l6 : List S83} (h : confB a0 a1 l2 l3 a4 z l6 = true) (h3 : l3.length ≤ 5864062014805) (h2 : l2.length ≤ 140737488351232) : confFitR l2 l3 z l6 := by
 unfold confB at h
 simp only [Bool.and_eq_true, decide_eq_true_eq] at h
 obtain ⟨⟨_, _, hz, _⟩, _, _, _, hs⟩ := h
 unfold staticsB at hs
 rw [Bool.and_eq_true, decide_eq_true_eq, List.all_eq_true] at hs
 have := name_size z hz
 refine ⟨h2, h3, by omega, by omega, fun x hx => ?_⟩
 have := static_size z x (hs.1 x hx)
 omega
theorem table_fitr {l : List S44} (h : tableB l = true) : tabFitR l := by
 unfold tableB at h
 rw [Bool.and_eq_true, decide_eq_true_eq] at h
 have go : ∀ (l : List S44) (p : Option Int), goTab p l = true → ∀ x ∈ l, x.f4.size ≤ 72 := by
  intro l
  induction l with
  | nil => intro p _ x hx; cases hx
  | cons y r ih =>
   intro p hp x hx
   unfold goTab at hp
   rw [Bool.and_eq_true, Bool.and_eq_true] at hp
   rcases List.mem_cons.1 hx with e | e
   ·rw [e]
    have h1 : leaseB y.f0 y.f1 y.f2 y.f3 y.f4 y.f5 = true := hp.1
    unfold leaseB at h1
    simp only [Bool.and_eq_true] at h1
    exact name_size _ h1.2
   ·exact ih _ hp.2.2 x e
 refine ⟨by omega, fun x hx => ?_⟩
 have := go l none h.1 x hx
 omega

/-! wraps.inc -/
theorem wrap_succ (i n : Nat) (h : i < n) (hn : n ≤ 140737488351232) : wrap64 ((i : Int) + 1) = ((i + 1 : Nat) : Int) := by
 rw [w64 (by omega)]
 omega

/-! rdget.inc -/
theorem rdLease_get (l : List S44) (i : Nat) (h : i < l.length) : rd_T44 l (i : Int) = l[i] := by
 unfold rd_T44
 rw [Int.toNat_natCast, List.getD_eq_getElem?_getD, List.getElem?_eq_getElem h]
 rfl

/-! asked0.inc -/
/-- may these be asked about. -/
def askedB (a0_0 : Int) (a0_1 : Int) (l0_2 : List Int) (l0_3 : List S81) (a0_4 : Int) (a0_5 : ByteArray) (l0_6 : List S83) (l1 : List S44) (a2 : Int) (a3 : ByteArray) (a4 : Int) : Bool := confB a0_0 a0_1 l0_2 l0_3 a0_4 a0_5 l0_6 && (tableB l1 && (decide (0 ≤ a2 ∧ a2 ≤ a4) && clientB a3))

/-! drops.inc -/
theorem dropIn_ (l : List Int) (i : Int) (h0 : 0 ≤ i) (h1 : i < l.length) : l.drop i.toNat = rd l i :: l.drop (i.toNat + 1) := by
 have h : i.toNat < l.length := by omega
 have e : rd l i = l[i.toNat] := by
  unfold rd
  rw [List.getD_eq_getElem?_getD, List.getElem?_eq_getElem h]
  rfl
 rw [e, List.drop_eq_getElem_cons h]
theorem dropRs_ (l : List S81) (i : Int) (h0 : 0 ≤ i) (h1 : i < l.length) : l.drop i.toNat = rd_T81 l i :: l.drop (i.toNat + 1) := by
 have h : i.toNat < l.length := by omega
 have e : rd_T81 l i = l[i.toNat] := by
  unfold rd_T81
  rw [List.getD_eq_getElem?_getD, List.getElem?_eq_getElem h]
  rfl
 rw [e, List.drop_eq_getElem_cons h]

/-! refpick0.inc -/
/-- what the document does with the hosts that are open, one by one. -/
def refGo (ls : List S44) : Int → Int → List Int → Int × Int
 | best, _, [] => if best = 0 then (0, 1401) else (best, 0)
 | best, til, h :: r => match findL ls h with
  | none => (h, 0)
  | some x => if best = 0 ∨ x.f3 < til then refGo ls h x.f3 r else refGo ls best til r
def hostsFrom (h : Int) : Nat → List Int
 | 0 => []
 | d + 1 => h :: hostsFrom (h + 1) d
def hadP (q : Int → Bool) (now : Int) (c : ByteArray) (x : S44) : Bool := (!liveX now x && decide (x.f2.toList = c.toList)) && q x.f0
def hadC (a0 a1 : Int) (l2 : List Int) (l3 : List S81) (a4 : Int) (z : ByteArray) (l6 : List S83) (ls : List S44) (now : Int) (c : ByteArray) (x : S44) : Bool := (!liveX now x && decide (x.f2.toList = c.toList)) && openB a0 a1 l2 l3 a4 z l6 ls now c x.f0
/-- the first of one's own leases that ran out and is open; else the hosts one by one. -/
def endP (q : Int → Bool) (a0 a1 : Int) (ls : List S44) : Option S44 → Int × Int
 | some x => (x.f0, 0)
 | none => refGo ls 0 0 ((hostsFrom a0 (a1 + 1 - a0).toNat).filter q)
def refEnd (a0 a1 : Int) (l2 : List Int) (l3 : List S81) (a4 : Int) (z : ByteArray) (l6 : List S83) (ls : List S44) (now : Int) (c : ByteArray) (o : Option S44) : Int × Int := endP (openB a0 a1 l2 l3 a4 z l6 ls now c) a0 a1 ls o
def refPickP (a0 a1 : Int) (l2 : List Int) (l3 : List S81) (a4 : Int) (z : ByteArray) (l6 : List S83) (ls : List S44) (now : Int) (c : ByteArray) (wanted : Int) : Int × Int :=
 if ((ofL ls c now).isSome && openB a0 a1 l2 l3 a4 z l6 ls now c (gotL (ofL ls c now)).f0) = true then ((gotL (ofL ls c now)).f0, 0)
 else if (foundIs (reservR a0 a1 l2 l3 a4 z l6 c) && openB a0 a1 l2 l3 a4 z l6 ls now c (foundH (reservR a0 a1 l2 l3 a4 z l6 c))) = true then (foundH (reservR a0 a1 l2 l3 a4 z l6 c), 0)
 else if openB a0 a1 l2 l3 a4 z l6 ls now c wanted = true then (wanted, 0)
 else refEnd a0 a1 l2 l3 a4 z l6 ls now c (ls.find? (hadC a0 a1 l2 l3 a4 z l6 ls now c))

end Go.Proofs.YtdhckibkljafgaaGreatDoor.PI
