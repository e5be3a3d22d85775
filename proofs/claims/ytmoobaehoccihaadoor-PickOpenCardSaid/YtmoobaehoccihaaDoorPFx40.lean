-- Made by wip/solo.py (a contract by hand over the printed texts).
import Derived.Test.YtmoobaehoccihaaDoorPFx0
import Derived.Test.YtmoobaehoccihaaDoorPFx1
import Derived.Test.YtmoobaehoccihaaDoorPFx10
import Derived.Test.YtmoobaehoccihaaDoorPFx11
import Derived.Test.YtmoobaehoccihaaDoorPFx12
import Derived.Test.YtmoobaehoccihaaDoorPFx13
import Derived.Test.YtmoobaehoccihaaDoorPFx14
import Derived.Test.YtmoobaehoccihaaDoorPFx15
import Derived.Test.YtmoobaehoccihaaDoorPFx17
import Derived.Test.YtmoobaehoccihaaDoorPFx18
import Derived.Test.YtmoobaehoccihaaDoorPFx19
import Derived.Test.YtmoobaehoccihaaDoorPFx2
import Derived.Test.YtmoobaehoccihaaDoorPFx3
import Derived.Test.YtmoobaehoccihaaDoorPFx4
import Derived.Test.YtmoobaehoccihaaDoorPFx5
import Derived.Test.YtmoobaehoccihaaDoorPFx6
import Derived.Test.YtmoobaehoccihaaDoorPFx7
import Derived.Test.YtmoobaehoccihaaDoorPFx8
import Derived.Test.YtmoobaehoccihaaDoorPFx9
namespace Go.Proofs.YtmoobaehoccihaaDoor.PF
open Go.RowKit Go.Proofs.YtmoobaehoccihaaDoorW.PrintWords Go.Proofs.YtmoobaehoccihaaDoorW.PrintLast Go.Proofs.YtmoobaehoccihaaDoorW.PrintMore
attribute [local go_sem] max2_int min2_int max_two min_two max_three min_three max_four min_four
set_option linter.unusedVariables false
set_option linter.unusedSimpArgs false

/-! ### pinfoldlaw14_PickOpen -/
-- 29 28 20 30 31 32 25
section
variable {a0 a1 : Int} {l2 : List Int} {l3 : List S72} {a4 : Int} {z : ByteArray} {l6 : List S74} {ls : List S42} {now : Int} {c : ByteArray}
theorem open_in {h : Int} (e : openB a0 a1 l2 l3 a4 z l6 ls now c h = true) : a0 ≤ h ∧ h ≤ a1 ∧ confB a0 a1 l2 l3 a4 z l6 = true := by
  unfold openB lentB usableB at e
  simp only [Bool.and_eq_true, decide_eq_true_eq] at e
  exact ⟨e.1.1.2.2.1, e.1.1.2.2.2, e.1.1.2.1⟩
theorem mem_hosts (a b h : Int) : h ∈ hostsL a b ↔ a ≤ h ∧ h ≤ b := by
  unfold hostsL
  rw [List.mem_map]
  constructor
  · rintro ⟨i, hi, rfl⟩
    rw [List.mem_range] at hi
    omega
  · rintro ⟨h1, h2⟩
    exact ⟨(h - a).toNat, List.mem_range.2 (by omega), by omega⟩
theorem mem_open {h : Int} : h ∈ (hostsL a0 a1).filter (openB a0 a1 l2 l3 a4 z l6 ls now c) ↔ openB a0 a1 l2 l3 a4 z l6 ls now c h = true := by
  rw [List.mem_filter]
  constructor
  · exact fun e => e.2
  · intro e
    have := open_in e
    exact ⟨(mem_hosts a0 a1 h).2 ⟨this.1, this.2.1⟩, e⟩
theorem eld_mem (ls : List S42) : ∀ (L : List Int) (best til : Int), eldGo ls best til L = best ∨ eldGo ls best til L ∈ L
  | [], best, til => .inl rfl
  | h :: r, best, til => by
    unfold eldGo
    split
    · rcases eld_mem ls r h (gotL (findL ls h)).f3 with e | e
      · rw [e]
        exact .inr List.mem_cons_self
      · exact .inr (List.mem_cons_of_mem _ e)
    · rcases eld_mem ls r best til with e | e
      · exact .inl e
      · exact .inr (List.mem_cons_of_mem _ e)
theorem eld_some (ls : List S42) (L : List Int) (til : Int) (hl : L ≠ []) : eldGo ls 0 til L ∈ L := by
  cases L with
  | nil => exact absurd rfl hl
  | cons h r =>
    unfold eldGo
    rw [if_pos (.inl rfl)]
    rcases eld_mem ls r h (gotL (findL ls h)).f3 with e | e
    · rw [e]
      exact List.mem_cons_self
    · exact List.mem_cons_of_mem _ e
theorem first_mem (q : Option S42 → Bool) (ls : List S42) (L : List Int) : firstH q ls L = 0 ∨ firstH q ls L ∈ L := by
  unfold firstH
  cases e : L.find? (fun h => q (findL ls h)) with
  | none => exact .inl rfl
  | some h => exact .inr (List.mem_of_find?_eq_some e)
/-- what is picked where one has nothing, and what is wanted is not open. -/
def restV (a0 a1 : Int) (l2 : List Int) (l3 : List S72) (a4 : Int) (z : ByteArray) (l6 : List S74) (ls : List S42) (now : Int) (client : ByteArray) : Int × Int := match [firstH (hadQ client now) ls ((hostsL a0 a1).filter (openB a0 a1 l2 l3 a4 z l6 ls now client)), firstH Option.isNone ls ((hostsL a0 a1).filter (openB a0 a1 l2 l3 a4 z l6 ls now client)), eldGo ls 0 0 ((hostsL a0 a1).filter (openB a0 a1 l2 l3 a4 z l6 ls now client))].find? (fun h => decide (h > 0)) with
    | some h => (h, 0)
    | none => (0, 1401)
theorem rest_ok (hc : 2 ≤ a0) : (∃ h, restV a0 a1 l2 l3 a4 z l6 ls now c = (h, 0) ∧ openB a0 a1 l2 l3 a4 z l6 ls now c h = true) ∨ (restV a0 a1 l2 l3 a4 z l6 ls now c = (0, 1401) ∧ ∀ h, openB a0 a1 l2 l3 a4 z l6 ls now c h = false) := by
  have hmo := fun h => @mem_open a0 a1 l2 l3 a4 z l6 ls now c h
  have hin := fun h (e : openB a0 a1 l2 l3 a4 z l6 ls now c h = true) => open_in e
  unfold restV
  generalize (hostsL a0 a1).filter (openB a0 a1 l2 l3 a4 z l6 ls now c) = O at hmo
  by_cases hO : O = []
  · right
    subst hO
    refine ⟨rfl, fun h => ?_⟩
    cases e : openB a0 a1 l2 l3 a4 z l6 ls now c h with
    | false => rfl
    | true => exact absurd ((hmo h).2 e) (by simp)
  · left
    have he := eld_some ls O 0 hO
    have hf1 := first_mem (hadQ c now) ls O
    have hf2 := first_mem Option.isNone ls O
    have hpos : ∀ h ∈ O, h > 0 := fun h hh => by have := hin h ((hmo h).1 hh); omega
    generalize firstH (hadQ c now) ls O = x at hf1
    generalize firstH Option.isNone ls O = y at hf2
    generalize eldGo ls 0 0 O = w at he
    cases hfd : [x, y, w].find? (fun h => decide (h > 0)) with
    | none =>
      have := List.find?_eq_none.1 hfd w (by simp)
      exact absurd (hpos w he) (by simpa using this)
    | some h =>
      have hp : h > 0 := by simpa using List.find?_some hfd
      have hm := List.mem_of_find?_eq_some hfd
      simp only [List.mem_cons, List.not_mem_nil, or_false] at hm
      refine ⟨h, rfl, (hmo h).1 ?_⟩
      rcases hm with e | e | e
      · subst e
        rcases hf1 with e | e
        · omega
        · exact e
      · subst e
        rcases hf2 with e | e
        · omega
        · exact e
      · subst e
        exact he
theorem pick_parts (wanted : Int) : pickV a0 a1 l2 l3 a4 z l6 ls now c wanted = if openB a0 a1 l2 l3 a4 z l6 ls now c (gotL (ofL ls c now)).f0 = true then ((gotL (ofL ls c now)).f0, 0) else if openB a0 a1 l2 l3 a4 z l6 ls now c (foundH (reservR a0 a1 l2 l3 a4 z l6 c)) = true then (foundH (reservR a0 a1 l2 l3 a4 z l6 c), 0) else if openB a0 a1 l2 l3 a4 z l6 ls now c wanted = true then (wanted, 0) else restV a0 a1 l2 l3 a4 z l6 ls now c := by
  unfold pickV restV
  generalize (gotL (ofL ls c now)).f0 = x
  generalize foundH (reservR a0 a1 l2 l3 a4 z l6 c) = y
  rw [List.find?_cons]
  cases openB a0 a1 l2 l3 a4 z l6 ls now c x with
  | true => rfl
  | false =>
    rw [if_neg (by decide), List.find?_cons]
    cases openB a0 a1 l2 l3 a4 z l6 ls now c y with
    | true => rfl
    | false =>
      rw [if_neg (by decide), List.find?_cons]
      cases openB a0 a1 l2 l3 a4 z l6 ls now c wanted with
      | true => rfl
      | false => rfl
theorem may_parts (h : pickMayB a0 a1 l2 l3 a4 z l6 ls now c = true) : 2 ≤ a0 ∧ a1 ≤ 254 ∧ confB a0 a1 l2 l3 a4 z l6 = true ∧ tableB ls = true ∧ (0 ≤ now ∧ now ≤ 1099511627776) ∧ clientB c = true := by
  unfold pickMayB at h
  simp only [Bool.and_eq_true, decide_eq_true_eq] at h
  have hb := conf_bounds h.1
  exact ⟨hb.1, hb.2.2.1, h.1, h.2.1, h.2.2.1, h.2.2.2⟩
end
/-- what is picked is open; nothing is picked just if nothing is open. -/
theorem pick_told {a0 a1 : Int} {l2 : List Int} {l3 : List S72} {a4 : Int} {z : ByteArray} {l6 : List S74} (ls : List S42) (now : Int) (c : ByteArray) (wanted h e : Int) (hM : pickMayB a0 a1 l2 l3 a4 z l6 ls now c = true) (hv : pickV a0 a1 l2 l3 a4 z l6 ls now c wanted = (h, e)) :
    (e = 0 ∧ openB a0 a1 l2 l3 a4 z l6 ls now c h = true ∧ a0 ≤ h ∧ h ≤ a1) ∨ (e = 1401 ∧ h = 0 ∧ ∀ x, openB a0 a1 l2 l3 a4 z l6 ls now c x = false) := by
  have hb := (may_parts hM).1
  have yes : ∀ x, openB a0 a1 l2 l3 a4 z l6 ls now c x = true → (x, (0 : Int)) = (h, e) → (e = 0 ∧ openB a0 a1 l2 l3 a4 z l6 ls now c h = true ∧ a0 ≤ h ∧ h ≤ a1) := by
    intro x hx hxe
    obtain ⟨rfl, rfl⟩ := Prod.mk.inj hxe
    have := open_in hx
    exact ⟨rfl, hx, this.1, this.2.1⟩
  rw [pick_parts] at hv
  by_cases q1 : openB a0 a1 l2 l3 a4 z l6 ls now c (gotL (ofL ls c now)).f0 = true
  · rw [if_pos q1] at hv
    exact .inl (yes _ q1 hv)
  rw [if_neg q1] at hv
  by_cases q2 : openB a0 a1 l2 l3 a4 z l6 ls now c (foundH (reservR a0 a1 l2 l3 a4 z l6 c)) = true
  · rw [if_pos q2] at hv
    exact .inl (yes _ q2 hv)
  rw [if_neg q2] at hv
  by_cases q3 : openB a0 a1 l2 l3 a4 z l6 ls now c wanted = true
  · rw [if_pos q3] at hv
    exact .inl (yes _ q3 hv)
  rw [if_neg q3] at hv
  rcases rest_ok (a0 := a0) (a1 := a1) (l2 := l2) (l3 := l3) (a4 := a4) (z := z) (l6 := l6) (ls := ls) (now := now) (c := c) hb with ⟨x, hx, hx2⟩ | ⟨hx, hx2⟩
  · exact .inl (yes x hx2 (hx.symm.trans hv))
  · obtain ⟨rfl, rfl⟩ := Prod.mk.inj (hx.symm.trans hv)
    exact .inr ⟨rfl, rfl, hx2⟩
theorem size_of_bytes (s : ByteArray) : s.size = (bytesOf s).length := by
  unfold bytesOf
  rw [List.length_map]
  first | rfl | simp
theorem name_size (s : ByteArray) (h : nameB (bytesOf s) = true) : s.size ≤ 72 := by
  rw [size_of_bytes]
  exact name_short _ h
theorem nil_size (s : ByteArray) (h : s.toList = []) : s.size ≤ 72 := by
  rw [size_of_bytes]
  rw [ByteArray.toList_eq] at h
  unfold bytesOf
  simp [h]
theorem static_size (z : ByteArray) (x : S74) (h : staticB z x = true) : x.f0.size ≤ 72 ∧ x.f4.size ≤ 72 := by
  unfold staticB rrB at h
  simp only [Bool.and_eq_true, decide_eq_true_eq] at h
  obtain ⟨hk, ⟨⟨hn, _⟩, hr⟩, _⟩ := h
  refine ⟨name_size _ hn, ?_⟩
  rcases hk with e | e | e
  · rw [if_pos e] at hr
    simp only [Bool.and_eq_true, decide_eq_true_eq] at hr
    exact nil_size _ hr.2.1
  · rw [if_neg (by omega), if_pos (by omega)] at hr
    simp only [Bool.and_eq_true, decide_eq_true_eq] at hr
    exact name_size _ hr.2.1
  · rw [if_neg (by omega), if_neg (by omega), if_neg (by omega), if_pos (by omega)] at hr
    simp only [Bool.and_eq_true, decide_eq_true_eq] at hr
    exact nil_size _ hr.2.1
theorem conf_fitr {a0 a1 : Int} {l2 : List Int} {l3 : List S72} {a4 : Int} {z : ByteArray} {l6 : List S74} (h : confB a0 a1 l2 l3 a4 z l6 = true) (h3 : l3.length ≤ 5864062014805) (h2 : l2.length ≤ 140737488351232) : confFitR l2 l3 z l6 := by
  unfold confB at h
  simp only [Bool.and_eq_true, decide_eq_true_eq] at h
  obtain ⟨⟨_, _, hz, _⟩, _, _, _, hs⟩ := h
  unfold staticsB at hs
  rw [Bool.and_eq_true, decide_eq_true_eq, List.all_eq_true] at hs
  have := name_size z hz
  refine ⟨h2, h3, by omega, by omega, fun x hx => ?_⟩
  have := static_size z x (hs.1 x hx)
  omega
theorem table_fitr {l : List S42} (h : tableB l = true) : tabFitR l := by
  unfold tableB at h
  rw [Bool.and_eq_true, decide_eq_true_eq] at h
  have go : ∀ (l : List S42) (p : Option Int), goTab p l = true → ∀ x ∈ l, x.f4.size ≤ 72 := by
    intro l
    induction l with
    | nil => intro p _ x hx; cases hx
    | cons y r ih =>
      intro p hp x hx
      unfold goTab at hp
      rw [Bool.and_eq_true, Bool.and_eq_true] at hp
      rcases List.mem_cons.1 hx with e | e
      · rw [e]
        have h1 : leaseB y.f0 y.f1 y.f2 y.f3 y.f4 y.f5 = true := hp.1
        unfold leaseB at h1
        simp only [Bool.and_eq_true] at h1
        exact name_size _ h1.2
      · exact ih _ hp.2.2 x e
  refine ⟨by omega, fun x hx => ?_⟩
  have := go l none h.1 x hx
  omega
theorem pinfoldlaw14_PickOpen.aw : pinfoldlaw14_awake.f = some true := by kernel_rfl
theorem pinfoldlaw14_PickOpen.yes (U I cn b bl c1' c2' d1 : Bool) (hd : d1 = !c1') (h : true = ((U && (!I || cn)) && (!b || (!bl || (!c1' && c2'))))) : U = true ∧ (I = false ∨ I = true ∧ cn = true) ∧ (b = false ∨ b = true ∧ bl = false ∨ b = true ∧ bl = true ∧ c1' = false ∧ c2' = true ∧ d1 = true) := by subst hd; revert h; cases U <;> cases I <;> cases cn <;> cases b <;> cases bl <;> cases c1' <;> cases c2' <;> decide
theorem pinfoldlaw14_PickOpen.no (U I cn b bl c1' c2' d1 : Bool) (hd : d1 = !c1') (h : false = ((U && (!I || cn)) && (!b || (!bl || (!c1' && c2'))))) : U = false ∨ U = true ∧ I = true ∧ cn = false ∨ U = true ∧ (I = false ∨ I = true ∧ cn = true) ∧ b = true ∧ bl = true ∧ (c1' = true ∧ d1 = false ∨ c1' = false ∧ c2' = false ∧ d1 = true) := by subst hd; revert h; cases U <;> cases I <;> cases cn <;> cases b <;> cases bl <;> cases c1' <;> cases c2' <;> decide
def pinfoldlaw14_PickOpen.f (a0_0 : Int) (a0_1 : Int) (l0_2 : List Int) (l0_3 : List S72) (a0_4 : Int) (a0_5 : ByteArray) (l0_6 : List S74) (l1 : List S42) (a2 : Int) (a3 : ByteArray) (_a4 : Int) : Option Bool := if pickFit l0_2 l0_3 a0_5 l0_6 l1 then some true else none
set_option maxHeartbeats 8000000 in
set_option maxRecDepth 100000 in
theorem pinfoldlaw14_PickOpen.calls (a0_0 : Int) (a0_1 : Int) (A0_2 : Option Addr) (c0_2 : Nat) (l0_2 : List Int) (A0_3 : Option Addr) (c0_3 : Nat) (l0_3 : List S72) (a0_4 : Int) (a0_5 : ByteArray) (A0_6 : Option Addr) (c0_6 : Nat) (l0_6 : List S74) (A1 : Option Addr) (c1 : Nat) (l1 : List S42) (a2 : Int) (a3 : ByteArray) (a4 : Int) (r : Bool) (w : World) (hr0_2 : Kd.C (Kd.int .i64) w A0_2 l0_2.length l0_2) (hc0_2 : l0_2.length ≤ c0_2) (hr0_3 : Kd.C k72 w A0_3 l0_3.length l0_3) (hc0_3 : l0_3.length ≤ c0_3) (hr0_6 : Kd.C k74 w A0_6 l0_6.length l0_6) (hc0_6 : l0_6.length ≤ c0_6) (hr1 : Kd.C k42 w A1 l1.length l1) (hc1 : l1.length ≤ c1) (h : pinfoldlaw14_PickOpen.f a0_0 a0_1 l0_2 l0_3 a0_4 a0_5 l0_6 l1 a2 a3 a4 = some r) :
    Calls Tryd.prog 9 #[.agg #[.int .i64 a0_0, .int .i64 a0_1, .slice A0_2 l0_2.length c0_2, .slice A0_3 l0_3.length c0_3, .int .i64 a0_4, .string a0_5, .slice A0_6 l0_6.length c0_6], .slice A1 l1.length c1, .int .i64 a2, .string a3, .int .i64 a4] w fun e w' => e = .returned (.bool r) ∧ Below w.heap.size w w' := by
  unfold pinfoldlaw14_PickOpen.f at h
  by_cases hs : pickFit l0_2 l0_3 a0_5 l0_6 l1
  rotate_left
  · rw [if_neg hs] at h
    cases h
  rw [if_pos hs] at h
  obtain rfl := Option.some.inj h
  clear h
  obtain ⟨b1, h1⟩ : ∃ b, pickMayB a0_0 a0_1 l0_2 l0_3 a0_4 a0_5 l0_6 l1 a2 a3 = b := ⟨_, rfl⟩
  have Cw := Aside0.mk (fun W => pinfoldlaw14_awake.calls true W pinfoldlaw14_PickOpen.aw)
  have Cn := Aside0.mk (fun x W => pinfoldlaw0_Num.calls x x W rfl)
  have Cpg := fun r1 r2 (e : (if b1 = true then pickV a0_0 a0_1 l0_2 l0_3 a0_4 a0_5 l0_6 l1 a2 a3 a4 else (0, 1400)) = (r1, r2)) W (hb : Below w.heap.size w W) => pick_Pick.calls a0_0 a0_1 A0_2 c0_2 l0_2 A0_3 c0_3 l0_3 a0_4 a0_5 A0_6 c0_6 l0_6 A1 c1 l1 a2 a3 a4 r1 r2 W (Kd.C_below hr0_2 hb) hc0_2 (Kd.C_below hr0_3 hb) hc0_3 (Kd.C_below hr0_6 hb) hc0_6 (Kd.C_below hr1 hb) hc1 (by unfold pick_Pick.f; rw [if_pos hs, h1, e])
  have HB := Aside0.mk (Below.refl w.heap.size w)
  have BK := Aside0.mk (blk_new w (.cells #[.int .i64 a0_0, .int .i64 a0_1, .slice A0_2 l0_2.length c0_2, .slice A0_3 l0_3.length c0_3, .int .i64 a0_4, .string a0_5, .slice A0_6 l0_6.length c0_6] 26))
  have u0 := blk_cell BK.out 0
  have u1 := blk_cell BK.out 1
  have u2 := blk_cell BK.out 2
  have u3 := blk_cell BK.out 3
  have u4 := blk_cell BK.out 4
  have u5 := blk_cell BK.out 5
  have u6 := blk_cell BK.out 6
  cases b1 with
  | false =>
    have Cp := Aside0.mk (Cpg 0 1400 (if_neg (by decide)))
    clear Cpg h1 hs hr0_2 hr0_3 hr0_6 hc0_2 hc0_3 hc0_6 hr1 hc1
    go_enter Tryd.func9, Tryd.ntmps9
    go_wp2_with (first | (go_at_call 29; (with_reducible refine (Cw.out _).mono ?_); rintro e w1 ⟨rfl, hb2⟩; replace BK := Aside0.mk (blk_below (show _ from (by (with_reducible repeat (first | exact BK.out | refine blk_drewN ?_ _ | refine blk_drew ?_ | refine blk_alloc ?_ _)))) hb2); replace HB := Aside0.mk (below_step (show Below w.heap.size w _ from (by repeat (with_reducible first | exact HB.out | apply below_alloc | apply pw_below_drewN | apply below_drew1))) hb2); clear hb2; clear u0 u1 u2 u3 u4 u5 u6; have u0 := blk_cell BK.out 0; have u1 := blk_cell BK.out 1; have u2 := blk_cell BK.out 2; have u3 := blk_cell BK.out 3; have u4 := blk_cell BK.out 4; have u5 := blk_cell BK.out 5; have u6 := blk_cell BK.out 6) | (go_at_call 28; (with_reducible refine (Cp.out _ (by repeat (with_reducible first | exact HB.out | apply below_alloc | apply pw_below_drewN | apply below_drew1))).mono ?_); rintro e w2 ⟨rfl, hb2⟩; replace BK := Aside0.mk (blk_below (show _ from (by (with_reducible repeat (first | exact BK.out | refine blk_drewN ?_ _ | refine blk_drew ?_ | refine blk_alloc ?_ _)))) hb2); replace HB := Aside0.mk (below_step (show Below w.heap.size w _ from (by repeat (with_reducible first | exact HB.out | apply below_alloc | apply pw_below_drewN | apply below_drew1))) hb2); clear hb2; clear u0 u1 u2 u3 u4 u5 u6; have u0 := blk_cell BK.out 0; have u1 := blk_cell BK.out 1; have u2 := blk_cell BK.out 2; have u3 := blk_cell BK.out 3; have u4 := blk_cell BK.out 4; have u5 := blk_cell BK.out 5; have u6 := blk_cell BK.out 6) | (go_at_call 20; (with_reducible refine (Cn.out _ _).mono ?_); rintro e wq ⟨rfl, ⟨nd, rfl⟩⟩))
    go_ret
    exact ⟨rfl, (by repeat (with_reducible first | exact HB.out | apply below_alloc | apply pw_below_drewN | apply below_drew1))⟩
  | true =>
  have hm := may_parts h1
  have hcr := conf_fitr hm.2.2.1 hs.1.2.1 hs.1.1
  have htr := table_fitr hm.2.2.2.1
  have CGg := Aside0.mk (fun host (x : S42) b (e : gotL (findL l1 host) = x ∧ (findL l1 host).isSome = b) W (hb : Below w.heap.size w W) => pinfoldref11_FindLease_c.calls A1 c1 l1 host x.f0 x.f1 x.f2 x.f3 x.f4 x.f5 b W (Kd.C_below hr1 hb) hc1 (by unfold pinfoldref11_FindLease_c.f; rw [if_pos htr.1, e.1, e.2]))
  have CWg := Aside0.mk (fun host N I (e : foundN (ownerR a0_0 a0_1 l0_2 l0_3 a0_4 a0_5 l0_6 host) = N ∧ foundIs (ownerR a0_0 a0_1 l0_2 l0_3 a0_4 a0_5 l0_6 host) = I) W (hb : Below w.heap.size w W) => pinfoldref11_Owner_c.calls a0_0 a0_1 A0_2 c0_2 l0_2 A0_3 c0_3 l0_3 a0_4 a0_5 A0_6 c0_6 l0_6 host N I W (Kd.C_below hr0_2 hb) hc0_2 (Kd.C_below hr0_3 hb) hc0_3 (Kd.C_below hr0_6 hb) hc0_6 (by unfold pinfoldref11_Owner_c.f; rw [if_pos hcr, e.1, e.2]))
  have CUg := Aside0.mk (fun host U (e : usableB a0_0 a0_1 l0_2 l0_3 a0_4 a0_5 l0_6 host = U) W (hb : Below w.heap.size w W) => pinfoldref11_Usable_c.calls a0_0 a0_1 A0_2 c0_2 l0_2 A0_3 c0_3 l0_3 a0_4 a0_5 A0_6 c0_6 l0_6 host U W (Kd.C_below hr0_2 hb) hc0_2 (Kd.C_below hr0_3 hb) hc0_3 (Kd.C_below hr0_6 hb) hc0_6 (by unfold pinfoldref11_Usable_c.f; rw [if_pos hcr, e]))
  have CLg := Aside0.mk (fun x0 x1 x2 x3 x4 x5 (hx : x4.size ≤ 8796093022000) b (e : liveB x0 x1 x2 x3 x4 x5 a2 = b) W => pinfoldref11_Live_c.calls x0 x1 x2 x3 x4 x5 a2 b W (by unfold pinfoldref11_Live_c.f; rw [if_pos hx, e]))
  have HX := Aside0.mk (fun host => show (gotL (findL l1 host)).f4.size ≤ 8796093022000 by
    cases e : findL l1 host with
    | none => exact (by decide : (⟨#[]⟩ : ByteArray).size ≤ 8796093022000)
    | some x => exact htr.2 x (List.mem_of_find?_eq_some e))
  clear hs hcr htr hr0_2 hr0_3 hr0_6 hc0_2 hc0_3 hc0_6 hr1 hc1
  obtain ⟨vh, ve, hve⟩ : ∃ x y, pickV a0_0 a0_1 l0_2 l0_3 a0_4 a0_5 l0_6 l1 a2 a3 a4 = (x, y) := ⟨_, _, rfl⟩
  have Cp := Aside0.mk (Cpg vh ve (by rw [if_pos rfl, hve]))
  have n0 := hm.1
  have n2 := hm.2.1
  have HT := Aside0.mk (pick_told l1 a2 a3 a4 vh ve h1 hve)
  have q1 : (ve == 1400) = false := by
    rw [beq_eq_false_iff_ne]
    rcases HT.out with ⟨e, _⟩ | ⟨e, _⟩ <;> omega
  clear Cpg h1 hve hm
  have hop : ∀ host, openB a0_0 a0_1 l0_2 l0_3 a0_4 a0_5 l0_6 l1 a2 a3 host = ((usableB a0_0 a0_1 l0_2 l0_3 a0_4 a0_5 l0_6 host && (!foundIs (ownerR a0_0 a0_1 l0_2 l0_3 a0_4 a0_5 l0_6 host) || decide ((foundN (ownerR a0_0 a0_1 l0_2 l0_3 a0_4 a0_5 l0_6 host)).toList = a3.toList))) && freeX a3 a2 (findL l1 host)) := fun _ => rfl
  replace hop := Aside0.mk hop
  generalize openB a0_0 a0_1 l0_2 l0_3 a0_4 a0_5 l0_6 l1 a2 a3 = q at HT hop
  go_enter Tryd.func9, Tryd.ntmps9
  go_wp2_with (first | (go_at_call 29; (with_reducible refine (Cw.out _).mono ?_); rintro e w1 ⟨rfl, hb2⟩; replace BK := Aside0.mk (blk_below (show _ from (by (with_reducible repeat (first | exact BK.out | refine blk_drewN ?_ _ | refine blk_drew ?_ | refine blk_alloc ?_ _)))) hb2); replace HB := Aside0.mk (below_step (show Below w.heap.size w _ from (by repeat (with_reducible first | exact HB.out | apply below_alloc | apply pw_below_drewN | apply below_drew1))) hb2); clear hb2; clear u0 u1 u2 u3 u4 u5 u6; have u0 := blk_cell BK.out 0; have u1 := blk_cell BK.out 1; have u2 := blk_cell BK.out 2; have u3 := blk_cell BK.out 3; have u4 := blk_cell BK.out 4; have u5 := blk_cell BK.out 5; have u6 := blk_cell BK.out 6) | (go_at_call 28; (with_reducible refine (Cp.out _ (by repeat (with_reducible first | exact HB.out | apply below_alloc | apply pw_below_drewN | apply below_drew1))).mono ?_); rintro e w2 ⟨rfl, hb2⟩; replace BK := Aside0.mk (blk_below (show _ from (by (with_reducible repeat (first | exact BK.out | refine blk_drewN ?_ _ | refine blk_drew ?_ | refine blk_alloc ?_ _)))) hb2); replace HB := Aside0.mk (below_step (show Below w.heap.size w _ from (by repeat (with_reducible first | exact HB.out | apply below_alloc | apply pw_below_drewN | apply below_drew1))) hb2); clear hb2; clear u0 u1 u2 u3 u4 u5 u6; have u0 := blk_cell BK.out 0; have u1 := blk_cell BK.out 1; have u2 := blk_cell BK.out 2; have u3 := blk_cell BK.out 3; have u4 := blk_cell BK.out 4; have u5 := blk_cell BK.out 5; have u6 := blk_cell BK.out 6) | (go_at_call 20; (with_reducible refine (Cn.out _ _).mono ?_); rintro e wq ⟨rfl, ⟨nd, rfl⟩⟩))
  clear u0 u1 u2 u3 u4 u5 u6 Cw Cp q1
  go_loopg [13, 14] (a0_1 + 1 - a0_0).toNat (fun d vn vi w' => ∃ (i : Int) (nn : Bool), a0_0 ≤ i ∧ (a0_1 + 1 - i).toNat = d ∧ vn = .bool nn ∧ vi = .int .i64 i ∧ Aside0 (Below w.heap.size w w') ∧ Aside0 (w'.heap[w.heap.size]? = some (.cells #[.int .i64 a0_0, .int .i64 a0_1, .slice A0_2 l0_2.length c0_2, .slice A0_3 l0_3.length c0_3, .int .i64 a0_4, .string a0_5, .slice A0_6 l0_6.length c0_6] 26)) ∧ Aside0 (nn = true ↔ ∀ x, a0_0 ≤ x → x < i → q x = false))
  case atStart => exact ⟨a0_0, true, by omega, rfl, rfl, rfl, ⟨(by repeat (with_reducible first | exact HB.out | apply below_alloc | apply pw_below_drewN | apply below_drew1))⟩, ⟨(by (with_reducible repeat (first | exact BK.out | refine blk_drewN ?_ _ | refine blk_drew ?_ | refine blk_alloc ?_ _)))⟩, ⟨⟨fun _ x h1 h2 => by omega, fun _ => rfl⟩⟩⟩
  case round =>
    clear HB BK
    obtain ⟨i, nn, hi0, hd, rfl, rfl, HB, BK, HN⟩ := hrel
    have u0 := blk_cell BK.out 0
    have u1 := blk_cell BK.out 1
    have u2 := blk_cell BK.out 2
    have u3 := blk_cell BK.out 3
    have u4 := blk_cell BK.out 4
    have u5 := blk_cell BK.out 5
    have u6 := blk_cell BK.out 6
    by_cases hle : i ≤ a0_1
    · obtain ⟨T, hT⟩ : ∃ T, q i = T := ⟨_, rfl⟩
      have hopi := hop.out i
      rw [hT] at hopi
      have hN2 : (nn && !T) = true ↔ ∀ x, a0_0 ≤ x → x < i + 1 → q x = false := by
        rw [Bool.and_eq_true, HN.out]
        constructor
        · rintro ⟨h1, h2⟩ x hx1 hx2
          by_cases e : x = i
          · rw [e, hT]
            simpa using h2
          · exact h1 x hx1 (by omega)
        · intro h1
          exact ⟨fun x hx1 hx2 => h1 x hx1 (by omega), by rw [← hT, h1 i hi0 (by omega)]; rfl⟩
      replace hN2 := Aside0.mk hN2
      have hih : T = true ∨ T = false ∧ (i == vh) = false := by
        cases T with
        | true => exact .inl rfl
        | false =>
          refine .inr ⟨rfl, ?_⟩
          rw [beq_eq_false_iff_ne]
          intro e
          rcases HT.out with ⟨_, h2, _⟩ | ⟨_, h2, _⟩
          · rw [← e, hT] at h2
            cases h2
          · omega
      have hsz := HX.out i
      obtain ⟨U, hU⟩ : ∃ v, usableB a0_0 a0_1 l0_2 l0_3 a0_4 a0_5 l0_6 i = v := ⟨_, rfl⟩
      obtain ⟨N, hN⟩ : ∃ v, foundN (ownerR a0_0 a0_1 l0_2 l0_3 a0_4 a0_5 l0_6 i) = v := ⟨_, rfl⟩
      obtain ⟨I, hI⟩ : ∃ v, foundIs (ownerR a0_0 a0_1 l0_2 l0_3 a0_4 a0_5 l0_6 i) = v := ⟨_, rfl⟩
      have CW := Aside0.mk (fun W hb => CWg.out i N I ⟨hN, hI⟩ W hb)
      have CU := Aside0.mk (fun W hb => CUg.out i U hU W hb)
      rw [hU, hN, hI] at hopi
      obtain ⟨x, hx⟩ : ∃ x, gotL (findL l1 i) = x := ⟨_, rfl⟩
      obtain ⟨b, hb⟩ : ∃ b, (findL l1 i).isSome = b := ⟨_, rfl⟩
      have CG := Aside0.mk (fun W h => CGg.out i x b ⟨hx, hb⟩ W h)
      have hfx : freeX a3 a2 (findL l1 i) = (!b || (!liveX a2 x || (decide (x.f1 ≠ 3) && decide (x.f2.toList = a3.toList)))) := by
        rw [← hx, ← hb]
        cases findL l1 i with
        | none => rfl
        | some y =>
          show (!liveB y.f0 y.f1 y.f2 y.f3 y.f4 y.f5 a2 || (liveB y.f0 y.f1 y.f2 y.f3 y.f4 y.f5 a2 && (decide (y.f1 ≠ 3) && decide (y.f2.toList = a3.toList)))) = (!liveB y.f0 y.f1 y.f2 y.f3 y.f4 y.f5 a2 || (decide (y.f1 ≠ 3) && decide (y.f2.toList = a3.toList)))
          cases liveB y.f0 y.f1 y.f2 y.f3 y.f4 y.f5 a2 <;> rfl
      rw [hfx] at hopi
      rw [hx] at hsz
      clear hfx hx hb hU hN hI
      obtain ⟨x0, x1, x2, x3, x4, x5⟩ := x
      simp only at hsz CG
      obtain ⟨bl, hbl⟩ : ∃ b, liveB x0 x1 x2 x3 x4 x5 a2 = b := ⟨_, rfl⟩
      have CL := Aside0.mk (fun W => CLg.out x0 x1 x2 x3 x4 x5 hsz bl hbl W)
      have hopi2 : T = ((U && (!I || decide (N.toList = a3.toList))) && (!b || (!bl || (decide (x1 ≠ 3) && decide (x2.toList = a3.toList))))) := by rw [← hbl]; exact hopi
      clear hopi hbl hsz hT
      obtain ⟨cn, hcn⟩ : ∃ c, (N.toList == a3.toList) = c := ⟨_, rfl⟩
      obtain ⟨c1', hc1⟩ : ∃ c, (x1 == 3) = c := ⟨_, rfl⟩
      obtain ⟨d1, hdd⟩ : ∃ c, (x1 != 3) = c := ⟨_, rfl⟩
      have hd1 : d1 = !c1' := by rw [← hc1, ← hdd]; rfl
      obtain ⟨c2', hc2⟩ : ∃ c, (x2.toList == a3.toList) = c := ⟨_, rfl⟩
      have e1 : decide (N.toList = a3.toList) = cn := by rw [← hcn, Bool.eq_iff_iff, beq_iff_eq, decide_eq_true_eq]
      have e2 : decide (x1 ≠ 3) = !c1' := by rw [← hc1]; by_cases e : x1 = 3 <;> simp [e]
      have e3 : decide (x2.toList = a3.toList) = c2' := by rw [← hc2, Bool.eq_iff_iff, beq_iff_eq, decide_eq_true_eq]
      rw [e1, e2, e3] at hopi2
      clear e1 e2 e3
      have M1 := Aside0.mk (show a0_0 ≤ i + 1 by omega)
      have M2 := Aside0.mk (show (a0_1 + 1 - (i + 1)).toNat < gk by omega)
      have M3 := Aside0.mk (show IntKind.i64.wrap (i + 1) = i + 1 from (i64_w _).trans (by unfold wrap64; omega))
      have cle := decide_eq_true hle
      replace HN := Aside0.mk HN.out
      clear hd HN
      replace hi0 := Aside0.mk hi0
      clear hle
      cases T with
      | true =>
        have hopi3 : U = true ∧ (I = false ∨ I = true ∧ cn = true) ∧ (b = false ∨ b = true ∧ bl = false ∨ b = true ∧ bl = true ∧ c1' = false ∧ c2' = true ∧ d1 = true) := pinfoldlaw14_PickOpen.yes U I cn b bl c1' c2' d1 hd1 hopi2
        clear hopi2 hih hd1
        obtain ⟨rfl, hI, hB⟩ := hopi3
        obtain ⟨cv, hcv⟩ : ∃ c, (i == vh) = c := ⟨_, rfl⟩
        rcases hI with rfl | ⟨rfl, rfl⟩ <;> rcases hB with rfl | ⟨rfl, rfl⟩ | ⟨rfl, rfl, rfl, rfl, rfl⟩ <;> cases cv <;> cases nn
        all_goals
          go_wp2_with (first | (go_at_call 30; (with_reducible refine (CG.out _ (by repeat (with_reducible first | exact HB.out | apply below_alloc | apply pw_below_drewN | apply below_drew1))).mono ?_); rintro e w3 ⟨rfl, hb2⟩; replace BK := Aside0.mk (blk_below (show _ from (by (with_reducible repeat (first | exact BK.out | refine blk_drewN ?_ _ | refine blk_drew ?_ | refine blk_alloc ?_ _)))) hb2); replace HB := Aside0.mk (below_step (show Below w.heap.size w _ from (by repeat (with_reducible first | exact HB.out | apply below_alloc | apply pw_below_drewN | apply below_drew1))) hb2); clear hb2; have BX := Aside0.mk (blk_new w3 (.cells #[.int .i64 x0, .int .i64 x1, .string x2, .int .i64 x3, .string x4, .bool x5] 42)); replace BK := Aside0.mk (blk_alloc BK.out (.cells #[.int .i64 x0, .int .i64 x1, .string x2, .int .i64 x3, .string x4, .bool x5] 42)); replace HB := Aside0.mk (below_alloc HB.out (.cells #[.int .i64 x0, .int .i64 x1, .string x2, .int .i64 x3, .string x4, .bool x5] 42)); clear u0 u1 u2 u3 u4 u5 u6; have u0 := blk_cell BK.out 0; have u1 := blk_cell BK.out 1; have u2 := blk_cell BK.out 2; have u3 := blk_cell BK.out 3; have u4 := blk_cell BK.out 4; have u5 := blk_cell BK.out 5; have u6 := blk_cell BK.out 6) | (go_at_call 31; (with_reducible refine (CW.out _ (by repeat (with_reducible first | exact HB.out | apply below_alloc | apply pw_below_drewN | apply below_drew1))).mono ?_); rintro e w4 ⟨rfl, hb2⟩; replace BK := Aside0.mk (blk_below (show _ from (by (with_reducible repeat (first | exact BK.out | refine blk_drewN ?_ _ | refine blk_drew ?_ | refine blk_alloc ?_ _)))) hb2); replace BX := Aside0.mk (blk_below (show _ from (by (with_reducible repeat (first | exact BX.out | refine blk_drewN ?_ _ | refine blk_drew ?_ | refine blk_alloc ?_ _)))) hb2); replace HB := Aside0.mk (below_step (show Below w.heap.size w _ from (by repeat (with_reducible first | exact HB.out | apply below_alloc | apply pw_below_drewN | apply below_drew1))) hb2); clear hb2; clear u0 u1 u2 u3 u4 u5 u6; have u0 := blk_cell BK.out 0; have u1 := blk_cell BK.out 1; have u2 := blk_cell BK.out 2; have u3 := blk_cell BK.out 3; have u4 := blk_cell BK.out 4; have u5 := blk_cell BK.out 5; have u6 := blk_cell BK.out 6) | (go_at_call 32; (with_reducible refine (CU.out _ (by repeat (with_reducible first | exact HB.out | apply below_alloc | apply pw_below_drewN | apply below_drew1))).mono ?_); rintro e w5 ⟨rfl, hb2⟩; replace BK := Aside0.mk (blk_below (show _ from (by (with_reducible repeat (first | exact BK.out | refine blk_drewN ?_ _ | refine blk_drew ?_ | refine blk_alloc ?_ _)))) hb2); replace BX := Aside0.mk (blk_below (show _ from (by (with_reducible repeat (first | exact BX.out | refine blk_drewN ?_ _ | refine blk_drew ?_ | refine blk_alloc ?_ _)))) hb2); replace HB := Aside0.mk (below_step (show Below w.heap.size w _ from (by repeat (with_reducible first | exact HB.out | apply below_alloc | apply pw_below_drewN | apply below_drew1))) hb2); clear hb2; clear u0 u1 u2 u3 u4 u5 u6; have u0 := blk_cell BK.out 0; have u1 := blk_cell BK.out 1; have u2 := blk_cell BK.out 2; have u3 := blk_cell BK.out 3; have u4 := blk_cell BK.out 4; have u5 := blk_cell BK.out 5; have u6 := blk_cell BK.out 6; have v0 := blk_cell BX.out 0; have v1 := blk_cell BX.out 1; have v2 := blk_cell BX.out 2; have v3 := blk_cell BX.out 3; have v4 := blk_cell BX.out 4; have v5 := blk_cell BX.out 5) | (go_at_call 25; (with_reducible refine (CL.out _).mono ?_); rintro e w6 ⟨rfl, hb2⟩; replace BK := Aside0.mk (blk_below (show _ from (by (with_reducible repeat (first | exact BK.out | refine blk_drewN ?_ _ | refine blk_drew ?_ | refine blk_alloc ?_ _)))) hb2); replace BX := Aside0.mk (blk_below (show _ from (by (with_reducible repeat (first | exact BX.out | refine blk_drewN ?_ _ | refine blk_drew ?_ | refine blk_alloc ?_ _)))) hb2); replace HB := Aside0.mk (below_step (show Below w.heap.size w _ from (by repeat (with_reducible first | exact HB.out | apply below_alloc | apply pw_below_drewN | apply below_drew1))) hb2); clear hb2; clear u0 u1 u2 u3 u4 u5 u6; have u0 := blk_cell BK.out 0; have u1 := blk_cell BK.out 1; have u2 := blk_cell BK.out 2; have u3 := blk_cell BK.out 3; have u4 := blk_cell BK.out 4; have u5 := blk_cell BK.out 5; have u6 := blk_cell BK.out 6; clear v0 v1 v2 v3 v4 v5; have v0 := blk_cell BX.out 0; have v1 := blk_cell BX.out 1; have v2 := blk_cell BX.out 2; have v3 := blk_cell BX.out 3; have v4 := blk_cell BX.out 4; have v5 := blk_cell BX.out 5))
          go_roundg (a0_1 + 1 - (i + 1)).toNat
          case measure => exact M2.out
          case rel => exact ⟨i + 1, false, M1.out, rfl, rfl, by first | rfl | (rw [show wrap64 (i + 1) = i + 1 from (i64_w _).symm.trans M3.out]), ⟨(by repeat (with_reducible first | exact HB.out | apply below_alloc | apply pw_below_drewN | apply below_drew1))⟩, ⟨(by (with_reducible repeat (first | exact BK.out | refine blk_drewN ?_ _ | refine blk_drew ?_ | refine blk_alloc ?_ _)))⟩, ⟨by simpa using hN2.out⟩⟩
      | false =>
        have hcv := (hih.resolve_left (by simp)).2
        have hopi3 : U = false ∨ U = true ∧ I = true ∧ cn = false ∨ U = true ∧ (I = false ∨ I = true ∧ cn = true) ∧ b = true ∧ bl = true ∧ (c1' = true ∧ d1 = false ∨ c1' = false ∧ c2' = false ∧ d1 = true) := pinfoldlaw14_PickOpen.no U I cn b bl c1' c2' d1 hd1 hopi2
        clear hopi2 hih hd1
        rcases hopi3 with rfl | ⟨rfl, rfl, rfl⟩ | ⟨rfl, hI, rfl, rfl, hc⟩
        rotate_right
        · rcases hI with rfl | ⟨rfl, rfl⟩ <;> rcases hc with ⟨rfl, rfl⟩ | ⟨rfl, rfl, rfl⟩ <;> cases nn
          all_goals
            go_wp2_with (first | (go_at_call 30; (with_reducible refine (CG.out _ (by repeat (with_reducible first | exact HB.out | apply below_alloc | apply pw_below_drewN | apply below_drew1))).mono ?_); rintro e w3 ⟨rfl, hb2⟩; replace BK := Aside0.mk (blk_below (show _ from (by (with_reducible repeat (first | exact BK.out | refine blk_drewN ?_ _ | refine blk_drew ?_ | refine blk_alloc ?_ _)))) hb2); replace HB := Aside0.mk (below_step (show Below w.heap.size w _ from (by repeat (with_reducible first | exact HB.out | apply below_alloc | apply pw_below_drewN | apply below_drew1))) hb2); clear hb2; have BX := Aside0.mk (blk_new w3 (.cells #[.int .i64 x0, .int .i64 x1, .string x2, .int .i64 x3, .string x4, .bool x5] 42)); replace BK := Aside0.mk (blk_alloc BK.out (.cells #[.int .i64 x0, .int .i64 x1, .string x2, .int .i64 x3, .string x4, .bool x5] 42)); replace HB := Aside0.mk (below_alloc HB.out (.cells #[.int .i64 x0, .int .i64 x1, .string x2, .int .i64 x3, .string x4, .bool x5] 42)); clear u0 u1 u2 u3 u4 u5 u6; have u0 := blk_cell BK.out 0; have u1 := blk_cell BK.out 1; have u2 := blk_cell BK.out 2; have u3 := blk_cell BK.out 3; have u4 := blk_cell BK.out 4; have u5 := blk_cell BK.out 5; have u6 := blk_cell BK.out 6) | (go_at_call 31; (with_reducible refine (CW.out _ (by repeat (with_reducible first | exact HB.out | apply below_alloc | apply pw_below_drewN | apply below_drew1))).mono ?_); rintro e w4 ⟨rfl, hb2⟩; replace BK := Aside0.mk (blk_below (show _ from (by (with_reducible repeat (first | exact BK.out | refine blk_drewN ?_ _ | refine blk_drew ?_ | refine blk_alloc ?_ _)))) hb2); replace BX := Aside0.mk (blk_below (show _ from (by (with_reducible repeat (first | exact BX.out | refine blk_drewN ?_ _ | refine blk_drew ?_ | refine blk_alloc ?_ _)))) hb2); replace HB := Aside0.mk (below_step (show Below w.heap.size w _ from (by repeat (with_reducible first | exact HB.out | apply below_alloc | apply pw_below_drewN | apply below_drew1))) hb2); clear hb2; clear u0 u1 u2 u3 u4 u5 u6; have u0 := blk_cell BK.out 0; have u1 := blk_cell BK.out 1; have u2 := blk_cell BK.out 2; have u3 := blk_cell BK.out 3; have u4 := blk_cell BK.out 4; have u5 := blk_cell BK.out 5; have u6 := blk_cell BK.out 6) | (go_at_call 32; (with_reducible refine (CU.out _ (by repeat (with_reducible first | exact HB.out | apply below_alloc | apply pw_below_drewN | apply below_drew1))).mono ?_); rintro e w5 ⟨rfl, hb2⟩; replace BK := Aside0.mk (blk_below (show _ from (by (with_reducible repeat (first | exact BK.out | refine blk_drewN ?_ _ | refine blk_drew ?_ | refine blk_alloc ?_ _)))) hb2); replace BX := Aside0.mk (blk_below (show _ from (by (with_reducible repeat (first | exact BX.out | refine blk_drewN ?_ _ | refine blk_drew ?_ | refine blk_alloc ?_ _)))) hb2); replace HB := Aside0.mk (below_step (show Below w.heap.size w _ from (by repeat (with_reducible first | exact HB.out | apply below_alloc | apply pw_below_drewN | apply below_drew1))) hb2); clear hb2; clear u0 u1 u2 u3 u4 u5 u6; have u0 := blk_cell BK.out 0; have u1 := blk_cell BK.out 1; have u2 := blk_cell BK.out 2; have u3 := blk_cell BK.out 3; have u4 := blk_cell BK.out 4; have u5 := blk_cell BK.out 5; have u6 := blk_cell BK.out 6; have v0 := blk_cell BX.out 0; have v1 := blk_cell BX.out 1; have v2 := blk_cell BX.out 2; have v3 := blk_cell BX.out 3; have v4 := blk_cell BX.out 4; have v5 := blk_cell BX.out 5) | (go_at_call 25; (with_reducible refine (CL.out _).mono ?_); rintro e w6 ⟨rfl, hb2⟩; replace BK := Aside0.mk (blk_below (show _ from (by (with_reducible repeat (first | exact BK.out | refine blk_drewN ?_ _ | refine blk_drew ?_ | refine blk_alloc ?_ _)))) hb2); replace BX := Aside0.mk (blk_below (show _ from (by (with_reducible repeat (first | exact BX.out | refine blk_drewN ?_ _ | refine blk_drew ?_ | refine blk_alloc ?_ _)))) hb2); replace HB := Aside0.mk (below_step (show Below w.heap.size w _ from (by repeat (with_reducible first | exact HB.out | apply below_alloc | apply pw_below_drewN | apply below_drew1))) hb2); clear hb2; clear u0 u1 u2 u3 u4 u5 u6; have u0 := blk_cell BK.out 0; have u1 := blk_cell BK.out 1; have u2 := blk_cell BK.out 2; have u3 := blk_cell BK.out 3; have u4 := blk_cell BK.out 4; have u5 := blk_cell BK.out 5; have u6 := blk_cell BK.out 6; clear v0 v1 v2 v3 v4 v5; have v0 := blk_cell BX.out 0; have v1 := blk_cell BX.out 1; have v2 := blk_cell BX.out 2; have v3 := blk_cell BX.out 3; have v4 := blk_cell BX.out 4; have v5 := blk_cell BX.out 5))
            go_roundg (a0_1 + 1 - (i + 1)).toNat
            case measure => exact M2.out
            case rel => exact ⟨i + 1, _, M1.out, rfl, rfl, by first | rfl | (rw [show wrap64 (i + 1) = i + 1 from (i64_w _).symm.trans M3.out]), ⟨(by repeat (with_reducible first | exact HB.out | apply below_alloc | apply pw_below_drewN | apply below_drew1))⟩, ⟨(by (with_reducible repeat (first | exact BK.out | refine blk_drewN ?_ _ | refine blk_drew ?_ | refine blk_alloc ?_ _)))⟩, ⟨by simpa using hN2.out⟩⟩
        all_goals cases nn
        all_goals
          go_wp2_with (first | (go_at_call 30; (with_reducible refine (CG.out _ (by repeat (with_reducible first | exact HB.out | apply below_alloc | apply pw_below_drewN | apply below_drew1))).mono ?_); rintro e w3 ⟨rfl, hb2⟩; replace BK := Aside0.mk (blk_below (show _ from (by (with_reducible repeat (first | exact BK.out | refine blk_drewN ?_ _ | refine blk_drew ?_ | refine blk_alloc ?_ _)))) hb2); replace HB := Aside0.mk (below_step (show Below w.heap.size w _ from (by repeat (with_reducible first | exact HB.out | apply below_alloc | apply pw_below_drewN | apply below_drew1))) hb2); clear hb2; have BX := Aside0.mk (blk_new w3 (.cells #[.int .i64 x0, .int .i64 x1, .string x2, .int .i64 x3, .string x4, .bool x5] 42)); replace BK := Aside0.mk (blk_alloc BK.out (.cells #[.int .i64 x0, .int .i64 x1, .string x2, .int .i64 x3, .string x4, .bool x5] 42)); replace HB := Aside0.mk (below_alloc HB.out (.cells #[.int .i64 x0, .int .i64 x1, .string x2, .int .i64 x3, .string x4, .bool x5] 42)); clear u0 u1 u2 u3 u4 u5 u6; have u0 := blk_cell BK.out 0; have u1 := blk_cell BK.out 1; have u2 := blk_cell BK.out 2; have u3 := blk_cell BK.out 3; have u4 := blk_cell BK.out 4; have u5 := blk_cell BK.out 5; have u6 := blk_cell BK.out 6) | (go_at_call 31; (with_reducible refine (CW.out _ (by repeat (with_reducible first | exact HB.out | apply below_alloc | apply pw_below_drewN | apply below_drew1))).mono ?_); rintro e w4 ⟨rfl, hb2⟩; replace BK := Aside0.mk (blk_below (show _ from (by (with_reducible repeat (first | exact BK.out | refine blk_drewN ?_ _ | refine blk_drew ?_ | refine blk_alloc ?_ _)))) hb2); replace BX := Aside0.mk (blk_below (show _ from (by (with_reducible repeat (first | exact BX.out | refine blk_drewN ?_ _ | refine blk_drew ?_ | refine blk_alloc ?_ _)))) hb2); replace HB := Aside0.mk (below_step (show Below w.heap.size w _ from (by repeat (with_reducible first | exact HB.out | apply below_alloc | apply pw_below_drewN | apply below_drew1))) hb2); clear hb2; clear u0 u1 u2 u3 u4 u5 u6; have u0 := blk_cell BK.out 0; have u1 := blk_cell BK.out 1; have u2 := blk_cell BK.out 2; have u3 := blk_cell BK.out 3; have u4 := blk_cell BK.out 4; have u5 := blk_cell BK.out 5; have u6 := blk_cell BK.out 6) | (go_at_call 32; (with_reducible refine (CU.out _ (by repeat (with_reducible first | exact HB.out | apply below_alloc | apply pw_below_drewN | apply below_drew1))).mono ?_); rintro e w5 ⟨rfl, hb2⟩; replace BK := Aside0.mk (blk_below (show _ from (by (with_reducible repeat (first | exact BK.out | refine blk_drewN ?_ _ | refine blk_drew ?_ | refine blk_alloc ?_ _)))) hb2); replace BX := Aside0.mk (blk_below (show _ from (by (with_reducible repeat (first | exact BX.out | refine blk_drewN ?_ _ | refine blk_drew ?_ | refine blk_alloc ?_ _)))) hb2); replace HB := Aside0.mk (below_step (show Below w.heap.size w _ from (by repeat (with_reducible first | exact HB.out | apply below_alloc | apply pw_below_drewN | apply below_drew1))) hb2); clear hb2; clear u0 u1 u2 u3 u4 u5 u6; have u0 := blk_cell BK.out 0; have u1 := blk_cell BK.out 1; have u2 := blk_cell BK.out 2; have u3 := blk_cell BK.out 3; have u4 := blk_cell BK.out 4; have u5 := blk_cell BK.out 5; have u6 := blk_cell BK.out 6; have v0 := blk_cell BX.out 0; have v1 := blk_cell BX.out 1; have v2 := blk_cell BX.out 2; have v3 := blk_cell BX.out 3; have v4 := blk_cell BX.out 4; have v5 := blk_cell BX.out 5) | (go_at_call 25; (with_reducible refine (CL.out _).mono ?_); rintro e w6 ⟨rfl, hb2⟩; replace BK := Aside0.mk (blk_below (show _ from (by (with_reducible repeat (first | exact BK.out | refine blk_drewN ?_ _ | refine blk_drew ?_ | refine blk_alloc ?_ _)))) hb2); replace BX := Aside0.mk (blk_below (show _ from (by (with_reducible repeat (first | exact BX.out | refine blk_drewN ?_ _ | refine blk_drew ?_ | refine blk_alloc ?_ _)))) hb2); replace HB := Aside0.mk (below_step (show Below w.heap.size w _ from (by repeat (with_reducible first | exact HB.out | apply below_alloc | apply pw_below_drewN | apply below_drew1))) hb2); clear hb2; clear u0 u1 u2 u3 u4 u5 u6; have u0 := blk_cell BK.out 0; have u1 := blk_cell BK.out 1; have u2 := blk_cell BK.out 2; have u3 := blk_cell BK.out 3; have u4 := blk_cell BK.out 4; have u5 := blk_cell BK.out 5; have u6 := blk_cell BK.out 6; clear v0 v1 v2 v3 v4 v5; have v0 := blk_cell BX.out 0; have v1 := blk_cell BX.out 1; have v2 := blk_cell BX.out 2; have v3 := blk_cell BX.out 3; have v4 := blk_cell BX.out 4; have v5 := blk_cell BX.out 5))
          go_roundg (a0_1 + 1 - (i + 1)).toNat
          case measure => exact M2.out
          case rel => exact ⟨i + 1, _, M1.out, rfl, rfl, by first | rfl | (rw [show wrap64 (i + 1) = i + 1 from (i64_w _).symm.trans M3.out]), ⟨(by repeat (with_reducible first | exact HB.out | apply below_alloc | apply pw_below_drewN | apply below_drew1))⟩, ⟨(by (with_reducible repeat (first | exact BK.out | refine blk_drewN ?_ _ | refine blk_drew ?_ | refine blk_alloc ?_ _)))⟩, ⟨by simpa using hN2.out⟩⟩
    · clear CGg CWg CUg CLg HX hop
      rcases HT.out with ⟨e, h1, h2, h3⟩ | ⟨e, h1, h2⟩
      · have hn : nn = false := by
          cases nn with
          | false => rfl
          | true => have := HN.out.1 rfl vh h2 (by omega); rw [h1] at this; cases this
        subst hn e
        have c1 : decide (a0_0 ≤ vh) = true := decide_eq_true h2
        have c2 : decide (vh ≤ a0_1) = true := decide_eq_true h3
        clear HT HN h1
        go_wp2_with (first | (go_at_call 20; (with_reducible refine (Cn.out _ _).mono ?_); rintro e wq ⟨rfl, ⟨nd, rfl⟩⟩))
        go_ret
        exact ⟨rfl, (by repeat (with_reducible first | exact HB.out | apply below_alloc | apply pw_below_drewN | apply below_drew1))⟩
      · have hn : nn = true := HN.out.2 (fun x _ _ => h2 x)
        subst hn e h1
        clear HT HN h2
        go_wp2_with (first | (go_at_call 20; (with_reducible refine (Cn.out _ _).mono ?_); rintro e wq ⟨rfl, ⟨nd, rfl⟩⟩))
        go_ret
        exact ⟨rfl, (by repeat (with_reducible first | exact HB.out | apply below_alloc | apply pw_below_drewN | apply below_drew1))⟩

/-- THE ONE PURE STATEMENT of pinfoldlaw14_PickOpen. -/
def pinfoldlaw14_PickOpen.Pure : Prop := ∀ (a0_0 : Int) (a0_1 : Int) (l0_2 : List Int) (l0_3 : List (S72)) (a0_4 : Int) (a0_5 : ByteArray) (l0_6 : List (S74)) (l1 : List (S42)) (a2 : Int) (a3 : ByteArray) (a4 : Int), (Lit.int .i64 a0_0).wf = true → (Lit.int .i64 a0_1).wf = true → (l0_2.length * Tryd.prog.bytesOf 3 ≤ 140737488351232 ∧ ∀ y0_ ∈ l0_2, (Lit.int .i64 y0_).wf = true) → (l0_3.length * Tryd.prog.bytesOf 72 ≤ 140737488351232 ∧ ∀ y0_ ∈ l0_3, (y0_.f0.size ≤ 140737488351232 ∧ (Lit.int .i64 y0_.f1).wf = true)) → (Lit.int .i64 a0_4).wf = true → a0_5.size ≤ 140737488351232 → (l0_6.length * Tryd.prog.bytesOf 74 ≤ 140737488351232 ∧ ∀ y0_ ∈ l0_6, (y0_.f0.size ≤ 140737488351232 ∧ ((Lit.int .i64 y0_.f1).wf = true ∧ ((Lit.int .i64 y0_.f2).wf = true ∧ ((Lit.int .i64 y0_.f3).wf = true ∧ (y0_.f4.size ≤ 140737488351232 ∧ (y0_.f5.size ≤ 140737488351232 ∧ (Lit.int .i64 y0_.f6).wf = true))))))) → (l1.length * Tryd.prog.bytesOf 42 ≤ 140737488351232 ∧ ∀ y0_ ∈ l1, ((Lit.int .i64 y0_.f0).wf = true ∧ ((Lit.int .i64 y0_.f1).wf = true ∧ (y0_.f2.size ≤ 140737488351232 ∧ ((Lit.int .i64 y0_.f3).wf = true ∧ (y0_.f4.size ≤ 140737488351232 ∧ True)))))) → (Lit.int .i64 a2).wf = true → a3.size ≤ 140737488351232 → (Lit.int .i64 a4).wf = true → pinfoldlaw14_PickOpen.f a0_0 a0_1 l0_2 l0_3 a0_4 a0_5 l0_6 l1 a2 a3 a4 = some true
theorem pinfoldlaw14_PickOpen.walk (P : pinfoldlaw14_PickOpen.Pure) (a0_0 : Int) (a0_1 : Int) (A0_2 : Option Addr) (c0_2 : Nat) (l0_2 : List Int) (A0_3 : Option Addr) (c0_3 : Nat) (l0_3 : List (S72)) (a0_4 : Int) (a0_5 : ByteArray) (A0_6 : Option Addr) (c0_6 : Nat) (l0_6 : List (S74)) (A1 : Option Addr) (c1 : Nat) (l1 : List (S42)) (a2 : Int) (a3 : ByteArray) (a4 : Int) (w : World) (hr0_2 : Kd.C (Kd.int .i64) w A0_2 l0_2.length l0_2) (hc0_2 : l0_2.length ≤ c0_2) (hr0_3 : Kd.C k72 w A0_3 l0_3.length l0_3) (hc0_3 : l0_3.length ≤ c0_3) (hr0_6 : Kd.C k74 w A0_6 l0_6.length l0_6) (hc0_6 : l0_6.length ≤ c0_6) (hr1 : Kd.C k42 w A1 l1.length l1) (hc1 : l1.length ≤ c1) (w0_0 : (Lit.int .i64 a0_0).wf = true) (w0_1 : (Lit.int .i64 a0_1).wf = true) (w0_2 : (l0_2.length * Tryd.prog.bytesOf 3 ≤ 140737488351232 ∧ ∀ y0_ ∈ l0_2, (Lit.int .i64 y0_).wf = true)) (w0_3 : (l0_3.length * Tryd.prog.bytesOf 72 ≤ 140737488351232 ∧ ∀ y0_ ∈ l0_3, (y0_.f0.size ≤ 140737488351232 ∧ (Lit.int .i64 y0_.f1).wf = true))) (w0_4 : (Lit.int .i64 a0_4).wf = true) (w0_5 : a0_5.size ≤ 140737488351232) (w0_6 : (l0_6.length * Tryd.prog.bytesOf 74 ≤ 140737488351232 ∧ ∀ y0_ ∈ l0_6, (y0_.f0.size ≤ 140737488351232 ∧ ((Lit.int .i64 y0_.f1).wf = true ∧ ((Lit.int .i64 y0_.f2).wf = true ∧ ((Lit.int .i64 y0_.f3).wf = true ∧ (y0_.f4.size ≤ 140737488351232 ∧ (y0_.f5.size ≤ 140737488351232 ∧ (Lit.int .i64 y0_.f6).wf = true)))))))) (w1 : (l1.length * Tryd.prog.bytesOf 42 ≤ 140737488351232 ∧ ∀ y0_ ∈ l1, ((Lit.int .i64 y0_.f0).wf = true ∧ ((Lit.int .i64 y0_.f1).wf = true ∧ (y0_.f2.size ≤ 140737488351232 ∧ ((Lit.int .i64 y0_.f3).wf = true ∧ (y0_.f4.size ≤ 140737488351232 ∧ True))))))) (w2 : (Lit.int .i64 a2).wf = true) (w3 : a3.size ≤ 140737488351232) (w4 : (Lit.int .i64 a4).wf = true) :
  Calls Tryd.prog 9 #[.agg #[.int .i64 a0_0, .int .i64 a0_1, .slice A0_2 l0_2.length c0_2, .slice A0_3 l0_3.length c0_3, .int .i64 a0_4, .string a0_5, .slice A0_6 l0_6.length c0_6], .slice A1 l1.length c1, .int .i64 a2, .string a3, .int .i64 a4] w fun e w' => e = .returned (.bool true) ∧ Below w.heap.size w w' := by
 have h := P a0_0 a0_1 l0_2 l0_3 a0_4 a0_5 l0_6 l1 a2 a3 a4 w0_0 w0_1 w0_2 w0_3 w0_4 w0_5 w0_6 w1 w2 w3 w4
 refine (pinfoldlaw14_PickOpen.calls a0_0 a0_1 _ _ l0_2 _ _ l0_3 a0_4 a0_5 _ _ l0_6 _ _ l1 a2 a3 a4 true w hr0_2 hc0_2 hr0_3 hc0_3 hr0_6 hc0_6 hr1 hc1 h).mono ?_
 rintro e w' ⟨rfl, hd⟩
 exact ⟨rfl, hd⟩
end Go.Proofs.YtmoobaehoccihaaDoor.PF
