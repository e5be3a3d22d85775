/- Picks: any configuration, leases, time, client, host: what is picked is the document's. No condition. -/
import Derived.Test.YtmoobaehoccihaaDoorPFx19
namespace Go.Proofs.YtmoobaehoccihaaDoor.Pure
open Go.RowKit Go.Proofs.YtmoobaehoccihaaDoor.PF Go.Proofs.YtmoobaehoccihaaDoorW.PrintWords Go.Proofs.YtmoobaehoccihaaDoorW.PrintLast
set_option linter.unusedSimpArgs false
set_option linter.unusedVariables false

/-- the bounds of an int. -/
theorem int_bd {a : Int} (h : (Lit.int .i64 a).wf = true) : -9223372036854775808 ≤ a ∧ a ≤ 9223372036854775807 := by
  simp only [Lit.wf, IntKind.min, IntKind.max, IntKind.signed, IntKind.bits, Bool.and_eq_true, decide_eq_true_eq, if_true] at h
  omega
theorem u64_eq (a : Int) : IntKind.u64.wrap a = a % 18446744073709551616 := by simp [IntKind.wrap, IntKind.bits, IntKind.signed]
theorem w64 {a : Int} (h : -9223372036854775808 ≤ a ∧ a ≤ 9223372036854775807) : wrap64 a = a := by unfold wrap64; omega
/-- the low bits of any int. -/
theorem and_mask (a : Int) (i : Nat) (hi : i ≤ 62) : Go.bits .and .i64 a ((2 ^ i - 1 : Nat) : Int) = a % ((2 ^ i : Nat) : Int) := by
  have hp : 0 < 2 ^ i := Nat.two_pow_pos i
  have hl : 2 ^ i ≤ 2 ^ 62 := Nat.pow_le_pow_right (by decide) hi
  show IntKind.wrap .i64 (((BitVec.ofInt 64 a &&& BitVec.ofInt 64 ((2 ^ i - 1 : Nat) : Int)).toNat : Nat) : Int) = _
  have e : (((BitVec.ofInt 64 a &&& BitVec.ofInt 64 ((2 ^ i - 1 : Nat) : Int)).toNat : Nat) : Int) = a % ((2 ^ i : Nat) : Int) := by
    rw [BitVec.toNat_and, BitVec.ofInt_natCast, BitVec.toNat_ofNat, Nat.mod_eq_of_lt (show 2 ^ i - 1 < 2 ^ 64 by omega), Nat.and_two_pow_sub_one_eq_mod, BitVec.toNat_ofInt]
    rw [Int.natCast_emod, Int.toNat_of_nonneg (Int.emod_nonneg _ (by decide))]
    exact Int.emod_emod_of_dvd a (by
      rw [Int.natCast_dvd_natCast]
      exact Nat.pow_dvd_pow 2 (by omega))
  rw [e, IntKind.wrap_i64]
  have h0 := Int.emod_nonneg a (show ((2 ^ i : Nat) : Int) ≠ 0 by omega)
  have h1 := Int.emod_lt_of_pos a (show 0 < ((2 ^ i : Nat) : Int) by omega)
  omega
theorem and_1023 (a : Int) : Go.bits .and .i64 a 1023 = a % 1024 := and_mask a 10 (by decide)
theorem and_63 (a : Int) : Go.bits .and .i64 a 63 = a % 64 := and_mask a 6 (by decide)
theorem and_255 (a : Int) : Go.bits .and .i64 a 255 = a % 256 := and_mask a 8 (by decide)
theorem and_65535 (a : Int) : Go.bits .and .i64 a 65535 = a % 65536 := and_mask a 16 (by decide)
theorem and_u32 (a : Int) : Go.bits .and .i64 a 4294967295 = a % 4294967296 := and_mask a 32 (by decide)
theorem wraps_i64 (n : Int) (h0 : 0 ≤ n) (h1 : n < 2 ^ 63) : IntKind.i64.wrap n = n := by rw [IntKind.wrap_i64]; omega
theorem or_byte (x b : Int) (hx : 0 ≤ x ∧ x < 281474976710656) (hb : 0 ≤ b ∧ b < 256) : Go.bits .or .i64 (wrap64 (x * 256)) b = x * 256 + b := by
  rw [w64 (by omega)]
  exact bits_join .i64 63 (by decide) wraps_i64 8 (x * 256) b (by omega) (by omega) (by omega) hb.1 (by omega) (by omega)
abbrev gEx : List Int := [12]
abbrev gRes : List S72 := [⟨(⟨#[118, 105, 112]⟩ : ByteArray), 13⟩]
abbrev gZone : ByteArray := ⟨#[108, 97, 110]⟩
abbrev gRR : List S74 := [⟨(⟨#[119, 119, 119, 46, 108, 97, 110]⟩ : ByteArray), 1, 5, 7, (⟨#[]⟩ : ByteArray), (⟨#[]⟩ : ByteArray), 0⟩]
theorem given_eq : pinfoldlaw14_given.f = some (10, 13, gEx, gRes, 100, gZone, gRR) := rfl
theorem given_fit : confFit gEx gRes gZone gRR := by unfold confFit; decide
theorem awake_eq : pinfoldlaw14_awake.f = some true := by kernel_rfl
theorem wrap_succ (i n : Nat) (h : i < n) (hn : n ≤ 140737488351232) : wrap64 ((i : Int) + 1) = ((i + 1 : Nat) : Int) := by
  rw [w64 (by omega)]
  omega
theorem samleases_l0 (l : List S42) (hl : l.length ≤ 140737488351232) : ∀ (d k i : Nat), i + d = l.length → d + 1 ≤ k → pinfoldlaw0_SameLeases.l0 k l l (i : Int) = some true
  | 0, k, i, hi, hk => by
    obtain ⟨k, rfl⟩ : ∃ j, k = j + 1 := ⟨k - 1, by omega⟩
    rw [pinfoldlaw0_SameLeases.l0, if_neg (by omega)]
  | d + 1, k, i, hi, hk => by
    obtain ⟨k, rfl⟩ : ∃ j, k = j + 1 := ⟨k - 1, by omega⟩
    rw [pinfoldlaw0_SameLeases.l0, if_pos (by omega), if_pos (by omega), if_pos (by omega), if_neg (by simp), wrap_succ i l.length (by omega) hl]
    exact samleases_l0 l hl d k (i + 1) (by omega) (by omega)
theorem copy_eq {a0 a1 : Int} {l2 : List Int} {l3 : List S72} {a4 : Int} {z : ByteArray} {l6 : List S74} (h2 : l2.length < 17592186044416) (h3 : l3.length < 5864062014805) (h6 : l6.length < 1759218604441) : pinfoldlaw0_CopyConfig.f a0 a1 l2 l3 a4 z l6 = some (a0, a1, l2, l3, a4, z, l6) := by
  unfold pinfoldlaw0_CopyConfig.f
  simp only [Option.bind_some, List.length_nil, Nat.zero_add, List.nil_append]
  rw [if_pos h2, if_pos h3, if_pos h6]
theorem sameints_l0 (l : List Int) (hl : l.length ≤ 140737488351232) : ∀ (d k i : Nat), i + d = l.length → d + 1 ≤ k → pinfoldlaw0_SameInts.l0 k l l (i : Int) = some true
  | 0, k, i, hi, hk => by
    obtain ⟨k, rfl⟩ : ∃ j, k = j + 1 := ⟨k - 1, by omega⟩
    rw [pinfoldlaw0_SameInts.l0, if_neg (by omega)]
  | d + 1, k, i, hi, hk => by
    obtain ⟨k, rfl⟩ : ∃ j, k = j + 1 := ⟨k - 1, by omega⟩
    rw [pinfoldlaw0_SameInts.l0, if_pos (by omega), if_pos (by omega), if_pos (by omega), if_pos rfl, wrap_succ i l.length (by omega) hl]
    exact sameints_l0 l hl d k (i + 1) (by omega) (by omega)
theorem samereserves_l0 (l : List S72) (hl : l.length ≤ 140737488351232) : ∀ (d k i : Nat), i + d = l.length → d + 1 ≤ k → pinfoldlaw0_SameReserves.l0 k l l (i : Int) = some true
  | 0, k, i, hi, hk => by
    obtain ⟨k, rfl⟩ : ∃ j, k = j + 1 := ⟨k - 1, by omega⟩
    rw [pinfoldlaw0_SameReserves.l0, if_neg (by omega)]
  | d + 1, k, i, hi, hk => by
    obtain ⟨k, rfl⟩ : ∃ j, k = j + 1 := ⟨k - 1, by omega⟩
    rw [pinfoldlaw0_SameReserves.l0, if_pos (by omega), if_pos (by omega), if_pos (by omega), if_neg (by simp), wrap_succ i l.length (by omega) hl]
    exact samereserves_l0 l hl d k (i + 1) (by omega) (by omega)
theorem samerrs_l0 (l : List S74) (hl : l.length ≤ 140737488351232) : ∀ (d k i : Nat), i + d = l.length → d + 1 ≤ k → pinfoldlaw0_SameRRs.l0 k l l (i : Int) = some true
  | 0, k, i, hi, hk => by
    obtain ⟨k, rfl⟩ : ∃ j, k = j + 1 := ⟨k - 1, by omega⟩
    rw [pinfoldlaw0_SameRRs.l0, if_neg (by omega)]
  | d + 1, k, i, hi, hk => by
    obtain ⟨k, rfl⟩ : ∃ j, k = j + 1 := ⟨k - 1, by omega⟩
    rw [pinfoldlaw0_SameRRs.l0, if_pos (by omega), if_pos (by omega), if_pos (by omega), if_neg (by simp), wrap_succ i l.length (by omega) hl]
    exact samerrs_l0 l hl d k (i + 1) (by omega) (by omega)
theorem sameconfig_eq {a0 a1 : Int} {l2 : List Int} {l3 : List S72} {a4 : Int} {z : ByteArray} {l6 : List S74} (h2 : l2.length ≤ 140737488351232) (h3 : l3.length ≤ 140737488351232) (h6 : l6.length ≤ 140737488351232) (k : Nat) (k2 : l2.length + 1 ≤ k) (k3 : l3.length + 1 ≤ k) (k6 : l6.length + 1 ≤ k) : pinfoldlaw0_SameConfig.f k a0 a1 l2 l3 a4 z l6 a0 a1 l2 l3 a4 z l6 = some true := by
  have e2 := sameints_l0 l2 h2 l2.length k 0 (by omega) k2
  have e3 := samereserves_l0 l3 h3 l3.length k 0 (by omega) k3
  have e6 := samerrs_l0 l6 h6 l6.length k 0 (by omega) k6
  rw [show ((0 : Nat) : Int) = 0 from rfl] at e2 e3 e6
  unfold pinfoldlaw0_SameConfig.f pinfoldlaw0_SameInts.f pinfoldlaw0_SameReserves.f pinfoldlaw0_SameRRs.f
  simp only [if_true, e2, e3, e6, Option.bind_some]
section
variable {a0 a1 : Int} {l2 : List Int} {l3 : List S72} {a4 : Int} {z : ByteArray} {l6 : List S74} {ls : List S42} {now : Int} {c : ByteArray}
theorem open_in {h : Int} (e : openB a0 a1 l2 l3 a4 z l6 ls now c h = true) : a0 ≤ h ∧ h ≤ a1 ∧ confB a0 a1 l2 l3 a4 z l6 = true := by
  unfold openB lentB usableB at e
  simp only [Bool.and_eq_true, decide_eq_true_eq] at e
  exact ⟨e.1.1.2.2.1, e.1.1.2.2.2, e.1.1.2.1⟩
theorem mem_hosts (a b h : Int) : h ∈ hostsL a b ↔ a ≤ h ∧ h ≤ b := by
  unfold hostsL
  rw [List.mem_map]
  constructor
  · rintro ⟨i, hi, rfl⟩
    rw [List.mem_range] at hi
    omega
  · rintro ⟨h1, h2⟩
    exact ⟨(h - a).toNat, List.mem_range.2 (by omega), by omega⟩
theorem mem_open {h : Int} : h ∈ (hostsL a0 a1).filter (openB a0 a1 l2 l3 a4 z l6 ls now c) ↔ openB a0 a1 l2 l3 a4 z l6 ls now c h = true := by
  rw [List.mem_filter]
  constructor
  · exact fun e => e.2
  · intro e
    have := open_in e
    exact ⟨(mem_hosts a0 a1 h).2 ⟨this.1, this.2.1⟩, e⟩
theorem eld_mem (ls : List S42) : ∀ (L : List Int) (best til : Int), eldGo ls best til L = best ∨ eldGo ls best til L ∈ L
  | [], best, til => .inl rfl
  | h :: r, best, til => by
    unfold eldGo
    split
    · rcases eld_mem ls r h (gotL (findL ls h)).f3 with e | e
      · rw [e]
        exact .inr List.mem_cons_self
      · exact .inr (List.mem_cons_of_mem _ e)
    · rcases eld_mem ls r best til with e | e
      · exact .inl e
      · exact .inr (List.mem_cons_of_mem _ e)
theorem eld_some (ls : List S42) (L : List Int) (til : Int) (hl : L ≠ []) : eldGo ls 0 til L ∈ L := by
  cases L with
  | nil => exact absurd rfl hl
  | cons h r =>
    unfold eldGo
    rw [if_pos (.inl rfl)]
    rcases eld_mem ls r h (gotL (findL ls h)).f3 with e | e
    · rw [e]
      exact List.mem_cons_self
    · exact List.mem_cons_of_mem _ e
theorem first_mem (q : Option S42 → Bool) (ls : List S42) (L : List Int) : firstH q ls L = 0 ∨ firstH q ls L ∈ L := by
  unfold firstH
  cases e : L.find? (fun h => q (findL ls h)) with
  | none => exact .inl rfl
  | some h => exact .inr (List.mem_of_find?_eq_some e)
/-- what is picked where one has nothing, and what is wanted is not open. -/
def restV (a0 a1 : Int) (l2 : List Int) (l3 : List S72) (a4 : Int) (z : ByteArray) (l6 : List S74) (ls : List S42) (now : Int) (client : ByteArray) : Int × Int := match [firstH (hadQ client now) ls ((hostsL a0 a1).filter (openB a0 a1 l2 l3 a4 z l6 ls now client)), firstH Option.isNone ls ((hostsL a0 a1).filter (openB a0 a1 l2 l3 a4 z l6 ls now client)), eldGo ls 0 0 ((hostsL a0 a1).filter (openB a0 a1 l2 l3 a4 z l6 ls now client))].find? (fun h => decide (h > 0)) with
    | some h => (h, 0)
    | none => (0, 1401)
theorem rest_ok (hc : 2 ≤ a0) : (∃ h, restV a0 a1 l2 l3 a4 z l6 ls now c = (h, 0) ∧ openB a0 a1 l2 l3 a4 z l6 ls now c h = true) ∨ (restV a0 a1 l2 l3 a4 z l6 ls now c = (0, 1401) ∧ ∀ h, openB a0 a1 l2 l3 a4 z l6 ls now c h = false) := by
  have hmo := fun h => @mem_open a0 a1 l2 l3 a4 z l6 ls now c h
  have hin := fun h (e : openB a0 a1 l2 l3 a4 z l6 ls now c h = true) => open_in e
  unfold restV
  generalize (hostsL a0 a1).filter (openB a0 a1 l2 l3 a4 z l6 ls now c) = O at hmo
  by_cases hO : O = []
  · right
    subst hO
    refine ⟨rfl, fun h => ?_⟩
    cases e : openB a0 a1 l2 l3 a4 z l6 ls now c h with
    | false => rfl
    | true => exact absurd ((hmo h).2 e) (by simp)
  · left
    have he := eld_some ls O 0 hO
    have hf1 := first_mem (hadQ c now) ls O
    have hf2 := first_mem Option.isNone ls O
    have hpos : ∀ h ∈ O, h > 0 := fun h hh => by have := hin h ((hmo h).1 hh); omega
    generalize firstH (hadQ c now) ls O = x at hf1
    generalize firstH Option.isNone ls O = y at hf2
    generalize eldGo ls 0 0 O = w at he
    cases hfd : [x, y, w].find? (fun h => decide (h > 0)) with
    | none =>
      have := List.find?_eq_none.1 hfd w (by simp)
      exact absurd (hpos w he) (by simpa using this)
    | some h =>
      have hp : h > 0 := by simpa using List.find?_some hfd
      have hm := List.mem_of_find?_eq_some hfd
      simp only [List.mem_cons, List.not_mem_nil, or_false] at hm
      refine ⟨h, rfl, (hmo h).1 ?_⟩
      rcases hm with e | e | e
      · subst e
        rcases hf1 with e | e
        · omega
        · exact e
      · subst e
        rcases hf2 with e | e
        · omega
        · exact e
      · subst e
        exact he
theorem pick_parts (wanted : Int) : pickV a0 a1 l2 l3 a4 z l6 ls now c wanted = if openB a0 a1 l2 l3 a4 z l6 ls now c (gotL (ofL ls c now)).f0 = true then ((gotL (ofL ls c now)).f0, 0) else if openB a0 a1 l2 l3 a4 z l6 ls now c (foundH (reservR a0 a1 l2 l3 a4 z l6 c)) = true then (foundH (reservR a0 a1 l2 l3 a4 z l6 c), 0) else if openB a0 a1 l2 l3 a4 z l6 ls now c wanted = true then (wanted, 0) else restV a0 a1 l2 l3 a4 z l6 ls now c := by
  unfold pickV restV
  generalize (gotL (ofL ls c now)).f0 = x
  generalize foundH (reservR a0 a1 l2 l3 a4 z l6 c) = y
  rw [List.find?_cons]
  cases openB a0 a1 l2 l3 a4 z l6 ls now c x with
  | true => rfl
  | false =>
    rw [if_neg (by decide), List.find?_cons]
    cases openB a0 a1 l2 l3 a4 z l6 ls now c y with
    | true => rfl
    | false =>
      rw [if_neg (by decide), List.find?_cons]
      cases openB a0 a1 l2 l3 a4 z l6 ls now c wanted with
      | true => rfl
      | false => rfl
theorem may_parts (h : pickMayB a0 a1 l2 l3 a4 z l6 ls now c = true) : 2 ≤ a0 ∧ a1 ≤ 254 ∧ confB a0 a1 l2 l3 a4 z l6 = true ∧ tableB ls = true ∧ (0 ≤ now ∧ now ≤ 1099511627776) ∧ clientB c = true := by
  unfold pickMayB at h
  simp only [Bool.and_eq_true, decide_eq_true_eq] at h
  have hb := conf_bounds h.1
  exact ⟨hb.1, hb.2.2.1, h.1, h.2.1, h.2.2.1, h.2.2.2⟩
end
theorem goTab_sorted : ∀ (l : List S42) (p : Option Int), goTab p l = true → (∀ x ∈ l, leaseOk x = true) ∧ l.Pairwise (fun a b => a.f0 < b.f0) ∧ ∀ q, p = some q → ∀ x ∈ l, q < x.f0
  | [], p, _ => ⟨fun _ h => by simp at h, List.Pairwise.nil, fun _ _ _ h => by simp at h⟩
  | x :: r, p, h => by
    unfold goTab at h
    rw [Bool.and_eq_true, Bool.and_eq_true] at h
    obtain ⟨h1, h2, h3⟩ := h
    obtain ⟨i1, i2, i3⟩ := goTab_sorted r (some x.f0) h3
    have i4 := i3 x.f0 rfl
    refine ⟨fun y hy => ?_, List.pairwise_cons.2 ⟨i4, i2⟩, fun q hq y hy => ?_⟩
    · rcases List.mem_cons.1 hy with e | hy
      · rw [e]
        exact h1
      · exact i1 y hy
    · subst hq
      have hx : q < x.f0 := of_decide_eq_true h2
      rcases List.mem_cons.1 hy with e | hy
      · rw [e]
        exact hx
      · have := i4 y hy
        omega
theorem table_sorted {l : List S42} (h : tableB l = true) : (∀ x ∈ l, leaseOk x = true) ∧ l.Pairwise (fun a b => a.f0 < b.f0) ∧ l.length ≤ 8 := by
  unfold tableB at h
  rw [Bool.and_eq_true, decide_eq_true_eq] at h
  exact ⟨(goTab_sorted l none h.1).1, (goTab_sorted l none h.1).2.1, h.2⟩
/-- hosts stand once. -/
theorem host_once : ∀ {l : List S42}, l.Pairwise (fun a b => a.f0 < b.f0) → ∀ x ∈ l, ∀ y ∈ l, x.f0 = y.f0 → x = y
  | [], _, x, hx, _, _, _ => by simp at hx
  | a :: r, h, x, hx, y, hy, e => by
    obtain ⟨h1, h2⟩ := List.pairwise_cons.1 h
    rcases List.mem_cons.1 hx with hx1 | hx1
    · rcases List.mem_cons.1 hy with hy1 | hy1
      · rw [hx1, hy1]
      · have := h1 y hy1
        rw [hx1] at e
        omega
    · rcases List.mem_cons.1 hy with hy1 | hy1
      · have := h1 x hx1
        rw [hy1] at e
        omega
      · exact host_once h2 x hx1 y hy1 e
theorem put_done : ∀ (l : List S42) (y : S42), (∀ x ∈ l, x.f0 ≠ y.f0) → putGo y true l = l
  | [], y, _ => rfl
  | x :: r, y, h => by
    unfold putGo
    rw [if_neg (by simp), if_neg (h x List.mem_cons_self), Bool.true_or, put_done r y (fun z hz => h z (List.mem_cons_of_mem _ hz))]
    rfl
/-- a lease in the place of another one of the same host. -/
theorem put_swap : ∀ (l : List S42) (y : S42), l.Pairwise (fun a b => a.f0 < b.f0) → (∃ x ∈ l, x.f0 = y.f0) → putGo y false l = swapL l y.f0 y
  | [], y, _, ⟨x, hx, _⟩ => by simp at hx
  | x :: r, y, h, ⟨x', hx', e'⟩ => by
    obtain ⟨h1, h2⟩ := List.pairwise_cons.1 h
    unfold putGo swapL
    rw [List.map_cons]
    by_cases q : x.f0 = y.f0
    · rw [if_pos ⟨rfl, by omega⟩, if_pos q, if_pos q, decide_eq_true (by omega), Bool.or_true]
      have hr : ∀ z ∈ r, z.f0 ≠ y.f0 := fun z hz => by have := h1 z hz; omega
      rw [put_done r y hr]
      have hm : r.map (fun x => if x.f0 = y.f0 then y else x) = r := (List.map_congr_left (g := id) (fun z hz => if_neg (hr z hz)) : r.map (fun x => if x.f0 = y.f0 then y else x) = r.map id).trans (List.map_id r)
      rw [hm]
      rfl
    · have hr : x' ∈ r := by
        rcases List.mem_cons.1 hx' with e | e
        · rw [e] at e'
          exact absurd e' q
        · exact e
      have hlt := h1 x' hr
      rw [if_neg (by omega), if_neg q, if_neg q, decide_eq_false (by omega), Bool.or_false, put_swap r y h2 ⟨x', hr, e'⟩]
      rfl
theorem swap_id (l : List S42) (host : Int) (y : S42) (h : ∀ x ∈ l, x.f0 = host → x = y) : swapL l host y = l := by
  have hm : l.map (fun x => if x.f0 = host then y else x) = l.map id := List.map_congr_left (fun z hz => by
    by_cases e : z.f0 = host
    · rw [if_pos e, h z hz e]
      rfl
    · rw [if_neg e]
      rfl)
  exact hm.trans (List.map_id l)
theorem find_some {l : List S42} {h : Int} {x : S42} (e : findL l h = some x) : x ∈ l ∧ x.f0 = h := by
  unfold findL at e
  refine ⟨List.mem_of_find?_eq_some e, ?_⟩
  have := List.find?_some e
  simpa using this
theorem find_none {l : List S42} {h : Int} (e : findL l h = none) : ∀ x ∈ l, x.f0 ≠ h := fun x hx => by
  unfold findL at e
  have := List.find?_eq_none.1 e x hx
  simpa using this
theorem hostsFrom_eq : ∀ (d : Nat) (h : Int), hostsFrom h d = (List.range d).map fun (i : Nat) => h + (i : Int)
  | 0, h => rfl
  | d + 1, h => by
    rw [List.range_succ_eq_map, List.map_cons, List.map_map]
    show h :: hostsFrom (h + 1) d = _
    rw [hostsFrom_eq d (h + 1)]
    congr 1
    · omega
    · apply List.map_congr_left
      intro i _
      show h + 1 + (i : Int) = h + ((i + 1 : Nat) : Int)
      omega
theorem go_find (ls : List S42) : ∀ (O : List Int) (best til : Int), refGo ls best til O = match O.find? (fun h => Option.isNone (findL ls h)) with
    | some h => (h, 0)
    | none => if eldGo ls best til O = 0 then (0, 1401) else (eldGo ls best til O, 0)
  | [], best, til => rfl
  | h :: r, best, til => by
    have e0 : ∀ x, findL ls h = some x → eldGo ls best til (h :: r) = if best = 0 ∨ x.f3 < til then eldGo ls h x.f3 r else eldGo ls best til r := by
      intro x e
      show (if best = 0 ∨ (gotL (findL ls h)).f3 < til then _ else _) = _
      rw [e]
      rfl
    rw [List.find?_cons]
    cases hfd : findL ls h with
    | none => simp only [refGo, hfd, Option.isNone_none]
    | some x =>
      rw [e0 x hfd]
      simp only [refGo, hfd, Option.isNone_some]
      by_cases q : best = 0 ∨ x.f3 < til
      · rw [if_pos q, if_pos q]
        exact go_find ls r h x.f3
      · rw [if_neg q, if_neg q]
        exact go_find ls r best til
theorem hosts_sorted (a b : Int) : (hostsL a b).Pairwise (· < ·) := by
  unfold hostsL
  rw [List.pairwise_map]
  refine List.Pairwise.imp (fun {x y} (h : x < y) => ?_) List.pairwise_lt_range
  omega
theorem find_of_mem {ls : List S42} (hs : ls.Pairwise (fun a b => a.f0 < b.f0)) {x : S42} (hx : x ∈ ls) : findL ls x.f0 = some x := by
  cases hfd : findL ls x.f0 with
  | none => exact absurd rfl (find_none hfd x hx)
  | some y =>
    obtain ⟨hy, he⟩ := find_some hfd
    rw [host_once hs y hy x hx he]
section
variable {a0 a1 : Int} {l2 : List Int} {l3 : List S72} {a4 : Int} {z : ByteArray} {l6 : List S74}
theorem had_eq {ls : List S42} (hs : ls.Pairwise (fun a b => a.f0 < b.f0)) (now : Int) (c : ByteArray) : ((hostsL a0 a1).filter (openB a0 a1 l2 l3 a4 z l6 ls now c)).find? (fun h => hadQ c now (findL ls h)) = (ls.find? (hadC a0 a1 l2 l3 a4 z l6 ls now c)).map (fun x => x.f0) := by
  have hmo := fun h => @mem_open a0 a1 l2 l3 a4 z l6 ls now c h
  have hso : ((hostsL a0 a1).filter (openB a0 a1 l2 l3 a4 z l6 ls now c)).Pairwise (· < ·) := (hosts_sorted a0 a1).filter _
  generalize (hostsL a0 a1).filter (openB a0 a1 l2 l3 a4 z l6 ls now c) = O at hmo hso
  have hback : ∀ h, h ∈ O → hadQ c now (findL ls h) = true → ∃ x ∈ ls, x.f0 = h ∧ hadC a0 a1 l2 l3 a4 z l6 ls now c x = true := by
    intro h ho hq
    cases hfd : findL ls h with
    | none => rw [hfd] at hq; cases hq
    | some x =>
      obtain ⟨hx, he⟩ := find_some hfd
      rw [hfd] at hq
      refine ⟨x, hx, he, ?_⟩
      have hq2 : (decide (x.f2.toList = c.toList) && !liveX now x) = true := hq
      unfold hadC
      rw [he, (hmo h).1 ho, Bool.and_true, Bool.and_comm]
      exact hq2
  have hforth : ∀ x ∈ ls, hadC a0 a1 l2 l3 a4 z l6 ls now c x = true → x.f0 ∈ O ∧ hadQ c now (findL ls x.f0) = true := by
    intro x hx hq
    unfold hadC at hq
    rw [Bool.and_eq_true] at hq
    refine ⟨(hmo x.f0).2 hq.2, ?_⟩
    rw [find_of_mem hs hx]
    show (decide (x.f2.toList = c.toList) && !liveX now x) = true
    rw [Bool.and_comm]
    exact hq.1
  cases hs2 : ls.find? (hadC a0 a1 l2 l3 a4 z l6 ls now c) with
  | none =>
    rw [Option.map_none, List.find?_eq_none]
    intro h ho hq
    obtain ⟨x, hx, _, hc⟩ := hback h ho hq
    exact (List.find?_eq_none.1 hs2 x hx) hc
  | some x =>
    obtain ⟨hcx, us, vs, hls, has⟩ := List.find?_eq_some_iff_append.1 hs2
    have hx : x ∈ ls := List.mem_of_find?_eq_some hs2
    obtain ⟨ho, hq⟩ := hforth x hx hcx
    rw [Option.map_some]
    cases ho2 : O.find? (fun h => hadQ c now (findL ls h)) with
    | none => exact absurd hq (List.find?_eq_none.1 ho2 x.f0 ho)
    | some h' =>
      obtain ⟨hq', us', vs', hO, has'⟩ := List.find?_eq_some_iff_append.1 ho2
      obtain ⟨x', hx', he', hc'⟩ := hback h' (List.mem_of_find?_eq_some ho2) hq'
      have le1 : x.f0 ≤ h' := by
        rw [hls] at hx' hs
        rcases List.mem_append.1 hx' with m | m
        · have := has x' m
          rw [hc'] at this
          cases this
        · rcases List.mem_cons.1 m with e | m
          · rw [← he', e]
            exact Int.le_refl _
          · have := (List.pairwise_cons.1 (List.pairwise_append.1 hs).2.1).1 x' m
            omega
      have le2 : h' ≤ x.f0 := by
        rw [hO] at ho hso
        rcases List.mem_append.1 ho with m | m
        · have := has' x.f0 m
          rw [hq] at this
          cases this
        · rcases List.mem_cons.1 m with e | m
          · rw [e]
            exact Int.le_refl _
          · have := (List.pairwise_cons.1 (List.pairwise_append.1 hso).2.1).1 x.f0 m
            omega
      rw [show h' = x.f0 by omega]
/-- what the document picks. -/
theorem refpickP_eq (ls : List S42) (now : Int) (c : ByteArray) (wanted : Int) (hM : pickMayB a0 a1 l2 l3 a4 z l6 ls now c = true) : refPickP a0 a1 l2 l3 a4 z l6 ls now c wanted = pickV a0 a1 l2 l3 a4 z l6 ls now c wanted := by
  obtain ⟨hb, hb2, hcf, hT, _⟩ := may_parts hM
  obtain ⟨_, hs, h8⟩ := table_sorted hT
  have h0 : openB a0 a1 l2 l3 a4 z l6 ls now c 0 = false := by
    cases e : openB a0 a1 l2 l3 a4 z l6 ls now c 0 with
    | false => rfl
    | true => have := open_in e; omega
  have hend : refEnd a0 a1 l2 l3 a4 z l6 ls now c (ls.find? (hadC a0 a1 l2 l3 a4 z l6 ls now c)) = restV a0 a1 l2 l3 a4 z l6 ls now c := by
    have hh : hostsFrom a0 (a1 + 1 - a0).toNat = hostsL a0 a1 := hostsFrom_eq _ _
    have h3 := had_eq (a0 := a0) (a1 := a1) (l2 := l2) (l3 := l3) (a4 := a4) (z := z) (l6 := l6) hs now c
    have hpos : ∀ h ∈ (hostsL a0 a1).filter (openB a0 a1 l2 l3 a4 z l6 ls now c), h > 0 := fun h hh => by have := open_in (mem_open.1 hh); omega
    have hem := eld_mem ls ((hostsL a0 a1).filter (openB a0 a1 l2 l3 a4 z l6 ls now c)) 0 0
    unfold restV firstH
    cases hfx : ls.find? (hadC a0 a1 l2 l3 a4 z l6 ls now c) with
    | some x =>
      rw [h3, hfx]
      have hxo : x.f0 ∈ (hostsL a0 a1).filter (openB a0 a1 l2 l3 a4 z l6 ls now c) := by
        rw [hfx, Option.map_some] at h3
        exact List.mem_of_find?_eq_some h3
      have := hpos _ hxo
      simp only [Option.map_some, Option.getD_some]
      rw [List.find?_cons, decide_eq_true this]
      rfl
    | none =>
      rw [h3, hfx]
      show refGo ls 0 0 ((hostsFrom a0 (a1 + 1 - a0).toNat).filter (openB a0 a1 l2 l3 a4 z l6 ls now c)) = _
      rw [hh, go_find]
      generalize (hostsL a0 a1).filter (openB a0 a1 l2 l3 a4 z l6 ls now c) = O at hpos hem
      simp only [Option.map_none, Option.getD_none]
      rw [List.find?_cons, show decide ((0 : Int) > 0) = false from rfl]
      cases hfn : O.find? (fun h => Option.isNone (findL ls h)) with
      | some h =>
        have := hpos h (List.mem_of_find?_eq_some hfn)
        simp only [Option.getD_some]
        rw [List.find?_cons, decide_eq_true this]
      | none =>
        simp only [Option.getD_none]
        rw [List.find?_cons, show decide ((0 : Int) > 0) = false from rfl, List.find?_cons]
        rcases hem with e | e
        · rw [e]
          rfl
        · have := hpos _ e
          rw [if_neg (by omega), decide_eq_true this]
  have e1 : ((ofL ls c now).isSome && openB a0 a1 l2 l3 a4 z l6 ls now c (gotL (ofL ls c now)).f0) = openB a0 a1 l2 l3 a4 z l6 ls now c (gotL (ofL ls c now)).f0 := by
    cases ofL ls c now with
    | none => rw [show (gotL none).f0 = 0 from rfl, h0]; rfl
    | some y => rfl
  have e2 : (foundIs (reservR a0 a1 l2 l3 a4 z l6 c) && openB a0 a1 l2 l3 a4 z l6 ls now c (foundH (reservR a0 a1 l2 l3 a4 z l6 c))) = openB a0 a1 l2 l3 a4 z l6 ls now c (foundH (reservR a0 a1 l2 l3 a4 z l6 c)) := by
    cases reservR a0 a1 l2 l3 a4 z l6 c with
    | none => rw [show foundH none = 0 from rfl, h0]; rfl
    | some y => rfl
  unfold refPickP
  rw [pick_parts, hend, e1, e2]
end
/-- any configuration, leases, time, client, host: what is picked is the document's. -/
theorem Picks : pinfoldlaw14_Picks.Pure := by
  intro a0 a1 l2 l3 a4 z l6 ls now c host w0 w1 h2 h3 w4 hz h6 hl w8 hc w9
  have hx : ∀ x ∈ l6, x.f0.size ≤ 1048576 ∧ x.f4.size ≤ 1048576 := fun x hx => ⟨(h6.2 x hx).1, (h6.2 x hx).2.2.2.2.1⟩
  have hy : ∀ x ∈ ls, x.f4.size ≤ 1048576 := fun x hx => (hl.2 x hx).2.2.2.2.1
  replace h2 := h2.1
  replace h3 := h3.1
  replace h6 := h6.1
  replace hl := hl.1
  have hf : confFit l2 l3 z l6 := ⟨by omega, by omega, by omega, by omega, fun x h => by have := hx x h; omega⟩
  have hr : confFitR l2 l3 z l6 := ⟨by omega, by omega, by omega, by omega, fun x h => by have := hx x h; omega⟩
  have ht : tabFit ls := ⟨by omega, fun x h => by have := hy x h; omega⟩
  have htr : tabFitR ls := ⟨by omega, fun x h => by have := hy x h; omega⟩
  have hp : pickFit l2 l3 z l6 ls := ⟨hf, ht⟩
  clear w0 w1 w4 w8 w9
  refine ⟨2 * l2.length + 2 * l3.length + l6.length + 2 * ls.length + 310, ?_⟩
  generalize hK : 2 * l2.length + 2 * l3.length + l6.length + 2 * ls.length + 310 = K
  have e1 : pinfoldref11_Pick_c.f a0 a1 l2 l3 a4 z l6 ls now c host = some (if pickMayB a0 a1 l2 l3 a4 z l6 ls now c = true then pickV a0 a1 l2 l3 a4 z l6 ls now c host else (0, 1400)) := by
    unfold pinfoldref11_Pick_c.f
    rw [if_pos ⟨hr, htr⟩]
    cases hM : pickMayB a0 a1 l2 l3 a4 z l6 ls now c with
    | false => rfl
    | true => rw [if_pos rfl, if_pos rfl, refpickP_eq ls now c host hM]
  have e3 := sameconfig_eq (a0 := a0) (a1 := a1) (a4 := a4) (z := z) (l2 := l2) (l3 := l3) (l6 := l6) (by omega) (by omega) (by omega) K (by omega) (by omega) (by omega)
  have e4 : pinfoldlaw0_KeptLeases.f K ls ls = some true := by
    have := samleases_l0 ls (by omega) ls.length K 0 (by omega) (by omega)
    rw [show ((0 : Nat) : Int) = 0 from rfl] at this
    unfold pinfoldlaw0_KeptLeases.f pinfoldlaw0_SameLeases.f
    rw [if_pos (by omega), if_pos rfl]
    exact this
  unfold pinfoldlaw14_Picks.f
  rw [copy_eq (by omega) (by omega) (by omega), Option.bind_some]
  unfold pinfoldlaw0_LendLeases.f
  rw [if_pos (by omega), Option.bind_some]
  dsimp only
  unfold pick_Pick.f
  rw [if_pos hp, e1]
  simp only [Option.bind_some, if_true, pinfoldlaw0_Num.f]
  rw [e3, Option.bind_some, if_pos rfl, e4, Option.bind_some, if_pos rfl, awake_eq]
  rfl

end Go.Proofs.YtmoobaehoccihaaDoor.Pure
