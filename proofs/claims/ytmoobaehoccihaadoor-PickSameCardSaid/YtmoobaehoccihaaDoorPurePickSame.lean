/- PickSame: what one has open is picked whatever is wanted; what is wanted, if it is open and one has nothing. No condition. -/
import Derived.Test.YtmoobaehoccihaaDoorPEx27
namespace Go.Proofs.YtmoobaehoccihaaDoor.Pure
open Go.RowKit Go.Proofs.YtmoobaehoccihaaDoor.PE Go.Proofs.YtmoobaehoccihaaDoorW.PrintWords Go.Proofs.YtmoobaehoccihaaDoorW.PrintLast
set_option linter.unusedSimpArgs false
set_option linter.unusedVariables false

/-- the bounds of an int. -/
theorem int_bd {a : Int} (h : (Lit.int .i64 a).wf = true) : -9223372036854775808 ≤ a ∧ a ≤ 9223372036854775807 := by
  simp only [Lit.wf, IntKind.min, IntKind.max, IntKind.signed, IntKind.bits, Bool.and_eq_true, decide_eq_true_eq, if_true] at h
  omega
theorem u64_eq (a : Int) : IntKind.u64.wrap a = a % 18446744073709551616 := by simp [IntKind.wrap, IntKind.bits, IntKind.signed]
theorem w64 {a : Int} (h : -9223372036854775808 ≤ a ∧ a ≤ 9223372036854775807) : wrap64 a = a := by unfold wrap64; omega
/-- the low bits of any int. -/
theorem and_mask (a : Int) (i : Nat) (hi : i ≤ 62) : Go.bits .and .i64 a ((2 ^ i - 1 : Nat) : Int) = a % ((2 ^ i : Nat) : Int) := by
  have hp : 0 < 2 ^ i := Nat.two_pow_pos i
  have hl : 2 ^ i ≤ 2 ^ 62 := Nat.pow_le_pow_right (by decide) hi
  show IntKind.wrap .i64 (((BitVec.ofInt 64 a &&& BitVec.ofInt 64 ((2 ^ i - 1 : Nat) : Int)).toNat : Nat) : Int) = _
  have e : (((BitVec.ofInt 64 a &&& BitVec.ofInt 64 ((2 ^ i - 1 : Nat) : Int)).toNat : Nat) : Int) = a % ((2 ^ i : Nat) : Int) := by
    rw [BitVec.toNat_and, BitVec.ofInt_natCast, BitVec.toNat_ofNat, Nat.mod_eq_of_lt (show 2 ^ i - 1 < 2 ^ 64 by omega), Nat.and_two_pow_sub_one_eq_mod, BitVec.toNat_ofInt]
    rw [Int.natCast_emod, Int.toNat_of_nonneg (Int.emod_nonneg _ (by decide))]
    exact Int.emod_emod_of_dvd a (by
      rw [Int.natCast_dvd_natCast]
      exact Nat.pow_dvd_pow 2 (by omega))
  rw [e, IntKind.wrap_i64]
  have h0 := Int.emod_nonneg a (show ((2 ^ i : Nat) : Int) ≠ 0 by omega)
  have h1 := Int.emod_lt_of_pos a (show 0 < ((2 ^ i : Nat) : Int) by omega)
  omega
theorem and_1023 (a : Int) : Go.bits .and .i64 a 1023 = a % 1024 := and_mask a 10 (by decide)
theorem and_63 (a : Int) : Go.bits .and .i64 a 63 = a % 64 := and_mask a 6 (by decide)
theorem and_255 (a : Int) : Go.bits .and .i64 a 255 = a % 256 := and_mask a 8 (by decide)
theorem and_65535 (a : Int) : Go.bits .and .i64 a 65535 = a % 65536 := and_mask a 16 (by decide)
theorem and_u32 (a : Int) : Go.bits .and .i64 a 4294967295 = a % 4294967296 := and_mask a 32 (by decide)
theorem wraps_i64 (n : Int) (h0 : 0 ≤ n) (h1 : n < 2 ^ 63) : IntKind.i64.wrap n = n := by rw [IntKind.wrap_i64]; omega
theorem or_byte (x b : Int) (hx : 0 ≤ x ∧ x < 281474976710656) (hb : 0 ≤ b ∧ b < 256) : Go.bits .or .i64 (wrap64 (x * 256)) b = x * 256 + b := by
  rw [w64 (by omega)]
  exact bits_join .i64 63 (by decide) wraps_i64 8 (x * 256) b (by omega) (by omega) (by omega) hb.1 (by omega) (by omega)
theorem fit_of {l2 : List Int} {l3 : List S72} {z : ByteArray} {l6 : List S74} (h2 : l2.length * Tryd.prog.bytesOf 3 ≤ 140737488351232) (h3 : l3.length * Tryd.prog.bytesOf 72 ≤ 140737488351232) (hz : z.size ≤ 140737488351232) (h6 : l6.length * Tryd.prog.bytesOf 74 ≤ 140737488351232) (hx : ∀ x ∈ l6, x.f0.size ≤ 140737488351232 ∧ x.f4.size ≤ 140737488351232) : confFit l2 l3 z l6 := by
  rw [show Tryd.prog.bytesOf 3 = 8 by kernel_rfl] at h2
  rw [show Tryd.prog.bytesOf 72 = 24 by kernel_rfl] at h3
  rw [show Tryd.prog.bytesOf 74 = 80 by kernel_rfl] at h6
  exact ⟨by omega, by omega, hz, by omega, hx⟩
abbrev gEx : List Int := [12]
abbrev gRes : List S72 := [⟨(⟨#[118, 105, 112]⟩ : ByteArray), 13⟩]
abbrev gZone : ByteArray := ⟨#[108, 97, 110]⟩
abbrev gRR : List S74 := [⟨(⟨#[119, 119, 119, 46, 108, 97, 110]⟩ : ByteArray), 1, 5, 7, (⟨#[]⟩ : ByteArray), (⟨#[]⟩ : ByteArray), 0⟩]
theorem given_eq : pinfoldlaw14_given.f = some (10, 13, gEx, gRes, 100, gZone, gRR) := rfl
theorem given_fit : confFit gEx gRes gZone gRR := by unfold confFit; decide
theorem awake_eq : pinfoldlaw14_awake.f = some true := by kernel_rfl
section
variable {a0 a1 : Int} {l2 : List Int} {l3 : List S72} {a4 : Int} {z : ByteArray} {l6 : List S74} {ls : List S42} {now : Int} {c : ByteArray}
theorem open_in {h : Int} (e : openB a0 a1 l2 l3 a4 z l6 ls now c h = true) : a0 ≤ h ∧ h ≤ a1 ∧ confB a0 a1 l2 l3 a4 z l6 = true := by
  unfold openB lentB usableB at e
  simp only [Bool.and_eq_true, decide_eq_true_eq] at e
  exact ⟨e.1.1.2.2.1, e.1.1.2.2.2, e.1.1.2.1⟩
theorem mem_hosts (a b h : Int) : h ∈ hostsL a b ↔ a ≤ h ∧ h ≤ b := by
  unfold hostsL
  rw [List.mem_map]
  constructor
  · rintro ⟨i, hi, rfl⟩
    rw [List.mem_range] at hi
    omega
  · rintro ⟨h1, h2⟩
    exact ⟨(h - a).toNat, List.mem_range.2 (by omega), by omega⟩
theorem mem_open {h : Int} : h ∈ (hostsL a0 a1).filter (openB a0 a1 l2 l3 a4 z l6 ls now c) ↔ openB a0 a1 l2 l3 a4 z l6 ls now c h = true := by
  rw [List.mem_filter]
  constructor
  · exact fun e => e.2
  · intro e
    have := open_in e
    exact ⟨(mem_hosts a0 a1 h).2 ⟨this.1, this.2.1⟩, e⟩
theorem eld_mem (ls : List S42) : ∀ (L : List Int) (best til : Int), eldGo ls best til L = best ∨ eldGo ls best til L ∈ L
  | [], best, til => .inl rfl
  | h :: r, best, til => by
    unfold eldGo
    split
    · rcases eld_mem ls r h (gotL (findL ls h)).f3 with e | e
      · rw [e]
        exact .inr List.mem_cons_self
      · exact .inr (List.mem_cons_of_mem _ e)
    · rcases eld_mem ls r best til with e | e
      · exact .inl e
      · exact .inr (List.mem_cons_of_mem _ e)
theorem eld_some (ls : List S42) (L : List Int) (til : Int) (hl : L ≠ []) : eldGo ls 0 til L ∈ L := by
  cases L with
  | nil => exact absurd rfl hl
  | cons h r =>
    unfold eldGo
    rw [if_pos (.inl rfl)]
    rcases eld_mem ls r h (gotL (findL ls h)).f3 with e | e
    · rw [e]
      exact List.mem_cons_self
    · exact List.mem_cons_of_mem _ e
theorem first_mem (q : Option S42 → Bool) (ls : List S42) (L : List Int) : firstH q ls L = 0 ∨ firstH q ls L ∈ L := by
  unfold firstH
  cases e : L.find? (fun h => q (findL ls h)) with
  | none => exact .inl rfl
  | some h => exact .inr (List.mem_of_find?_eq_some e)
/-- what is picked where one has nothing, and what is wanted is not open. -/
def restV (a0 a1 : Int) (l2 : List Int) (l3 : List S72) (a4 : Int) (z : ByteArray) (l6 : List S74) (ls : List S42) (now : Int) (client : ByteArray) : Int × Int := match [firstH (hadQ client now) ls ((hostsL a0 a1).filter (openB a0 a1 l2 l3 a4 z l6 ls now client)), firstH Option.isNone ls ((hostsL a0 a1).filter (openB a0 a1 l2 l3 a4 z l6 ls now client)), eldGo ls 0 0 ((hostsL a0 a1).filter (openB a0 a1 l2 l3 a4 z l6 ls now client))].find? (fun h => decide (h > 0)) with
    | some h => (h, 0)
    | none => (0, 1401)
theorem rest_ok (hc : 2 ≤ a0) : (∃ h, restV a0 a1 l2 l3 a4 z l6 ls now c = (h, 0) ∧ openB a0 a1 l2 l3 a4 z l6 ls now c h = true) ∨ (restV a0 a1 l2 l3 a4 z l6 ls now c = (0, 1401) ∧ ∀ h, openB a0 a1 l2 l3 a4 z l6 ls now c h = false) := by
  have hmo := fun h => @mem_open a0 a1 l2 l3 a4 z l6 ls now c h
  have hin := fun h (e : openB a0 a1 l2 l3 a4 z l6 ls now c h = true) => open_in e
  unfold restV
  generalize (hostsL a0 a1).filter (openB a0 a1 l2 l3 a4 z l6 ls now c) = O at hmo
  by_cases hO : O = []
  · right
    subst hO
    refine ⟨rfl, fun h => ?_⟩
    cases e : openB a0 a1 l2 l3 a4 z l6 ls now c h with
    | false => rfl
    | true => exact absurd ((hmo h).2 e) (by simp)
  · left
    have he := eld_some ls O 0 hO
    have hf1 := first_mem (hadQ c now) ls O
    have hf2 := first_mem Option.isNone ls O
    have hpos : ∀ h ∈ O, h > 0 := fun h hh => by have := hin h ((hmo h).1 hh); omega
    generalize firstH (hadQ c now) ls O = x at hf1
    generalize firstH Option.isNone ls O = y at hf2
    generalize eldGo ls 0 0 O = w at he
    cases hfd : [x, y, w].find? (fun h => decide (h > 0)) with
    | none =>
      have := List.find?_eq_none.1 hfd w (by simp)
      exact absurd (hpos w he) (by simpa using this)
    | some h =>
      have hp : h > 0 := by simpa using List.find?_some hfd
      have hm := List.mem_of_find?_eq_some hfd
      simp only [List.mem_cons, List.not_mem_nil, or_false] at hm
      refine ⟨h, rfl, (hmo h).1 ?_⟩
      rcases hm with e | e | e
      · subst e
        rcases hf1 with e | e
        · omega
        · exact e
      · subst e
        rcases hf2 with e | e
        · omega
        · exact e
      · subst e
        exact he
theorem pick_parts (wanted : Int) : pickV a0 a1 l2 l3 a4 z l6 ls now c wanted = if openB a0 a1 l2 l3 a4 z l6 ls now c (gotL (ofL ls c now)).f0 = true then ((gotL (ofL ls c now)).f0, 0) else if openB a0 a1 l2 l3 a4 z l6 ls now c (foundH (reservR a0 a1 l2 l3 a4 z l6 c)) = true then (foundH (reservR a0 a1 l2 l3 a4 z l6 c), 0) else if openB a0 a1 l2 l3 a4 z l6 ls now c wanted = true then (wanted, 0) else restV a0 a1 l2 l3 a4 z l6 ls now c := by
  unfold pickV restV
  generalize (gotL (ofL ls c now)).f0 = x
  generalize foundH (reservR a0 a1 l2 l3 a4 z l6 c) = y
  rw [List.find?_cons]
  cases openB a0 a1 l2 l3 a4 z l6 ls now c x with
  | true => rfl
  | false =>
    rw [if_neg (by decide), List.find?_cons]
    cases openB a0 a1 l2 l3 a4 z l6 ls now c y with
    | true => rfl
    | false =>
      rw [if_neg (by decide), List.find?_cons]
      cases openB a0 a1 l2 l3 a4 z l6 ls now c wanted with
      | true => rfl
      | false => rfl
theorem may_parts (h : pickMayB a0 a1 l2 l3 a4 z l6 ls now c = true) : 2 ≤ a0 ∧ a1 ≤ 254 ∧ confB a0 a1 l2 l3 a4 z l6 = true ∧ tableB ls = true ∧ (0 ≤ now ∧ now ≤ 1099511627776) ∧ clientB c = true := by
  unfold pickMayB at h
  simp only [Bool.and_eq_true, decide_eq_true_eq] at h
  have hb := conf_bounds h.1
  exact ⟨hb.1, hb.2.2.1, h.1, h.2.1, h.2.2.1, h.2.2.2⟩
end
/-- what one has open is picked whatever is wanted; what is wanted, if it is open and one has nothing. -/
theorem PickSame : pinfoldlaw14_PickSame.Pure := by
  intro a0 a1 l2 l3 a4 z l6 ls now c a b w0 w1 h2 h3 w4 hz h6 hl w8 hc w9 w10
  have hcf : confFit l2 l3 z l6 := fit_of h2.1 h3.1 hz h6.1 (fun x hx => ⟨(h6.2 x hx).1, (h6.2 x hx).2.2.2.2.1⟩)
  have htf : tabFit ls := by
    have h := hl.1
    rw [show Tryd.prog.bytesOf 42 = 64 by kernel_rfl] at h
    exact ⟨by omega, fun x hx => (hl.2 x hx).2.2.2.2.1⟩
  have hp : pickFit l2 l3 z l6 ls := ⟨hcf, htf⟩
  clear w0 w1 h2 h3 w4 hz h6 hl w8 hc w9 w10
  unfold pinfoldlaw14_PickSame.f
  rw [awake_eq, Option.bind_some, if_pos rfl]
  have hP : ∀ w, pick_Pick.f a0 a1 l2 l3 a4 z l6 ls now c w = some (if pickMayB a0 a1 l2 l3 a4 z l6 ls now c = true then pickV a0 a1 l2 l3 a4 z l6 ls now c w else (0, 1400)) := fun w => by unfold pick_Pick.f; rw [if_pos hp]
  simp only [hP, Option.bind_some, pinfoldlaw0_Num.f]
  cases hM : pickMayB a0 a1 l2 l3 a4 z l6 ls now c with
  | false => rfl
  | true =>
    obtain ⟨hb, _⟩ := may_parts hM
    simp only [if_true]
    have hr := @rest_ok a0 a1 l2 l3 a4 z l6 ls now c hb
    simp only [pick_parts]
    generalize (gotL (ofL ls c now)).f0 = x
    generalize foundH (reservR a0 a1 l2 l3 a4 z l6 c) = y
    generalize restV a0 a1 l2 l3 a4 z l6 ls now c = R at hr
    generalize openB a0 a1 l2 l3 a4 z l6 ls now c = q at hr
    by_cases qx : q x = true
    · simp [qx]
    · by_cases qy : q y = true
      · simp [qx, qy]
      · rcases hr with ⟨h, rfl, hh⟩ | ⟨rfl, hn⟩
        · by_cases qa : q a = true
          · by_cases qb : q b = true
            · simp [qx, qy, qa, qb]
            · simp [qx, qy, qa, qb]
          · by_cases qb : q b = true
            · simp [qx, qy, qa, qb, hh]
            · simp [qx, qy, qa, qb, hh]
        · simp [hn]

end Go.Proofs.YtmoobaehoccihaaDoor.Pure
