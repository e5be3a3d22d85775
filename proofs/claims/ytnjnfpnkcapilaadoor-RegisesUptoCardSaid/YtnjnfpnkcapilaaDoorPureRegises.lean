/- Regises: any configuration, leases, time, client, name: as the document says. No condition. -/
import Derived.Test.YtnjnfpnkcapilaaDoorPRegisesx15
namespace Go.Proofs.YtnjnfpnkcapilaaDoor.Pure
open Go.RowKit Go.Proofs.YtnjnfpnkcapilaaDoor.PRegises Go.Proofs.YtnjnfpnkcapilaaDoorW.PrintWords Go.Proofs.YtnjnfpnkcapilaaDoorW.PrintLast
set_option linter.unusedSimpArgs false
set_option linter.unusedVariables false

/-- the bounds of an int. -/
theorem int_bd {a : Int} (h : (Lit.int .i64 a).wf = true) : -9223372036854775808 ≤ a ∧ a ≤ 9223372036854775807 := by
  simp only [Lit.wf, IntKind.min, IntKind.max, IntKind.signed, IntKind.bits, Bool.and_eq_true, decide_eq_true_eq, if_true] at h
  omega
theorem u64_eq (a : Int) : IntKind.u64.wrap a = a % 18446744073709551616 := by simp [IntKind.wrap, IntKind.bits, IntKind.signed]
theorem w64 {a : Int} (h : -9223372036854775808 ≤ a ∧ a ≤ 9223372036854775807) : wrap64 a = a := by unfold wrap64; omega
/-- the low bits of any int. -/
theorem and_mask (a : Int) (i : Nat) (hi : i ≤ 62) : Go.bits .and .i64 a ((2 ^ i - 1 : Nat) : Int) = a % ((2 ^ i : Nat) : Int) := by
  have hp : 0 < 2 ^ i := Nat.two_pow_pos i
  have hl : 2 ^ i ≤ 2 ^ 62 := Nat.pow_le_pow_right (by decide) hi
  show IntKind.wrap .i64 (((BitVec.ofInt 64 a &&& BitVec.ofInt 64 ((2 ^ i - 1 : Nat) : Int)).toNat : Nat) : Int) = _
  have e : (((BitVec.ofInt 64 a &&& BitVec.ofInt 64 ((2 ^ i - 1 : Nat) : Int)).toNat : Nat) : Int) = a % ((2 ^ i : Nat) : Int) := by
    rw [BitVec.toNat_and, BitVec.ofInt_natCast, BitVec.toNat_ofNat, Nat.mod_eq_of_lt (show 2 ^ i - 1 < 2 ^ 64 by omega), Nat.and_two_pow_sub_one_eq_mod, BitVec.toNat_ofInt]
    rw [Int.natCast_emod, Int.toNat_of_nonneg (Int.emod_nonneg _ (by decide))]
    exact Int.emod_emod_of_dvd a (by
      rw [Int.natCast_dvd_natCast]
      exact Nat.pow_dvd_pow 2 (by omega))
  rw [e, IntKind.wrap_i64]
  have h0 := Int.emod_nonneg a (show ((2 ^ i : Nat) : Int) ≠ 0 by omega)
  have h1 := Int.emod_lt_of_pos a (show 0 < ((2 ^ i : Nat) : Int) by omega)
  omega
theorem and_1023 (a : Int) : Go.bits .and .i64 a 1023 = a % 1024 := and_mask a 10 (by decide)
theorem and_63 (a : Int) : Go.bits .and .i64 a 63 = a % 64 := and_mask a 6 (by decide)
theorem and_255 (a : Int) : Go.bits .and .i64 a 255 = a % 256 := and_mask a 8 (by decide)
theorem and_65535 (a : Int) : Go.bits .and .i64 a 65535 = a % 65536 := and_mask a 16 (by decide)
theorem and_u32 (a : Int) : Go.bits .and .i64 a 4294967295 = a % 4294967296 := and_mask a 32 (by decide)
theorem wraps_i64 (n : Int) (h0 : 0 ≤ n) (h1 : n < 2 ^ 63) : IntKind.i64.wrap n = n := by rw [IntKind.wrap_i64]; omega
theorem or_byte (x b : Int) (hx : 0 ≤ x ∧ x < 281474976710656) (hb : 0 ≤ b ∧ b < 256) : Go.bits .or .i64 (wrap64 (x * 256)) b = x * 256 + b := by
  rw [w64 (by omega)]
  exact bits_join .i64 63 (by decide) wraps_i64 8 (x * 256) b (by omega) (by omega) (by omega) hb.1 (by omega) (by omega)
theorem fit_of {l2 : List Int} {l3 : List S47} {z : ByteArray} {l6 : List S49} (h2 : l2.length * Tryd.prog.bytesOf 3 ≤ 140737488351232) (h3 : l3.length * Tryd.prog.bytesOf 47 ≤ 140737488351232) (hz : z.size ≤ 140737488351232) (h6 : l6.length * Tryd.prog.bytesOf 49 ≤ 140737488351232) (hx : ∀ x ∈ l6, x.f0.size ≤ 140737488351232 ∧ x.f4.size ≤ 140737488351232) : confFit l2 l3 z l6 := by
  rw [show Tryd.prog.bytesOf 3 = 8 by kernel_rfl] at h2
  rw [show Tryd.prog.bytesOf 47 = 24 by kernel_rfl] at h3
  rw [show Tryd.prog.bytesOf 49 = 80 by kernel_rfl] at h6
  exact ⟨by omega, by omega, hz, by omega, hx⟩
theorem awake_eq : pinfoldlaw16_awake.f = some true := by kernel_rfl
theorem tab_of {l : List S62} (h : l.length * Tryd.prog.bytesOf 62 ≤ 140737488351232) (hx : ∀ x ∈ l, x.f4.size ≤ 140737488351232) : tabFit l := by
  rw [show Tryd.prog.bytesOf 62 = 64 by kernel_rfl] at h
  exact ⟨by omega, hx⟩
theorem glue_len_ (p : List Int) : ∀ L : List (List Int), L ≠ [] → (glue p L).length = L.length
  | [], h => absurd rfl h
  | _ :: _, _ => rfl
theorem cutL_app_len : ∀ p X : List Int, (cutL (p ++ 46 :: X)).length = (cutL p).length + (cutL X).length
  | [], X => by
    rw [List.nil_append, cutL_point, List.length_cons]
    have : (cutL []).length = 1 := rfl
    omega
  | b :: p, X => by
    have ih := cutL_app_len p X
    rw [List.cons_append]
    by_cases hb : b = 46
    · subst hb
      rw [cutL_point, cutL_point, List.length_cons, List.length_cons]
      omega
    · rw [cutL_other b _ hb, cutL_other b _ hb, glue_len_ _ _ (cutL_ne _), glue_len_ _ _ (cutL_ne _)]
      exact ih
section
variable {a0 a1 : Int} {l2 : List Int} {l3 : List S47} {a4 : Int} {z : ByteArray} {l6 : List S49}
theorem conf_zone (h : confB a0 a1 l2 l3 a4 z l6 = true) : nameB (bytesOf z) = true ∧ z.size ≠ 0 := by
  unfold confB at h
  simp only [Bool.and_eq_true, decide_eq_true_eq] at h
  exact ⟨h.1.2.2.1, fun e => h.1.2.1 ((toList_nil z).2 e)⟩
theorem bytes_dot (h z : ByteArray) : bytesOf (h ++ (⟨#[46]⟩ : ByteArray) ++ z) = bytesOf h ++ 46 :: bytesOf z := by
  rw [bytesOf_append, bytesOf_append, List.append_assoc]
  rfl
/-- a full name is none, or a name of its own. -/
theorem full_cases (h : ByteArray) : fullB a0 a1 l2 l3 a4 z l6 h = ⟨#[]⟩ ∨ (nameB (bytesOf (fullB a0 a1 l2 l3 a4 z l6 h)) = true ∧ (labelsS (fullB a0 a1 l2 l3 a4 z l6 h)).length ≠ 1 ∧ (fullB a0 a1 l2 l3 a4 z l6 h).toList ≠ z.toList ∧ underB (bytesOf (fullB a0 a1 l2 l3 a4 z l6 h)) (bytesOf z) = true ∧ confB a0 a1 l2 l3 a4 z l6 = true) := by
  by_cases q : (labelsS h).length = 1
  · cases hb : nameB (bytesOf (h ++ (⟨#[46]⟩ : ByteArray) ++ z)) && confB a0 a1 l2 l3 a4 z l6 with
    | false =>
      left
      unfold fullB
      rw [if_pos q, hb]
      rfl
    | true =>
      right
      have e : fullB a0 a1 l2 l3 a4 z l6 h = h ++ (⟨#[46]⟩ : ByteArray) ++ z := by
        unfold fullB
        rw [if_pos q, hb]
        rfl
      rw [e]
      rw [Bool.and_eq_true] at hb
      obtain ⟨hn, hc⟩ := hb
      obtain ⟨zn, zs⟩ := conf_zone hc
      have c1 : 1 ≤ (cutL (bytesOf h)).length := List.length_pos_iff.2 (cutL_ne _)
      have c2 : 1 ≤ (cutL (bytesOf z)).length := List.length_pos_iff.2 (cutL_ne _)
      refine ⟨hn, ?_, ?_, ?_, hc⟩
      · rw [labels_len, bytes_dot, cutL_app_len]
        split <;> omega
      · intro e2
        have e3 := (toList_iff _ _).1 e2
        have e4 := congrArg List.length e3
        rw [bytes_dot, List.length_append, List.length_cons] at e4
        omega
      · unfold underB
        rw [hn, zn, bytes_dot, Bool.true_and, Bool.true_and, decide_eq_true_eq]
        exact .inr (.inr ⟨bytesOf h, rfl⟩)
  · by_cases q2 : h.toList = z.toList ∨ underB (bytesOf h) (bytesOf z) = false
    · left
      unfold fullB
      rw [if_neg q, if_pos q2]
    · cases hb : nameB (bytesOf h) && confB a0 a1 l2 l3 a4 z l6 with
      | false =>
        left
        unfold fullB
        rw [if_neg q, if_neg q2, hb]
        rfl
      | true =>
        right
        have e : fullB a0 a1 l2 l3 a4 z l6 h = h := by
          unfold fullB
          rw [if_neg q, if_neg q2, hb]
          rfl
        rw [e]
        rw [Bool.and_eq_true] at hb
        refine ⟨hb.1, q, fun e2 => q2 (.inl e2), ?_, hb.2⟩
        cases e3 : underB (bytesOf h) (bytesOf z) with
        | false => exact absurd (.inr e3) q2
        | true => rfl
theorem full_none : fullB a0 a1 l2 l3 a4 z l6 ⟨#[]⟩ = ⟨#[]⟩ := by
  have q : ¬ (labelsS ⟨#[]⟩).length = 1 := by decide
  unfold fullB
  rw [if_neg q]
  repeat' split
  all_goals rfl
/-- a full name's full name is itself. -/
theorem full_full (h : ByteArray) : fullB a0 a1 l2 l3 a4 z l6 (fullB a0 a1 l2 l3 a4 z l6 h) = fullB a0 a1 l2 l3 a4 z l6 h := by
  rcases full_cases (a0 := a0) (a1 := a1) (l2 := l2) (l3 := l3) (a4 := a4) (z := z) (l6 := l6) h with e | ⟨h1, h2, h3, h4, h5⟩
  · rw [e, full_none]
  · generalize fullB a0 a1 l2 l3 a4 z l6 h = x at *
    unfold fullB
    rw [if_neg h2, if_neg (by rintro (e | e); exact h3 e; rw [h4] at e; cases e), h1, h5]
    rfl
theorem full_short (h : ByteArray) : (fullB a0 a1 l2 l3 a4 z l6 h).size ≤ 72 := by
  rcases full_cases (a0 := a0) (a1 := a1) (l2 := l2) (l3 := l3) (a4 := a4) (z := z) (l6 := l6) h with e | ⟨h1, _⟩
  · rw [e]
    exact Nat.zero_le _
  · have := name_short _ h1
    rw [bytesOf_length] at this
    exact this
theorem full_name (h : ByteArray) : nameB (bytesOf (fullB a0 a1 l2 l3 a4 z l6 h)) = true := by
  rcases full_cases (a0 := a0) (a1 := a1) (l2 := l2) (l3 := l3) (a4 := a4) (z := z) (l6 := l6) h with e | ⟨h1, _⟩
  · rw [e]
    rfl
  · exact h1
end
theorem copy_eq {a0 a1 : Int} {l2 : List Int} {l3 : List S47} {a4 : Int} {z : ByteArray} {l6 : List S49} (h2 : l2.length < 17592186044416) (h3 : l3.length < 5864062014805) (h6 : l6.length < 1759218604441) : pinfoldlaw0_CopyConfig.f a0 a1 l2 l3 a4 z l6 = some (a0, a1, l2, l3, a4, z, l6) := by
  unfold pinfoldlaw0_CopyConfig.f
  simp only [Option.bind_some, List.length_nil, Nat.zero_add, List.nil_append]
  rw [if_pos h2, if_pos h3, if_pos h6]
theorem sameints_l0 (l : List Int) (hl : l.length ≤ 140737488351232) : ∀ (d k i : Nat), i + d = l.length → d + 1 ≤ k → pinfoldlaw0_SameInts.l0 k l l (i : Int) = some true
  | 0, k, i, hi, hk => by
    obtain ⟨k, rfl⟩ : ∃ j, k = j + 1 := ⟨k - 1, by omega⟩
    rw [pinfoldlaw0_SameInts.l0, if_neg (by omega)]
  | d + 1, k, i, hi, hk => by
    obtain ⟨k, rfl⟩ : ∃ j, k = j + 1 := ⟨k - 1, by omega⟩
    rw [pinfoldlaw0_SameInts.l0, if_pos (by omega), if_pos (by omega), if_pos (by omega), if_pos rfl, wrap_succ i l.length (by omega) hl]
    exact sameints_l0 l hl d k (i + 1) (by omega) (by omega)
theorem samereserves_l0 (l : List S47) (hl : l.length ≤ 140737488351232) : ∀ (d k i : Nat), i + d = l.length → d + 1 ≤ k → pinfoldlaw0_SameReserves.l0 k l l (i : Int) = some true
  | 0, k, i, hi, hk => by
    obtain ⟨k, rfl⟩ : ∃ j, k = j + 1 := ⟨k - 1, by omega⟩
    rw [pinfoldlaw0_SameReserves.l0, if_neg (by omega)]
  | d + 1, k, i, hi, hk => by
    obtain ⟨k, rfl⟩ : ∃ j, k = j + 1 := ⟨k - 1, by omega⟩
    rw [pinfoldlaw0_SameReserves.l0, if_pos (by omega), if_pos (by omega), if_pos (by omega), if_neg (by simp), wrap_succ i l.length (by omega) hl]
    exact samereserves_l0 l hl d k (i + 1) (by omega) (by omega)
theorem samerrs_l0 (l : List S49) (hl : l.length ≤ 140737488351232) : ∀ (d k i : Nat), i + d = l.length → d + 1 ≤ k → pinfoldlaw0_SameRRs.l0 k l l (i : Int) = some true
  | 0, k, i, hi, hk => by
    obtain ⟨k, rfl⟩ : ∃ j, k = j + 1 := ⟨k - 1, by omega⟩
    rw [pinfoldlaw0_SameRRs.l0, if_neg (by omega)]
  | d + 1, k, i, hi, hk => by
    obtain ⟨k, rfl⟩ : ∃ j, k = j + 1 := ⟨k - 1, by omega⟩
    rw [pinfoldlaw0_SameRRs.l0, if_pos (by omega), if_pos (by omega), if_pos (by omega), if_neg (by simp), wrap_succ i l.length (by omega) hl]
    exact samerrs_l0 l hl d k (i + 1) (by omega) (by omega)
theorem sameconfig_eq {a0 a1 : Int} {l2 : List Int} {l3 : List S47} {a4 : Int} {z : ByteArray} {l6 : List S49} (h2 : l2.length ≤ 140737488351232) (h3 : l3.length ≤ 140737488351232) (h6 : l6.length ≤ 140737488351232) (k : Nat) (k2 : l2.length + 1 ≤ k) (k3 : l3.length + 1 ≤ k) (k6 : l6.length + 1 ≤ k) : pinfoldlaw0_SameConfig.f k a0 a1 l2 l3 a4 z l6 a0 a1 l2 l3 a4 z l6 = some true := by
  have e2 := sameints_l0 l2 h2 l2.length k 0 (by omega) k2
  have e3 := samereserves_l0 l3 h3 l3.length k 0 (by omega) k3
  have e6 := samerrs_l0 l6 h6 l6.length k 0 (by omega) k6
  rw [show ((0 : Nat) : Int) = 0 from rfl] at e2 e3 e6
  unfold pinfoldlaw0_SameConfig.f pinfoldlaw0_SameInts.f pinfoldlaw0_SameReserves.f pinfoldlaw0_SameRRs.f
  simp only [if_true, e2, e3, e6, Option.bind_some]
theorem wrap_succ (i n : Nat) (h : i < n) (hn : n ≤ 140737488351232) : wrap64 ((i : Int) + 1) = ((i + 1 : Nat) : Int) := by
  rw [w64 (by omega)]
  omega
theorem samleases_l0 (l : List S62) (hl : l.length ≤ 140737488351232) : ∀ (d k i : Nat), i + d = l.length → d + 1 ≤ k → pinfoldlaw0_SameLeases.l0 k l l (i : Int) = some true
  | 0, k, i, hi, hk => by
    obtain ⟨k, rfl⟩ : ∃ j, k = j + 1 := ⟨k - 1, by omega⟩
    rw [pinfoldlaw0_SameLeases.l0, if_neg (by omega)]
  | d + 1, k, i, hi, hk => by
    obtain ⟨k, rfl⟩ : ∃ j, k = j + 1 := ⟨k - 1, by omega⟩
    rw [pinfoldlaw0_SameLeases.l0, if_pos (by omega), if_pos (by omega), if_pos (by omega), if_neg (by simp), wrap_succ i l.length (by omega) hl]
    exact samleases_l0 l hl d k (i + 1) (by omega) (by omega)
/-- any configuration, leases, time, client, name: as the document says. -/
theorem Regises : pinfoldlaw16_Regises.Pure := by
  intro a0 a1 l2 l3 a4 z l6 ls now c n w0 w1 h2 h3 w4 hz h6 hl w8 hc hn
  have hx : ∀ x ∈ l6, x.f0.size ≤ 1048576 ∧ x.f4.size ≤ 1048576 := fun x hx => ⟨(h6.2 x hx).1, (h6.2 x hx).2.2.2.2.1⟩
  have hy : ∀ x ∈ ls, x.f4.size ≤ 1048576 := fun x hx => (hl.2 x hx).2.2.2.2.1
  replace h2 := h2.1
  replace h3 := h3.1
  replace h6 := h6.1
  replace hl := hl.1
  have hf : confFit l2 l3 z l6 := ⟨by omega, by omega, by omega, by omega, fun x h => by have := hx x h; omega⟩
  have hr : confFitR l2 l3 z l6 := ⟨by omega, by omega, by omega, by omega, fun x h => by have := hx x h; omega⟩
  have ht : tabFit ls := ⟨by omega, fun x h => by have := hy x h; omega⟩
  clear w0 w1 w4 w8
  refine ⟨l2.length + l3.length + l6.length + ls.length + 6, ?_⟩
  have hfu : fullFit l2 l3 z l6 n := ⟨hf, by omega⟩
  have hfr : freeFit l2 l3 z l6 ls n := ⟨hfu, ht⟩
  have hk2 : ls.length + 2 < 2199023255552 := by omega
  have hru : fullFitR l2 l3 z l6 n := ⟨hr, hn, hz⟩
  have hrf : freeFitR l2 l3 z l6 ls n := ⟨hru, by omega, hy⟩
  have e3 := sameconfig_eq (a0 := a0) (a1 := a1) (a4 := a4) (z := z) (l2 := l2) (l3 := l3) (l6 := l6) (by omega) (by omega) (by omega) (l2.length + l3.length + l6.length + ls.length + 6) (by omega) (by omega) (by omega)
  have e4 := samleases_l0 ls (by omega) ls.length (l2.length + l3.length + l6.length + ls.length + 6) 0 (by omega) (by omega)
  rw [show ((0 : Nat) : Int) = 0 from rfl] at e4
  unfold pinfoldlaw16_Regises.f
  rw [copy_eq (by omega) (by omega) (by omega), Option.bind_some]
  unfold pinfoldlaw0_LendLeases.f
  rw [if_pos (by omega), Option.bind_some]
  dsimp only
  unfold regis_Free.f regis_Full_c.f pinfoldref11_FreeName.f pinfoldref11_Full_c.f pinfoldlaw0_KeptLeases.f pinfoldlaw0_SameLeases.f
  rw [if_pos hrf, if_pos hru, e3, e4, awake_eq, if_pos hfr, if_pos hfu, if_pos hk2]
  simp only [Option.bind_some, beq_self_eq_true, if_true, pinfoldlaw0_Num.f]

end Go.Proofs.YtnjnfpnkcapilaaDoor.Pure
