/- RegisOne: a full name is its own; who may have a name may have its full name. No condition. -/
import Derived.Test.YtnjnfpnkcapilaaDoorPRegisOnex7
namespace Go.Proofs.YtnjnfpnkcapilaaDoor.Pure
open Go.RowKit Go.Proofs.YtnjnfpnkcapilaaDoor.PRegisOne Go.Proofs.YtnjnfpnkcapilaaDoorW.PrintWords Go.Proofs.YtnjnfpnkcapilaaDoorW.PrintLast
set_option linter.unusedSimpArgs false
set_option linter.unusedVariables false

/-- the bounds of an int. -/
theorem int_bd {a : Int} (h : (Lit.int .i64 a).wf = true) : -9223372036854775808 ≤ a ∧ a ≤ 9223372036854775807 := by
  simp only [Lit.wf, IntKind.min, IntKind.max, IntKind.signed, IntKind.bits, Bool.and_eq_true, decide_eq_true_eq, if_true] at h
  omega
theorem u64_eq (a : Int) : IntKind.u64.wrap a = a % 18446744073709551616 := by simp [IntKind.wrap, IntKind.bits, IntKind.signed]
theorem w64 {a : Int} (h : -9223372036854775808 ≤ a ∧ a ≤ 9223372036854775807) : wrap64 a = a := by unfold wrap64; omega
/-- the low bits of any int. -/
theorem and_mask (a : Int) (i : Nat) (hi : i ≤ 62) : Go.bits .and .i64 a ((2 ^ i - 1 : Nat) : Int) = a % ((2 ^ i : Nat) : Int) := by
  have hp : 0 < 2 ^ i := Nat.two_pow_pos i
  have hl : 2 ^ i ≤ 2 ^ 62 := Nat.pow_le_pow_right (by decide) hi
  show IntKind.wrap .i64 (((BitVec.ofInt 64 a &&& BitVec.ofInt 64 ((2 ^ i - 1 : Nat) : Int)).toNat : Nat) : Int) = _
  have e : (((BitVec.ofInt 64 a &&& BitVec.ofInt 64 ((2 ^ i - 1 : Nat) : Int)).toNat : Nat) : Int) = a % ((2 ^ i : Nat) : Int) := by
    rw [BitVec.toNat_and, BitVec.ofInt_natCast, BitVec.toNat_ofNat, Nat.mod_eq_of_lt (show 2 ^ i - 1 < 2 ^ 64 by omega), Nat.and_two_pow_sub_one_eq_mod, BitVec.toNat_ofInt]
    rw [Int.natCast_emod, Int.toNat_of_nonneg (Int.emod_nonneg _ (by decide))]
    exact Int.emod_emod_of_dvd a (by
      rw [Int.natCast_dvd_natCast]
      exact Nat.pow_dvd_pow 2 (by omega))
  rw [e, IntKind.wrap_i64]
  have h0 := Int.emod_nonneg a (show ((2 ^ i : Nat) : Int) ≠ 0 by omega)
  have h1 := Int.emod_lt_of_pos a (show 0 < ((2 ^ i : Nat) : Int) by omega)
  omega
theorem and_1023 (a : Int) : Go.bits .and .i64 a 1023 = a % 1024 := and_mask a 10 (by decide)
theorem and_63 (a : Int) : Go.bits .and .i64 a 63 = a % 64 := and_mask a 6 (by decide)
theorem and_255 (a : Int) : Go.bits .and .i64 a 255 = a % 256 := and_mask a 8 (by decide)
theorem and_65535 (a : Int) : Go.bits .and .i64 a 65535 = a % 65536 := and_mask a 16 (by decide)
theorem and_u32 (a : Int) : Go.bits .and .i64 a 4294967295 = a % 4294967296 := and_mask a 32 (by decide)
theorem wraps_i64 (n : Int) (h0 : 0 ≤ n) (h1 : n < 2 ^ 63) : IntKind.i64.wrap n = n := by rw [IntKind.wrap_i64]; omega
theorem or_byte (x b : Int) (hx : 0 ≤ x ∧ x < 281474976710656) (hb : 0 ≤ b ∧ b < 256) : Go.bits .or .i64 (wrap64 (x * 256)) b = x * 256 + b := by
  rw [w64 (by omega)]
  exact bits_join .i64 63 (by decide) wraps_i64 8 (x * 256) b (by omega) (by omega) (by omega) hb.1 (by omega) (by omega)
theorem fit_of {l2 : List Int} {l3 : List S47} {z : ByteArray} {l6 : List S49} (h2 : l2.length * Tryd.prog.bytesOf 3 ≤ 140737488351232) (h3 : l3.length * Tryd.prog.bytesOf 47 ≤ 140737488351232) (hz : z.size ≤ 140737488351232) (h6 : l6.length * Tryd.prog.bytesOf 49 ≤ 140737488351232) (hx : ∀ x ∈ l6, x.f0.size ≤ 140737488351232 ∧ x.f4.size ≤ 140737488351232) : confFit l2 l3 z l6 := by
  rw [show Tryd.prog.bytesOf 3 = 8 by kernel_rfl] at h2
  rw [show Tryd.prog.bytesOf 47 = 24 by kernel_rfl] at h3
  rw [show Tryd.prog.bytesOf 49 = 80 by kernel_rfl] at h6
  exact ⟨by omega, by omega, hz, by omega, hx⟩
theorem awake_eq : pinfoldlaw16_awake.f = some true := by kernel_rfl
theorem tab_of {l : List S62} (h : l.length * Tryd.prog.bytesOf 62 ≤ 140737488351232) (hx : ∀ x ∈ l, x.f4.size ≤ 140737488351232) : tabFit l := by
  rw [show Tryd.prog.bytesOf 62 = 64 by kernel_rfl] at h
  exact ⟨by omega, hx⟩
theorem glue_len_ (p : List Int) : ∀ L : List (List Int), L ≠ [] → (glue p L).length = L.length
  | [], h => absurd rfl h
  | _ :: _, _ => rfl
theorem cutL_app_len : ∀ p X : List Int, (cutL (p ++ 46 :: X)).length = (cutL p).length + (cutL X).length
  | [], X => by
    rw [List.nil_append, cutL_point, List.length_cons]
    have : (cutL []).length = 1 := rfl
    omega
  | b :: p, X => by
    have ih := cutL_app_len p X
    rw [List.cons_append]
    by_cases hb : b = 46
    · subst hb
      rw [cutL_point, cutL_point, List.length_cons, List.length_cons]
      omega
    · rw [cutL_other b _ hb, cutL_other b _ hb, glue_len_ _ _ (cutL_ne _), glue_len_ _ _ (cutL_ne _)]
      exact ih
section
variable {a0 a1 : Int} {l2 : List Int} {l3 : List S47} {a4 : Int} {z : ByteArray} {l6 : List S49}
theorem conf_zone (h : confB a0 a1 l2 l3 a4 z l6 = true) : nameB (bytesOf z) = true ∧ z.size ≠ 0 := by
  unfold confB at h
  simp only [Bool.and_eq_true, decide_eq_true_eq] at h
  exact ⟨h.1.2.2.1, fun e => h.1.2.1 ((toList_nil z).2 e)⟩
theorem bytes_dot (h z : ByteArray) : bytesOf (h ++ (⟨#[46]⟩ : ByteArray) ++ z) = bytesOf h ++ 46 :: bytesOf z := by
  rw [bytesOf_append, bytesOf_append, List.append_assoc]
  rfl
/-- a full name is none, or a name of its own. -/
theorem full_cases (h : ByteArray) : fullB a0 a1 l2 l3 a4 z l6 h = ⟨#[]⟩ ∨ (nameB (bytesOf (fullB a0 a1 l2 l3 a4 z l6 h)) = true ∧ (labelsS (fullB a0 a1 l2 l3 a4 z l6 h)).length ≠ 1 ∧ (fullB a0 a1 l2 l3 a4 z l6 h).toList ≠ z.toList ∧ underB (bytesOf (fullB a0 a1 l2 l3 a4 z l6 h)) (bytesOf z) = true ∧ confB a0 a1 l2 l3 a4 z l6 = true) := by
  by_cases q : (labelsS h).length = 1
  · cases hb : nameB (bytesOf (h ++ (⟨#[46]⟩ : ByteArray) ++ z)) && confB a0 a1 l2 l3 a4 z l6 with
    | false =>
      left
      unfold fullB
      rw [if_pos q, hb]
      rfl
    | true =>
      right
      have e : fullB a0 a1 l2 l3 a4 z l6 h = h ++ (⟨#[46]⟩ : ByteArray) ++ z := by
        unfold fullB
        rw [if_pos q, hb]
        rfl
      rw [e]
      rw [Bool.and_eq_true] at hb
      obtain ⟨hn, hc⟩ := hb
      obtain ⟨zn, zs⟩ := conf_zone hc
      have c1 : 1 ≤ (cutL (bytesOf h)).length := List.length_pos_iff.2 (cutL_ne _)
      have c2 : 1 ≤ (cutL (bytesOf z)).length := List.length_pos_iff.2 (cutL_ne _)
      refine ⟨hn, ?_, ?_, ?_, hc⟩
      · rw [labels_len, bytes_dot, cutL_app_len]
        split <;> omega
      · intro e2
        have e3 := (toList_iff _ _).1 e2
        have e4 := congrArg List.length e3
        rw [bytes_dot, List.length_append, List.length_cons] at e4
        omega
      · unfold underB
        rw [hn, zn, bytes_dot, Bool.true_and, Bool.true_and, decide_eq_true_eq]
        exact .inr (.inr ⟨bytesOf h, rfl⟩)
  · by_cases q2 : h.toList = z.toList ∨ underB (bytesOf h) (bytesOf z) = false
    · left
      unfold fullB
      rw [if_neg q, if_pos q2]
    · cases hb : nameB (bytesOf h) && confB a0 a1 l2 l3 a4 z l6 with
      | false =>
        left
        unfold fullB
        rw [if_neg q, if_neg q2, hb]
        rfl
      | true =>
        right
        have e : fullB a0 a1 l2 l3 a4 z l6 h = h := by
          unfold fullB
          rw [if_neg q, if_neg q2, hb]
          rfl
        rw [e]
        rw [Bool.and_eq_true] at hb
        refine ⟨hb.1, q, fun e2 => q2 (.inl e2), ?_, hb.2⟩
        cases e3 : underB (bytesOf h) (bytesOf z) with
        | false => exact absurd (.inr e3) q2
        | true => rfl
theorem full_none : fullB a0 a1 l2 l3 a4 z l6 ⟨#[]⟩ = ⟨#[]⟩ := by
  have q : ¬ (labelsS ⟨#[]⟩).length = 1 := by decide
  unfold fullB
  rw [if_neg q]
  repeat' split
  all_goals rfl
/-- a full name's full name is itself. -/
theorem full_full (h : ByteArray) : fullB a0 a1 l2 l3 a4 z l6 (fullB a0 a1 l2 l3 a4 z l6 h) = fullB a0 a1 l2 l3 a4 z l6 h := by
  rcases full_cases (a0 := a0) (a1 := a1) (l2 := l2) (l3 := l3) (a4 := a4) (z := z) (l6 := l6) h with e | ⟨h1, h2, h3, h4, h5⟩
  · rw [e, full_none]
  · generalize fullB a0 a1 l2 l3 a4 z l6 h = x at *
    unfold fullB
    rw [if_neg h2, if_neg (by rintro (e | e); exact h3 e; rw [h4] at e; cases e), h1, h5]
    rfl
theorem full_short (h : ByteArray) : (fullB a0 a1 l2 l3 a4 z l6 h).size ≤ 72 := by
  rcases full_cases (a0 := a0) (a1 := a1) (l2 := l2) (l3 := l3) (a4 := a4) (z := z) (l6 := l6) h with e | ⟨h1, _⟩
  · rw [e]
    exact Nat.zero_le _
  · have := name_short _ h1
    rw [bytesOf_length] at this
    exact this
theorem full_name (h : ByteArray) : nameB (bytesOf (fullB a0 a1 l2 l3 a4 z l6 h)) = true := by
  rcases full_cases (a0 := a0) (a1 := a1) (l2 := l2) (l3 := l3) (a4 := a4) (z := z) (l6 := l6) h with e | ⟨h1, _⟩
  · rw [e]
    rfl
  · exact h1
end
/-- a full name is its own; who may have a name may have its full name. -/
theorem RegisOne : pinfoldlaw16_RegisOne.Pure := by
  intro a0 a1 l2 l3 a4 z l6 ls now c n w0 w1 h2 h3 w4 hz h6 hl w8 hc hn
  have hcf : confFit l2 l3 z l6 := fit_of h2.1 h3.1 hz h6.1 (fun x hx => ⟨(h6.2 x hx).1, (h6.2 x hx).2.2.2.2.1⟩)
  have htf := tab_of hl.1 (fun x hx => (hl.2 x hx).2.2.2.2.1)
  clear w0 w1 h2 h3 w4 hz h6 hl w8 hc
  refine ⟨1, ?_⟩
  unfold pinfoldlaw16_RegisOne.f
  rw [awake_eq, Option.bind_some, if_pos rfl]
  have hs := full_short (a0 := a0) (a1 := a1) (l2 := l2) (l3 := l3) (a4 := a4) (z := z) (l6 := l6) n
  have hnm := full_name (a0 := a0) (a1 := a1) (l2 := l2) (l3 := l3) (a4 := a4) (z := z) (l6 := l6) n
  have hff := full_full (a0 := a0) (a1 := a1) (l2 := l2) (l3 := l3) (a4 := a4) (z := z) (l6 := l6) n
  have e1 : regis_Full_c.f a0 a1 l2 l3 a4 z l6 n = some (fullB a0 a1 l2 l3 a4 z l6 n) := by unfold regis_Full_c.f; rw [if_pos ⟨hcf, hn⟩]
  rw [e1, Option.bind_some]
  have fr : ∀ (ls' : List S62) (x : ByteArray), tabFit ls' → x.size ≤ 140737488351232 → regis_Free.f a0 a1 l2 l3 a4 z l6 ls' now c x = some (freeB a0 a1 l2 l3 a4 z l6 ls' now c x, if mayFree a0 a1 l2 l3 a4 z l6 ls' x then 0 else 1600) := fun ls' x h1 h2 => by unfold regis_Free.f; rw [if_pos ⟨⟨hcf, h2⟩, h1⟩]
  have hfree : ∀ (ls' : List S62) (x : ByteArray), freeB a0 a1 l2 l3 a4 z l6 ls' now c x = (mayFree a0 a1 l2 l3 a4 z l6 ls' x && decide ((fullB a0 a1 l2 l3 a4 z l6 x).data.toList ∉ [] :: takenS l6 ++ takenL (fullB a0 a1 l2 l3 a4 z l6) c now ls')) := fun _ _ => rfl
  have hmay : ∀ (ls' : List S62) (x : ByteArray), mayFree a0 a1 l2 l3 a4 z l6 ls' x = (confB a0 a1 l2 l3 a4 z l6 && (tableB ls' && nameB (bytesOf x))) := fun _ _ => rfl
  have e2 : regis_Full_c.f a0 a1 l2 l3 a4 z l6 (fullB a0 a1 l2 l3 a4 z l6 n) = some (fullB a0 a1 l2 l3 a4 z l6 n) := by unfold regis_Full_c.f; rw [if_pos ⟨hcf, by omega⟩, hff]
  have hfn := hfree ls n
  have hfu := hfree ls (fullB a0 a1 l2 l3 a4 z l6 n)
  have hf0 := hfree [] n
  rw [hff] at hfu
  have ht0 : tableB ([] : List S62) = true := rfl
  have hl0 : takenL (fullB a0 a1 l2 l3 a4 z l6) c now [] = [] := rfl
  rw [hmay] at hfn hfu hf0
  rw [ht0, hl0, List.append_nil, Bool.true_and] at hf0
  rw [hnm] at hfu
  generalize takenL (fullB a0 a1 l2 l3 a4 z l6) c now ls = TL at hfn hfu
  generalize fullB a0 a1 l2 l3 a4 z l6 n = F at *
  rw [e2, Option.bind_some, if_pos rfl, fr ls n htf hn, fr ls F htf (by omega), Option.bind_some, Option.bind_some]
  unfold pinfoldlaw16_RegisOne.j0 pinfoldlaw0_Num.f
  dsimp only [Option.bind_some]
  rw [fr [] n ⟨Nat.zero_le _, by simp⟩ hn, hmay, hmay, hmay, ht0, hnm]
  generalize freeB a0 a1 l2 l3 a4 z l6 ls now c n = x at *
  generalize freeB a0 a1 l2 l3 a4 z l6 ls now c F = y at *
  generalize freeB a0 a1 l2 l3 a4 z l6 [] now c n = v at *
  clear e1 e2 fr hfree hmay
  generalize confB a0 a1 l2 l3 a4 z l6 = b1 at *
  generalize tableB ls = b2 at *
  generalize nameB (bytesOf n) = b3 at *
  clear hs hnm hff hl0 ht0 hcf htf hn
  dsimp only [Option.bind_some]
  have key : F.toList = ([] : List UInt8) → x = false := fun e => by
    rw [ByteArray.toList_eq] at e
    rw [hfn, e]
    simp
  have nn : x = true → v = true := fun e => by
    rw [e] at hfn
    rw [hf0]
    have := hfn.symm
    simp only [Bool.and_eq_true, decide_eq_true_eq, List.mem_append, not_or] at this ⊢
    exact ⟨⟨this.1.1, this.1.2.2⟩, this.2.1⟩
  have xy : b3 = true → x = y := fun e => by rw [hfn, hfu, e]
  cases b1 <;> cases b2 <;> cases b3 <;> simp only [Bool.false_and, Bool.true_and, Bool.and_false, Bool.and_true, if_true, if_false, Bool.false_eq_true] at hfn hfu hf0 ⊢
  all_goals first
    | (subst hfn; rfl)
    | skip
  clear hfn hfu hf0
  rw [← xy rfl]
  by_cases q : F.toList = []
  · rw [if_pos q, key q]
    cases v <;> rfl
  · rw [if_neg q]
    cases x with
    | false => cases v <;> rfl
    | true => rw [nn rfl]; rfl

end Go.Proofs.YtnjnfpnkcapilaaDoor.Pure
