/- RegisTime: what is free stays free as time goes on. No condition. -/
import Derived.Test.YtnjnfpnkcapilaaDoorPRegisTimex6
namespace Go.Proofs.YtnjnfpnkcapilaaDoor.Pure
open Go.RowKit Go.Proofs.YtnjnfpnkcapilaaDoor.PRegisTime Go.Proofs.YtnjnfpnkcapilaaDoorW.PrintWords Go.Proofs.YtnjnfpnkcapilaaDoorW.PrintLast
set_option linter.unusedSimpArgs false
set_option linter.unusedVariables false

/-- the bounds of an int. -/
theorem int_bd {a : Int} (h : (Lit.int .i64 a).wf = true) : -9223372036854775808 ≤ a ∧ a ≤ 9223372036854775807 := by
  simp only [Lit.wf, IntKind.min, IntKind.max, IntKind.signed, IntKind.bits, Bool.and_eq_true, decide_eq_true_eq, if_true] at h
  omega
theorem u64_eq (a : Int) : IntKind.u64.wrap a = a % 18446744073709551616 := by simp [IntKind.wrap, IntKind.bits, IntKind.signed]
theorem w64 {a : Int} (h : -9223372036854775808 ≤ a ∧ a ≤ 9223372036854775807) : wrap64 a = a := by unfold wrap64; omega
/-- the low bits of any int. -/
theorem and_mask (a : Int) (i : Nat) (hi : i ≤ 62) : Go.bits .and .i64 a ((2 ^ i - 1 : Nat) : Int) = a % ((2 ^ i : Nat) : Int) := by
  have hp : 0 < 2 ^ i := Nat.two_pow_pos i
  have hl : 2 ^ i ≤ 2 ^ 62 := Nat.pow_le_pow_right (by decide) hi
  show IntKind.wrap .i64 (((BitVec.ofInt 64 a &&& BitVec.ofInt 64 ((2 ^ i - 1 : Nat) : Int)).toNat : Nat) : Int) = _
  have e : (((BitVec.ofInt 64 a &&& BitVec.ofInt 64 ((2 ^ i - 1 : Nat) : Int)).toNat : Nat) : Int) = a % ((2 ^ i : Nat) : Int) := by
    rw [BitVec.toNat_and, BitVec.ofInt_natCast, BitVec.toNat_ofNat, Nat.mod_eq_of_lt (show 2 ^ i - 1 < 2 ^ 64 by omega), Nat.and_two_pow_sub_one_eq_mod, BitVec.toNat_ofInt]
    rw [Int.natCast_emod, Int.toNat_of_nonneg (Int.emod_nonneg _ (by decide))]
    exact Int.emod_emod_of_dvd a (by
      rw [Int.natCast_dvd_natCast]
      exact Nat.pow_dvd_pow 2 (by omega))
  rw [e, IntKind.wrap_i64]
  have h0 := Int.emod_nonneg a (show ((2 ^ i : Nat) : Int) ≠ 0 by omega)
  have h1 := Int.emod_lt_of_pos a (show 0 < ((2 ^ i : Nat) : Int) by omega)
  omega
theorem and_1023 (a : Int) : Go.bits .and .i64 a 1023 = a % 1024 := and_mask a 10 (by decide)
theorem and_63 (a : Int) : Go.bits .and .i64 a 63 = a % 64 := and_mask a 6 (by decide)
theorem and_255 (a : Int) : Go.bits .and .i64 a 255 = a % 256 := and_mask a 8 (by decide)
theorem and_65535 (a : Int) : Go.bits .and .i64 a 65535 = a % 65536 := and_mask a 16 (by decide)
theorem and_u32 (a : Int) : Go.bits .and .i64 a 4294967295 = a % 4294967296 := and_mask a 32 (by decide)
theorem wraps_i64 (n : Int) (h0 : 0 ≤ n) (h1 : n < 2 ^ 63) : IntKind.i64.wrap n = n := by rw [IntKind.wrap_i64]; omega
theorem or_byte (x b : Int) (hx : 0 ≤ x ∧ x < 281474976710656) (hb : 0 ≤ b ∧ b < 256) : Go.bits .or .i64 (wrap64 (x * 256)) b = x * 256 + b := by
  rw [w64 (by omega)]
  exact bits_join .i64 63 (by decide) wraps_i64 8 (x * 256) b (by omega) (by omega) (by omega) hb.1 (by omega) (by omega)
theorem fit_of {l2 : List Int} {l3 : List S47} {z : ByteArray} {l6 : List S49} (h2 : l2.length * Tryd.prog.bytesOf 3 ≤ 140737488351232) (h3 : l3.length * Tryd.prog.bytesOf 47 ≤ 140737488351232) (hz : z.size ≤ 140737488351232) (h6 : l6.length * Tryd.prog.bytesOf 49 ≤ 140737488351232) (hx : ∀ x ∈ l6, x.f0.size ≤ 140737488351232 ∧ x.f4.size ≤ 140737488351232) : confFit l2 l3 z l6 := by
  rw [show Tryd.prog.bytesOf 3 = 8 by kernel_rfl] at h2
  rw [show Tryd.prog.bytesOf 47 = 24 by kernel_rfl] at h3
  rw [show Tryd.prog.bytesOf 49 = 80 by kernel_rfl] at h6
  exact ⟨by omega, by omega, hz, by omega, hx⟩
theorem awake_eq : pinfoldlaw16_awake.f = some true := by kernel_rfl
theorem tab_of {l : List S62} (h : l.length * Tryd.prog.bytesOf 62 ≤ 140737488351232) (hx : ∀ x ∈ l, x.f4.size ≤ 140737488351232) : tabFit l := by
  rw [show Tryd.prog.bytesOf 62 = 64 by kernel_rfl] at h
  exact ⟨by omega, hx⟩
theorem held_mono {c : ByteArray} {now t : Int} (ht : now ≤ t) (x : S62) (h : heldBy c t x = true) : heldBy c now x = true := by
  unfold heldBy boundB holdsB liveB at h ⊢
  simp only [Bool.and_eq_true, decide_eq_true_eq] at h ⊢
  exact ⟨h.1, h.2.1, ⟨⟨h.2.2.1.1.1, by omega⟩, h.2.2.1.2⟩, h.2.2.2⟩
theorem taken_mono {F : ByteArray → ByteArray} {c : ByteArray} {now t : Int} (ht : now ≤ t) (l : List S62) (k : List UInt8) (h : k ∈ takenL F c t l) : k ∈ takenL F c now l := by
  unfold takenL at h ⊢
  rw [List.mem_map] at h ⊢
  obtain ⟨x, hx, e⟩ := h
  rw [List.mem_filter] at hx
  exact ⟨x, List.mem_filter.2 ⟨hx.1, held_mono ht x hx.2⟩, e⟩
theorem free_mono {a0 a1 : Int} {l2 : List Int} {l3 : List S47} {a4 : Int} {z : ByteArray} {l6 : List S49} {ls : List S62} {now t : Int} {c n : ByteArray} (ht : now ≤ t) (h : freeB a0 a1 l2 l3 a4 z l6 ls now c n = true) : freeB a0 a1 l2 l3 a4 z l6 ls t c n = true := by
  unfold freeB at h ⊢
  simp only [Bool.and_eq_true, decide_eq_true_eq] at h ⊢
  refine ⟨h.1, fun e => h.2 ?_⟩
  rw [List.mem_append] at e ⊢
  exact e.imp id (taken_mono ht ls _)
/-- what is free stays free as time goes on. -/
theorem RegisTime : pinfoldlaw16_RegisTime.Pure := by
  intro a0 a1 l2 l3 a4 z l6 ls now more c n w0 w1 h2 h3 w4 hz h6 hl w8 w9 hc hn
  have hf : freeFit l2 l3 z l6 ls n := ⟨⟨fit_of h2.1 h3.1 hz h6.1 (fun x hx => ⟨(h6.2 x hx).1, (h6.2 x hx).2.2.2.2.1⟩), hn⟩, tab_of hl.1 (fun x hx => (hl.2 x hx).2.2.2.2.1)⟩
  clear w0 w1 h2 h3 w4 hz h6 hl w8 w9 hc hn
  unfold pinfoldlaw16_RegisTime.f
  rw [awake_eq, Option.bind_some, if_pos rfl]
  generalize wrap64 (now + Go.bits .and .i64 more 65535) = t
  by_cases q : t < now
  · rw [if_pos q]
  rw [if_neg q]
  unfold regis_Free.f pinfoldlaw0_Num.f
  rw [if_pos hf, if_pos hf]
  simp only [Option.bind_some]
  have hm := free_mono (a0 := a0) (a1 := a1) (l2 := l2) (l3 := l3) (a4 := a4) (z := z) (l6 := l6) (ls := ls) (now := now) (t := t) (c := c) (n := n) (by omega)
  have h1 : mayFree a0 a1 l2 l3 a4 z l6 ls n = false → freeB a0 a1 l2 l3 a4 z l6 ls now c n = false ∧ freeB a0 a1 l2 l3 a4 z l6 ls t c n = false := fun e => by
    unfold freeB
    rw [e]
    exact ⟨rfl, rfl⟩
  generalize freeB a0 a1 l2 l3 a4 z l6 ls now c n = x at hm h1
  generalize freeB a0 a1 l2 l3 a4 z l6 ls t c n = y at hm h1
  cases hk : mayFree a0 a1 l2 l3 a4 z l6 ls n with
  | false =>
    obtain ⟨rfl, rfl⟩ := h1 hk
    rfl
  | true =>
    cases x with
    | false => rfl
    | true => rw [hm rfl]; rfl

end Go.Proofs.YtnjnfpnkcapilaaDoor.Pure
