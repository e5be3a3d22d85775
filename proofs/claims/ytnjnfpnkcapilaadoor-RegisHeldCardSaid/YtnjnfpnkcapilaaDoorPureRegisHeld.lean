/- RegisHeld: a name is held by who won it, as long as it is bound. No condition. -/
import Derived.Test.YtnjnfpnkcapilaaDoorPRegisHeldx7
namespace Go.Proofs.YtnjnfpnkcapilaaDoor.Pure
open Go.RowKit Go.Proofs.YtnjnfpnkcapilaaDoor.PRegisHeld Go.Proofs.YtnjnfpnkcapilaaDoorW.PrintWords Go.Proofs.YtnjnfpnkcapilaaDoorW.PrintLast
set_option linter.unusedSimpArgs false
set_option linter.unusedVariables false

/-- the bounds of an int. -/
theorem int_bd {a : Int} (h : (Lit.int .i64 a).wf = true) : -9223372036854775808 ≤ a ∧ a ≤ 9223372036854775807 := by
  simp only [Lit.wf, IntKind.min, IntKind.max, IntKind.signed, IntKind.bits, Bool.and_eq_true, decide_eq_true_eq, if_true] at h
  omega
theorem u64_eq (a : Int) : IntKind.u64.wrap a = a % 18446744073709551616 := by simp [IntKind.wrap, IntKind.bits, IntKind.signed]
theorem w64 {a : Int} (h : -9223372036854775808 ≤ a ∧ a ≤ 9223372036854775807) : wrap64 a = a := by unfold wrap64; omega
/-- the low bits of any int. -/
theorem and_mask (a : Int) (i : Nat) (hi : i ≤ 62) : Go.bits .and .i64 a ((2 ^ i - 1 : Nat) : Int) = a % ((2 ^ i : Nat) : Int) := by
  have hp : 0 < 2 ^ i := Nat.two_pow_pos i
  have hl : 2 ^ i ≤ 2 ^ 62 := Nat.pow_le_pow_right (by decide) hi
  show IntKind.wrap .i64 (((BitVec.ofInt 64 a &&& BitVec.ofInt 64 ((2 ^ i - 1 : Nat) : Int)).toNat : Nat) : Int) = _
  have e : (((BitVec.ofInt 64 a &&& BitVec.ofInt 64 ((2 ^ i - 1 : Nat) : Int)).toNat : Nat) : Int) = a % ((2 ^ i : Nat) : Int) := by
    rw [BitVec.toNat_and, BitVec.ofInt_natCast, BitVec.toNat_ofNat, Nat.mod_eq_of_lt (show 2 ^ i - 1 < 2 ^ 64 by omega), Nat.and_two_pow_sub_one_eq_mod, BitVec.toNat_ofInt]
    rw [Int.natCast_emod, Int.toNat_of_nonneg (Int.emod_nonneg _ (by decide))]
    exact Int.emod_emod_of_dvd a (by
      rw [Int.natCast_dvd_natCast]
      exact Nat.pow_dvd_pow 2 (by omega))
  rw [e, IntKind.wrap_i64]
  have h0 := Int.emod_nonneg a (show ((2 ^ i : Nat) : Int) ≠ 0 by omega)
  have h1 := Int.emod_lt_of_pos a (show 0 < ((2 ^ i : Nat) : Int) by omega)
  omega
theorem and_1023 (a : Int) : Go.bits .and .i64 a 1023 = a % 1024 := and_mask a 10 (by decide)
theorem and_63 (a : Int) : Go.bits .and .i64 a 63 = a % 64 := and_mask a 6 (by decide)
theorem and_255 (a : Int) : Go.bits .and .i64 a 255 = a % 256 := and_mask a 8 (by decide)
theorem and_65535 (a : Int) : Go.bits .and .i64 a 65535 = a % 65536 := and_mask a 16 (by decide)
theorem and_u32 (a : Int) : Go.bits .and .i64 a 4294967295 = a % 4294967296 := and_mask a 32 (by decide)
theorem wraps_i64 (n : Int) (h0 : 0 ≤ n) (h1 : n < 2 ^ 63) : IntKind.i64.wrap n = n := by rw [IntKind.wrap_i64]; omega
theorem or_byte (x b : Int) (hx : 0 ≤ x ∧ x < 281474976710656) (hb : 0 ≤ b ∧ b < 256) : Go.bits .or .i64 (wrap64 (x * 256)) b = x * 256 + b := by
  rw [w64 (by omega)]
  exact bits_join .i64 63 (by decide) wraps_i64 8 (x * 256) b (by omega) (by omega) (by omega) hb.1 (by omega) (by omega)
theorem fit_of {l2 : List Int} {l3 : List S47} {z : ByteArray} {l6 : List S49} (h2 : l2.length * Tryd.prog.bytesOf 3 ≤ 140737488351232) (h3 : l3.length * Tryd.prog.bytesOf 47 ≤ 140737488351232) (hz : z.size ≤ 140737488351232) (h6 : l6.length * Tryd.prog.bytesOf 49 ≤ 140737488351232) (hx : ∀ x ∈ l6, x.f0.size ≤ 140737488351232 ∧ x.f4.size ≤ 140737488351232) : confFit l2 l3 z l6 := by
  rw [show Tryd.prog.bytesOf 3 = 8 by kernel_rfl] at h2
  rw [show Tryd.prog.bytesOf 47 = 24 by kernel_rfl] at h3
  rw [show Tryd.prog.bytesOf 49 = 80 by kernel_rfl] at h6
  exact ⟨by omega, by omega, hz, by omega, hx⟩
theorem awake_eq : pinfoldlaw16_awake.f = some true := by kernel_rfl
theorem tab_of {l : List S62} (h : l.length * Tryd.prog.bytesOf 62 ≤ 140737488351232) (hx : ∀ x ∈ l, x.f4.size ≤ 140737488351232) : tabFit l := by
  rw [show Tryd.prog.bytesOf 62 = 64 by kernel_rfl] at h
  exact ⟨by omega, hx⟩
abbrev gEx : List Int := [12]
abbrev gRes : List S47 := [⟨(⟨#[118, 105, 112]⟩ : ByteArray), 13⟩]
abbrev gZone : ByteArray := ⟨#[108, 97, 110]⟩
abbrev gRR : List S49 := [⟨(⟨#[119, 119, 119, 46, 108, 97, 110]⟩ : ByteArray), 1, 5, 7, (⟨#[]⟩ : ByteArray), (⟨#[]⟩ : ByteArray), 0⟩]
theorem given_eq : pinfoldlaw16_given.f = some (10, 13, gEx, gRes, 100, gZone, gRR) := rfl
theorem given_conf : confB 10 13 gEx gRes 100 gZone gRR = true := by kernel_rfl
theorem given_fit : confFit gEx gRes gZone gRR := by unfold confFit; decide
theorem and_3 (a : Int) : Go.bits .and .i64 a 3 = a % 4 := and_mask a 2 (by decide)
/-- one lease, and who asks. -/
theorem free_one (t : Int) (x : S62) (h : leaseOk x = true) (hx : x.f4.size ≤ 140737488351232) (client called : ByteArray) (hn : nameB (bytesOf called) = true) (hz : called.size ≤ 140737488351232) (F : ByteArray) (hF : fullB 10 13 gEx gRes 100 gZone gRR called = F) :
    regis_Free.f 10 13 gEx gRes 100 gZone gRR [x] t client called = some (decide (F.data.toList ∉ [[], [119, 119, 119, 46, 108, 97, 110]] ++ (if heldBy client t x = true then [(fullB 10 13 gEx gRes 100 gZone gRR x.f4).data.toList] else [])), 0) := by
  have hm : mayFree 10 13 gEx gRes 100 gZone gRR [x] called = true := by
    unfold mayFree tableB goTab goTab above
    rw [given_conf, h, hn]
    rfl
  unfold regis_Free.f freeB
  rw [if_pos ⟨⟨given_fit, hz⟩, ⟨by simp, by simpa using hx⟩⟩, hm, hF, if_pos rfl, Bool.true_and]
  have e : takenL (fullB 10 13 gEx gRes 100 gZone gRR) client t [x] = if heldBy client t x = true then [(fullB 10 13 gEx gRes 100 gZone gRR x.f4).data.toList] else [] := by
    unfold takenL
    by_cases q : heldBy client t x = true
    · rw [if_pos q]
      simp [q]
    · rw [if_neg q]
      simp [q]
  rw [e]
  rfl
/-- a name is held by who won it, as long as it is bound. -/
theorem RegisHeld : pinfoldlaw16_RegisHeld.Pure := by
  intro a0 won a2 a3 whole w0 w2 w3
  refine ⟨2, ?_⟩
  clear w0 w2 w3
  unfold pinfoldlaw16_RegisHeld.f
  rw [awake_eq, Option.bind_some, if_pos rfl, given_eq, Option.bind_some]
  dsimp only
  have n1 : nameB (bytesOf (⟨#[112, 99]⟩ : ByteArray)) = true := by kernel_rfl
  have n2 : nameB (bytesOf (⟨#[116, 118]⟩ : ByteArray)) = true := by kernel_rfl
  have f1 : fullB 10 13 gEx gRes 100 gZone gRR ⟨#[112, 99]⟩ = ⟨#[112, 99, 46, 108, 97, 110]⟩ := by kernel_rfl
  have f2 : fullB 10 13 gEx gRes 100 gZone gRR ⟨#[112, 99, 46, 108, 97, 110]⟩ = ⟨#[112, 99, 46, 108, 97, 110]⟩ := by kernel_rfl
  have f3 : fullB 10 13 gEx gRes 100 gZone gRR ⟨#[116, 118]⟩ = ⟨#[116, 118, 46, 108, 97, 110]⟩ := by kernel_rfl
  have key : ∀ nm : ByteArray, nameB (bytesOf nm) = true → nm.toList ≠ [] → nm.size ≤ 140737488351232 → fullB 10 13 gEx gRes 100 gZone gRR nm = ⟨#[112, 99, 46, 108, 97, 110]⟩ → pinfoldlaw16_RegisHeld.j0 2 a0 won a2 a3 nm 10 13 gEx gRes 100 gZone gRR = some true := fun nm hn hne hsz hf => by
    unfold pinfoldlaw16_RegisHeld.j0 pinfoldlaw16_RegisHeld.j1
    dsimp only
    rw [and_3, and_63, and_63]
    have hs : 0 ≤ a0 % 4 ∧ a0 % 4 < 4 := by omega
    have hu : 0 ≤ a2 % 64 ∧ a2 % 64 < 64 := by omega
    generalize a0 % 4 = st at hs
    generalize a2 % 64 = u at hu
    generalize a3 % 64 = t
    have hsa : (⟨#[97]⟩ : ByteArray).size ≤ 16 := by decide
    have hta : (⟨#[97]⟩ : ByteArray).toList ≠ [] := by rw [ByteArray.toList_eq]; decide
    have htb : (⟨#[97]⟩ : ByteArray).toList ≠ (⟨#[98]⟩ : ByteArray).toList := by rw [ByteArray.toList_eq, ByteArray.toList_eq]; decide
    by_cases q : st = 2
    · subst q
      rw [if_pos rfl]
      have hl : leaseB 10 2 ⟨#[97]⟩ u nm won = true := by
        unfold leaseB stateB
        rw [hn]
        simp [hne, hta, hsa]
        omega
      have hb : heldBy ⟨#[98]⟩ t (⟨10, 2, ⟨#[97]⟩, u, nm, won⟩ : S62) = (won && decide (u > t)) := by
        unfold heldBy boundB holdsB liveB
        rw [hl]
        cases won <;> simp [htb]
      have ha : heldBy ⟨#[97]⟩ t (⟨10, 2, ⟨#[97]⟩, u, nm, won⟩ : S62) = false := by
        unfold heldBy
        simp
      rw [free_one t ⟨10, 2, ⟨#[97]⟩, u, nm, won⟩ hl hsz _ _ n1 (by decide) _ f1, free_one t ⟨10, 2, ⟨#[97]⟩, u, nm, won⟩ hl hsz _ _ n1 (by decide) _ f1, free_one t ⟨10, 2, ⟨#[97]⟩, u, nm, won⟩ hl hsz _ _ n2 (by decide) _ f3, ha, hb]
      simp only [Option.bind_some, if_true, pinfoldlaw0_Num.f, hf]
      cases won with
      | false => rfl
      | true =>
        by_cases r : u > t
        · rw [decide_eq_true r]
          rfl
        · rw [decide_eq_false r]
          rfl
    · rw [if_neg q]
      have hl : leaseB 10 st ⟨#[97]⟩ u ⟨#[]⟩ false = true := by
        unfold leaseB stateB
        have e0 : (⟨#[]⟩ : ByteArray).toList = [] := by rw [ByteArray.toList_eq]
        have e1 : nameB (bytesOf (⟨#[]⟩ : ByteArray)) = true := by kernel_rfl
        have : st = 0 ∨ st = 1 ∨ st = 3 := by omega
        rcases this with rfl | rfl | rfl
        all_goals first | (simp [e0, e1, hta, hsa]; done) | (simp [e0, e1, hta, hsa]; omega)
      have hb : ∀ c, heldBy c t (⟨10, st, ⟨#[97]⟩, u, ⟨#[]⟩, false⟩ : S62) = false := fun c => rfl
      rw [free_one t ⟨10, st, ⟨#[97]⟩, u, ⟨#[]⟩, false⟩ hl (Nat.zero_le _) _ _ n1 (by decide) _ f1, free_one t ⟨10, st, ⟨#[97]⟩, u, ⟨#[]⟩, false⟩ hl (Nat.zero_le _) _ _ n1 (by decide) _ f1, free_one t ⟨10, st, ⟨#[97]⟩, u, ⟨#[]⟩, false⟩ hl (Nat.zero_le _) _ _ n2 (by decide) _ f3, hb, hb]
      simp only [Option.bind_some, if_true, pinfoldlaw0_Num.f, if_neg q]
      rfl
  cases whole with
  | true => exact key _ (by kernel_rfl) (by rw [ByteArray.toList_eq]; decide) (by decide) f2
  | false => exact key _ n1 (by rw [ByteArray.toList_eq]; decide) (by decide) f1

end Go.Proofs.YtnjnfpnkcapilaaDoor.Pure
