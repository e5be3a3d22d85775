-- Made by wip/pr.py out of the translation (a turned copy of the kit's print; contracts by hand where said).
import Derived.Test.YtnjnfpnkcapilaaDoorPConfsx0
import Derived.Test.YtnjnfpnkcapilaaDoorPConfsx3
import Derived.Test.YtnjnfpnkcapilaaDoorPConfsx4
import Derived.Test.YtnjnfpnkcapilaaDoorPConfsx5
import Derived.Test.YtnjnfpnkcapilaaDoorPConfsx6
namespace Go.Proofs.YtnjnfpnkcapilaaDoor.PConfs
open Go.RowKit Go.Proofs.YtnjnfpnkcapilaaDoorW.PrintWords Go.Proofs.YtnjnfpnkcapilaaDoorW.PrintLast Go.Proofs.YtnjnfpnkcapilaaDoorW.PrintMore
attribute [local go_sem] max2_int min2_int max_two min_two max_three min_three max_four min_four   -- for this text's walks alone
set_option linter.unusedVariables false
set_option linter.unusedSimpArgs false

/-! ### pinfoldref11_clientMay_c: function 48 -/
def pinfoldref11_clientMay_c.f (a0 : ByteArray) : Option Bool := some (clientB a0)
theorem pinfoldref11_clientMay_c.calls (a0 : ByteArray) (r : Bool) (w : World) (h : pinfoldref11_clientMay_c.f a0 = some r) :
    Calls Tryd.prog 48 #[.string a0] w fun e w' => e = .returned (.bool r) ∧ Drawn0 w w' := by
  refine pinfoldref11_clientMay.calls a0 r w ?_
  rw [← h]
  unfold pinfoldref11_clientMay.f pinfoldref11_clientMay_c.f clientB
  by_cases q : (a0.size : Int) ≥ 1
  · rw [if_pos q]
    congr 1
    rw [Bool.eq_iff_iff, decide_eq_true_eq, decide_eq_true_eq]
    omega
  · rw [if_neg q]
    congr 1
    symm
    rw [decide_eq_false_iff_not]
    omega

/-! ### pinfoldref1_Under: function 59 -/
def pinfoldref1_Under.f (a0 : ByteArray) (a1 : ByteArray) : Option (Bool) := (pinfoldref1_NameMay_c.f a0).bind fun t150 => (if t150 = true then ((pinfoldref1_NameMay_c.f a1).bind fun t151 => (if t151 = true then (if a1.toList = ([] : List UInt8) then (some true) else (if a0.toList = a1.toList then (some true) else (if (wrap64 ((a0.size : Int) - (a1.size : Int))) > 1 then (if 0 ≤ (wrap64 ((a0.size : Int) - (a1.size : Int))) then (if (wrap64 ((a0.size : Int) - (a1.size : Int))) ≤ (a0.size : Int) then (if (a0.extract ((wrap64 ((a0.size : Int) - (a1.size : Int))) : Int).toNat a0.size).toList = a1.toList then (if 0 ≤ (wrap64 ((wrap64 ((a0.size : Int) - (a1.size : Int))) - 1)) then (if (wrap64 ((wrap64 ((a0.size : Int) - (a1.size : Int))) - 1)) < (a0.size : Int) then (some ((bt a0 (wrap64 ((wrap64 ((a0.size : Int) - (a1.size : Int))) - 1))) == 46)) else (none)) else (none)) else (some false)) else (none)) else (none)) else (some false)))) else (some false))) else (some false))
set_option maxHeartbeats 8000000 in
set_option maxRecDepth 100000 in
theorem pinfoldref1_Under.calls (a0 : ByteArray) (a1 : ByteArray) (r : Bool) (w : World) (h : pinfoldref1_Under.f a0 a1 = some r) :
    Calls Tryd.prog 59 #[.string a0, .string a1] w fun e w' => e = .returned (.bool r) ∧ Below w.heap.size w w' := by
  have HB := Aside0.mk (Below.refl w.heap.size w)
  have H : ((pinfoldref1_NameMay_c.f a0).bind fun t150 => (if t150 = true then ((pinfoldref1_NameMay_c.f a1).bind fun t151 => (if t151 = true then (if a1.toList = ([] : List UInt8) then (some true) else (if a0.toList = a1.toList then (some true) else (if (wrap64 ((a0.size : Int) - (a1.size : Int))) > 1 then (if 0 ≤ (wrap64 ((a0.size : Int) - (a1.size : Int))) then (if (wrap64 ((a0.size : Int) - (a1.size : Int))) ≤ (a0.size : Int) then (if (a0.extract ((wrap64 ((a0.size : Int) - (a1.size : Int))) : Int).toNat a0.size).toList = a1.toList then (if 0 ≤ (wrap64 ((wrap64 ((a0.size : Int) - (a1.size : Int))) - 1)) then (if (wrap64 ((wrap64 ((a0.size : Int) - (a1.size : Int))) - 1)) < (a0.size : Int) then (some ((bt a0 (wrap64 ((wrap64 ((a0.size : Int) - (a1.size : Int))) - 1))) == 46)) else (none)) else (none)) else (some false)) else (none)) else (none)) else (some false)))) else (some false))) else (some false))) = some r := h
  clear h
  replace H := Option.bind_eq_some_iff.mp H
  obtain ⟨t150, A30, H⟩ := H
  replace H : (if t150 = true then ((pinfoldref1_NameMay_c.f a1).bind fun t151 => (if t151 = true then (if a1.toList = ([] : List UInt8) then (some true) else (if a0.toList = a1.toList then (some true) else (if (wrap64 ((a0.size : Int) - (a1.size : Int))) > 1 then (if 0 ≤ (wrap64 ((a0.size : Int) - (a1.size : Int))) then (if (wrap64 ((a0.size : Int) - (a1.size : Int))) ≤ (a0.size : Int) then (if (a0.extract ((wrap64 ((a0.size : Int) - (a1.size : Int))) : Int).toNat a0.size).toList = a1.toList then (if 0 ≤ (wrap64 ((wrap64 ((a0.size : Int) - (a1.size : Int))) - 1)) then (if (wrap64 ((wrap64 ((a0.size : Int) - (a1.size : Int))) - 1)) < (a0.size : Int) then (some ((bt a0 (wrap64 ((wrap64 ((a0.size : Int) - (a1.size : Int))) - 1))) == 46)) else (none)) else (none)) else (some false)) else (none)) else (none)) else (some false)))) else (some false))) else (some false)) = some r := H
  have A3 := Aside0.mk A30
  clear A30
  by_cases c4 : t150 = true
  · subst c4
    have H1 : ((pinfoldref1_NameMay_c.f a1).bind fun t151 => (if t151 = true then (if a1.toList = ([] : List UInt8) then (some true) else (if a0.toList = a1.toList then (some true) else (if (wrap64 ((a0.size : Int) - (a1.size : Int))) > 1 then (if 0 ≤ (wrap64 ((a0.size : Int) - (a1.size : Int))) then (if (wrap64 ((a0.size : Int) - (a1.size : Int))) ≤ (a0.size : Int) then (if (a0.extract ((wrap64 ((a0.size : Int) - (a1.size : Int))) : Int).toNat a0.size).toList = a1.toList then (if 0 ≤ (wrap64 ((wrap64 ((a0.size : Int) - (a1.size : Int))) - 1)) then (if (wrap64 ((wrap64 ((a0.size : Int) - (a1.size : Int))) - 1)) < (a0.size : Int) then (some ((bt a0 (wrap64 ((wrap64 ((a0.size : Int) - (a1.size : Int))) - 1))) == 46)) else (none)) else (none)) else (some false)) else (none)) else (none)) else (some false)))) else (some false))) = some r := by rw [if_pos rfl] at H; exact H
    clear H
    have H := H1
    clear H1
    replace H := Option.bind_eq_some_iff.mp H
    obtain ⟨t151, A50, H⟩ := H
    replace H : (if t151 = true then (if a1.toList = ([] : List UInt8) then (some true) else (if a0.toList = a1.toList then (some true) else (if (wrap64 ((a0.size : Int) - (a1.size : Int))) > 1 then (if 0 ≤ (wrap64 ((a0.size : Int) - (a1.size : Int))) then (if (wrap64 ((a0.size : Int) - (a1.size : Int))) ≤ (a0.size : Int) then (if (a0.extract ((wrap64 ((a0.size : Int) - (a1.size : Int))) : Int).toNat a0.size).toList = a1.toList then (if 0 ≤ (wrap64 ((wrap64 ((a0.size : Int) - (a1.size : Int))) - 1)) then (if (wrap64 ((wrap64 ((a0.size : Int) - (a1.size : Int))) - 1)) < (a0.size : Int) then (some ((bt a0 (wrap64 ((wrap64 ((a0.size : Int) - (a1.size : Int))) - 1))) == 46)) else (none)) else (none)) else (some false)) else (none)) else (none)) else (some false)))) else (some false)) = some r := H
    have A5 := Aside0.mk A50
    clear A50
    by_cases c6 : t151 = true
    · subst c6
      have H1 : (if a1.toList = ([] : List UInt8) then (some true) else (if a0.toList = a1.toList then (some true) else (if (wrap64 ((a0.size : Int) - (a1.size : Int))) > 1 then (if 0 ≤ (wrap64 ((a0.size : Int) - (a1.size : Int))) then (if (wrap64 ((a0.size : Int) - (a1.size : Int))) ≤ (a0.size : Int) then (if (a0.extract ((wrap64 ((a0.size : Int) - (a1.size : Int))) : Int).toNat a0.size).toList = a1.toList then (if 0 ≤ (wrap64 ((wrap64 ((a0.size : Int) - (a1.size : Int))) - 1)) then (if (wrap64 ((wrap64 ((a0.size : Int) - (a1.size : Int))) - 1)) < (a0.size : Int) then (some ((bt a0 (wrap64 ((wrap64 ((a0.size : Int) - (a1.size : Int))) - 1))) == 46)) else (none)) else (none)) else (some false)) else (none)) else (none)) else (some false)))) = some r := by rw [if_pos rfl] at H; exact H
      clear H
      have H := H1
      clear H1
      by_cases c7 : a1.toList = ([] : List UInt8)
      · rw [if_pos c7] at H
        have c7b0 : (a1.toList == ([] : List UInt8)) = true := beq_iff_eq.mpr c7
        have c7b1 : (a1.toList != ([] : List UInt8)) = false := bne_eq_false_iff_eq.mpr c7
        clear c7
        obtain rfl := Option.some.inj H
        go_enter Tryd.func59, Tryd.ntmps59
        go_wp2_with (first | ((with_reducible refine gate_callee (f := 46) rfl ?_); refine goesL_ (some 7) rfl rfl Tryd.func46 (by kernel_rfl) rfl #[.string a0] rfl (by (try simp only [List.map_toArray, List.map_cons, List.map_nil]); first | done | rfl | (simp only [List.length_drop, List.length_take]; rfl)) ?_; (with_reducible refine (pinfoldref1_NameMay_c.calls a0 true _ A3.out).mono ?_); rintro e w8 ⟨rfl, hb⟩; refine ⟨_, rfl, ?_⟩; have n0_ := Aside0.mk (below_step (by repeat (with_reducible first | exact HB.out | apply below_alloc | apply pw_below_drewN | apply below_drew1)) hb); clear HB; have HB := n0_; clear n0_; (try clear hb)) | (go_at_call 46; (with_reducible refine (pinfoldref1_NameMay_c.calls a1 true _ A5.out).mono ?_); rintro e w9 ⟨rfl, hb⟩; have n0_ := Aside0.mk (below_step (by repeat (with_reducible first | exact HB.out | apply below_alloc | apply pw_below_drewN | apply below_drew1)) hb); clear HB; have HB := n0_; clear n0_; (try clear hb)))
        go_ret
        exact ⟨by first | rfl | (simp [errW_none, errW_some] <;> rfl) | (simp [*, errW_none, errW_some] <;> rfl) | (simp only [str_ne_]; rfl) | (simp only [str_eq_]; rfl), by repeat (with_reducible first | exact HB.out | apply below_alloc | apply pw_below_drewN | apply below_drew1)⟩
      rw [if_neg c7] at H
      have c7b0 : (a1.toList == ([] : List UInt8)) = false := beq_eq_false_iff_ne.mpr c7
      have c7b1 : (a1.toList != ([] : List UInt8)) = true := bne_iff_ne.mpr c7
      by_cases c10 : a0.toList = a1.toList
      · rw [if_pos c10] at H
        have c10b0 : (a0.toList == a1.toList) = true := beq_iff_eq.mpr c10
        have c10b1 : (a0.toList != a1.toList) = false := bne_eq_false_iff_eq.mpr c10
        clear c10
        obtain rfl := Option.some.inj H
        go_enter Tryd.func59, Tryd.ntmps59
        go_wp2_with (first | ((with_reducible refine gate_callee (f := 46) rfl ?_); refine goesL_ (some 7) rfl rfl Tryd.func46 (by kernel_rfl) rfl #[.string a0] rfl (by (try simp only [List.map_toArray, List.map_cons, List.map_nil]); first | done | rfl | (simp only [List.length_drop, List.length_take]; rfl)) ?_; (with_reducible refine (pinfoldref1_NameMay_c.calls a0 true _ A3.out).mono ?_); rintro e w11 ⟨rfl, hb⟩; refine ⟨_, rfl, ?_⟩; have n0_ := Aside0.mk (below_step (by repeat (with_reducible first | exact HB.out | apply below_alloc | apply pw_below_drewN | apply below_drew1)) hb); clear HB; have HB := n0_; clear n0_; (try clear hb)) | (go_at_call 46; (with_reducible refine (pinfoldref1_NameMay_c.calls a1 true _ A5.out).mono ?_); rintro e w12 ⟨rfl, hb⟩; have n0_ := Aside0.mk (below_step (by repeat (with_reducible first | exact HB.out | apply below_alloc | apply pw_below_drewN | apply below_drew1)) hb); clear HB; have HB := n0_; clear n0_; (try clear hb)))
        go_ret
        exact ⟨by first | rfl | (simp [errW_none, errW_some] <;> rfl) | (simp [*, errW_none, errW_some] <;> rfl) | (simp only [str_ne_]; rfl) | (simp only [str_eq_]; rfl), by repeat (with_reducible first | exact HB.out | apply below_alloc | apply pw_below_drewN | apply below_drew1)⟩
      rw [if_neg c10] at H
      have c10b0 : (a0.toList == a1.toList) = false := beq_eq_false_iff_ne.mpr c10
      have c10b1 : (a0.toList != a1.toList) = true := bne_iff_ne.mpr c10
      by_cases c13 : (wrap64 ((a0.size : Int) - (a1.size : Int))) > 1
      · rw [if_pos c13] at H
        have c13b0 : decide (1 < (wrap64 ((a0.size : Int) - (a1.size : Int)))) = true := decide_eq_true c13
        clear c13
        obtain ⟨ji14, hji14⟩ : ∃ j_ : Int, (wrap64 ((a0.size : Int) - (a1.size : Int))) = j_ := ⟨_, rfl⟩
        replace H : (if 0 ≤ (ji14) then (if (ji14) ≤ (a0.size : Int) then (if (a0.extract ((ji14) : Int).toNat a0.size).toList = a1.toList then (if 0 ≤ (wrap64 ((ji14) - 1)) then (if (wrap64 ((ji14) - 1)) < (a0.size : Int) then (some ((bt a0 (wrap64 ((ji14) - 1))) == 46)) else (none)) else (none)) else (some false)) else (none)) else (none)) = some r := by first | (rw [hji14] at H; exact H) | (simp only [hji14] at H ⊢; exact H)
        (try rw [hji14] at c13b0)
        (try rw [hji14] at A3)
        (try rw [hji14] at A5)
        have hji14w : (IntKind.i64.wrap ((a0.size : Int) - (a1.size : Int))) = ji14 := (i64_w _).trans hji14
        by_cases c15 : 0 ≤ (ji14)
        rotate_left
        · rw [if_neg c15] at H
          exact absurd H (by simp)
        rw [if_pos c15] at H
        have c15b0 := eq_true c15
        have c15b1 : decide (0 ≤ (ji14)) = true := decide_eq_true c15
        clear c15
        by_cases c16 : (ji14) ≤ (a0.size : Int)
        rotate_left
        · rw [if_neg c16] at H
          exact absurd H (by simp)
        rw [if_pos c16] at H
        have c16b0 := eq_true c16
        have c16b1 : decide ((ji14) ≤ (a0.size : Int)) = true := decide_eq_true c16
        clear c16
        by_cases c17 : (a0.extract ((ji14) : Int).toNat a0.size).toList = a1.toList
        · rw [if_pos c17] at H
          have c17b0 : ((a0.extract ((ji14) : Int).toNat a0.size).toList == a1.toList) = true := beq_iff_eq.mpr c17
          have c17b1 : ((a0.extract ((ji14) : Int).toNat a0.size).toList != a1.toList) = false := bne_eq_false_iff_eq.mpr c17
          clear c17
          obtain ⟨ji18, hji18⟩ : ∃ j_ : Int, (wrap64 ((ji14) - 1)) = j_ := ⟨_, rfl⟩
          replace H : (if 0 ≤ (ji18) then (if (ji18) < (a0.size : Int) then (some ((bt a0 (ji18)) == 46)) else (none)) else (none)) = some r := by first | (rw [hji18] at H; exact H) | (simp only [hji18] at H ⊢; exact H)
          (try rw [hji18] at A3)
          (try rw [hji18] at A5)
          have hji18w : (IntKind.i64.wrap ((ji14) - 1)) = ji18 := (i64_w _).trans hji18
          by_cases c19 : 0 ≤ (ji18)
          rotate_left
          · rw [if_neg c19] at H
            exact absurd H (by simp)
          rw [if_pos c19] at H
          have c19b0 : decide (0 ≤ (ji18)) = true := decide_eq_true c19
          clear c19
          by_cases c20 : (ji18) < (a0.size : Int)
          rotate_left
          · rw [if_neg c20] at H
            exact absurd H (by simp)
          rw [if_pos c20] at H
          have c20b0 : decide ((ji18) < (a0.size : Int)) = true := decide_eq_true c20
          clear c20
          obtain rfl := Option.some.inj H
          go_enter Tryd.func59, Tryd.ntmps59
          go_wp2_with (first | ((with_reducible refine gate_callee (f := 46) rfl ?_); refine goesL_ (some 7) rfl rfl Tryd.func46 (by kernel_rfl) rfl #[.string a0] rfl (by (try simp only [List.map_toArray, List.map_cons, List.map_nil]); first | done | rfl | (simp only [List.length_drop, List.length_take]; rfl)) ?_; (with_reducible refine (pinfoldref1_NameMay_c.calls a0 true _ A3.out).mono ?_); rintro e w22 ⟨rfl, hb⟩; refine ⟨_, rfl, ?_⟩; have n0_ := Aside0.mk (below_step (by repeat (with_reducible first | exact HB.out | apply below_alloc | apply pw_below_drewN | apply below_drew1)) hb); clear HB; have HB := n0_; clear n0_; (try clear hb)) | (go_at_call 46; (with_reducible refine (pinfoldref1_NameMay_c.calls a1 true _ A5.out).mono ?_); rintro e w23 ⟨rfl, hb⟩; have n0_ := Aside0.mk (below_step (by repeat (with_reducible first | exact HB.out | apply below_alloc | apply pw_below_drewN | apply below_drew1)) hb); clear HB; have HB := n0_; clear n0_; (try clear hb); have p21 : 0 ≤ ((ji18) : Int) := of_decide_eq_true (by first | (with_reducible assumption) | assumption); have q21 : (ji18) < (a0.size : Int) := of_decide_eq_true (by first | (with_reducible assumption) | assumption); have hx21 := bt_at a0 (ji18); replace p21 := eq_true p21; replace q21 := eq_true q21))
          go_ret
          exact ⟨by first | rfl | (simp [errW_none, errW_some] <;> rfl) | (simp only [← hji14, ← hji18]; first | rfl | (simp [errW_none, errW_some] <;> rfl)) | (simp [*, errW_none, errW_some] <;> rfl) | (simp only [str_ne_]; rfl) | (simp only [str_eq_]; rfl), by repeat (with_reducible first | exact HB.out | apply below_alloc | apply pw_below_drewN | apply below_drew1)⟩
        rw [if_neg c17] at H
        have c17b0 : ((a0.extract ((ji14) : Int).toNat a0.size).toList == a1.toList) = false := beq_eq_false_iff_ne.mpr c17
        have c17b1 : ((a0.extract ((ji14) : Int).toNat a0.size).toList != a1.toList) = true := bne_iff_ne.mpr c17
        obtain rfl := Option.some.inj H
        go_enter Tryd.func59, Tryd.ntmps59
        go_wp2_with (first | ((with_reducible refine gate_callee (f := 46) rfl ?_); refine goesL_ (some 7) rfl rfl Tryd.func46 (by kernel_rfl) rfl #[.string a0] rfl (by (try simp only [List.map_toArray, List.map_cons, List.map_nil]); first | done | rfl | (simp only [List.length_drop, List.length_take]; rfl)) ?_; (with_reducible refine (pinfoldref1_NameMay_c.calls a0 true _ A3.out).mono ?_); rintro e w24 ⟨rfl, hb⟩; refine ⟨_, rfl, ?_⟩; have n0_ := Aside0.mk (below_step (by repeat (with_reducible first | exact HB.out | apply below_alloc | apply pw_below_drewN | apply below_drew1)) hb); clear HB; have HB := n0_; clear n0_; (try clear hb)) | (go_at_call 46; (with_reducible refine (pinfoldref1_NameMay_c.calls a1 true _ A5.out).mono ?_); rintro e w25 ⟨rfl, hb⟩; have n0_ := Aside0.mk (below_step (by repeat (with_reducible first | exact HB.out | apply below_alloc | apply pw_below_drewN | apply below_drew1)) hb); clear HB; have HB := n0_; clear n0_; (try clear hb)))
        go_ret
        exact ⟨by first | rfl | (simp [errW_none, errW_some] <;> rfl) | (simp only [← hji14]; first | rfl | (simp [errW_none, errW_some] <;> rfl)) | (simp [*, errW_none, errW_some] <;> rfl) | (simp only [str_ne_]; rfl) | (simp only [str_eq_]; rfl), by repeat (with_reducible first | exact HB.out | apply below_alloc | apply pw_below_drewN | apply below_drew1)⟩
      rw [if_neg c13] at H
      have c13b0 : decide (1 < (wrap64 ((a0.size : Int) - (a1.size : Int)))) = false := decide_eq_false c13
      clear c13
      obtain rfl := Option.some.inj H
      go_enter Tryd.func59, Tryd.ntmps59
      go_wp2_with (first | ((with_reducible refine gate_callee (f := 46) rfl ?_); refine goesL_ (some 7) rfl rfl Tryd.func46 (by kernel_rfl) rfl #[.string a0] rfl (by (try simp only [List.map_toArray, List.map_cons, List.map_nil]); first | done | rfl | (simp only [List.length_drop, List.length_take]; rfl)) ?_; (with_reducible refine (pinfoldref1_NameMay_c.calls a0 true _ A3.out).mono ?_); rintro e w26 ⟨rfl, hb⟩; refine ⟨_, rfl, ?_⟩; have n0_ := Aside0.mk (below_step (by repeat (with_reducible first | exact HB.out | apply below_alloc | apply pw_below_drewN | apply below_drew1)) hb); clear HB; have HB := n0_; clear n0_; (try clear hb)) | (go_at_call 46; (with_reducible refine (pinfoldref1_NameMay_c.calls a1 true _ A5.out).mono ?_); rintro e w27 ⟨rfl, hb⟩; have n0_ := Aside0.mk (below_step (by repeat (with_reducible first | exact HB.out | apply below_alloc | apply pw_below_drewN | apply below_drew1)) hb); clear HB; have HB := n0_; clear n0_; (try clear hb)))
      go_ret
      exact ⟨by first | rfl | (simp [errW_none, errW_some] <;> rfl) | (simp [*, errW_none, errW_some] <;> rfl) | (simp only [str_ne_]; rfl) | (simp only [str_eq_]; rfl), by repeat (with_reducible first | exact HB.out | apply below_alloc | apply pw_below_drewN | apply below_drew1)⟩
    replace c6 := Bool.eq_false_iff.mpr c6
    subst c6
    have H1 : (some false) = some r := by rw [if_neg (show ¬ (false = true) by decide)] at H; exact H
    clear H
    have H := H1
    clear H1
    obtain rfl := Option.some.inj H
    go_enter Tryd.func59, Tryd.ntmps59
    go_wp2_with (first | ((with_reducible refine gate_callee (f := 46) rfl ?_); refine goesL_ (some 7) rfl rfl Tryd.func46 (by kernel_rfl) rfl #[.string a0] rfl (by (try simp only [List.map_toArray, List.map_cons, List.map_nil]); first | done | rfl | (simp only [List.length_drop, List.length_take]; rfl)) ?_; (with_reducible refine (pinfoldref1_NameMay_c.calls a0 true _ A3.out).mono ?_); rintro e w28 ⟨rfl, hb⟩; refine ⟨_, rfl, ?_⟩; have n0_ := Aside0.mk (below_step (by repeat (with_reducible first | exact HB.out | apply below_alloc | apply pw_below_drewN | apply below_drew1)) hb); clear HB; have HB := n0_; clear n0_; (try clear hb)) | (go_at_call 46; (with_reducible refine (pinfoldref1_NameMay_c.calls a1 false _ A5.out).mono ?_); rintro e w29 ⟨rfl, hb⟩; have n0_ := Aside0.mk (below_step (by repeat (with_reducible first | exact HB.out | apply below_alloc | apply pw_below_drewN | apply below_drew1)) hb); clear HB; have HB := n0_; clear n0_; (try clear hb)))
    go_ret
    exact ⟨by first | rfl | (simp [errW_none, errW_some] <;> rfl) | (simp [*, errW_none, errW_some] <;> rfl) | (simp only [str_ne_]; rfl) | (simp only [str_eq_]; rfl), by repeat (with_reducible first | exact HB.out | apply below_alloc | apply pw_below_drewN | apply below_drew1)⟩
  replace c4 := Bool.eq_false_iff.mpr c4
  subst c4
  have H1 : (some false) = some r := by rw [if_neg (show ¬ (false = true) by decide)] at H; exact H
  clear H
  have H := H1
  clear H1
  obtain rfl := Option.some.inj H
  go_enter Tryd.func59, Tryd.ntmps59
  go_wp2_with (first | ((with_reducible refine gate_callee (f := 46) rfl ?_); refine goesL_ (some 7) rfl rfl Tryd.func46 (by kernel_rfl) rfl #[.string a0] rfl (by (try simp only [List.map_toArray, List.map_cons, List.map_nil]); first | done | rfl | (simp only [List.length_drop, List.length_take]; rfl)) ?_; (with_reducible refine (pinfoldref1_NameMay_c.calls a0 false _ A3.out).mono ?_); rintro e w30 ⟨rfl, hb⟩; refine ⟨_, rfl, ?_⟩; have n0_ := Aside0.mk (below_step (by repeat (with_reducible first | exact HB.out | apply below_alloc | apply pw_below_drewN | apply below_drew1)) hb); clear HB; have HB := n0_; clear n0_; (try clear hb)))
  go_ret
  exact ⟨by first | rfl | (simp [errW_none, errW_some] <;> rfl) | (simp [*, errW_none, errW_some] <;> rfl) | (simp only [str_ne_]; rfl) | (simp only [str_eq_]; rfl), by repeat (with_reducible first | exact HB.out | apply below_alloc | apply pw_below_drewN | apply below_drew1)⟩

/-! ### pinfoldref1_Under_c: function 59 -/
theorem name_point (z : List Int) : nameB (46 :: z) = false := by
  unfold nameB
  rw [cutL_point, List.all_cons, decide_eq_false (by simp)]
  rfl
/-- what the document says of a name under a zone. -/
theorem refunder_eq_ (s z : ByteArray) (hs : s.size ≤ 8796093022000) (hz : z.size ≤ 8796093022000) : pinfoldref1_Under.f s z = some (underB (bytesOf s) (bytesOf z)) := by
  unfold pinfoldref1_Under.f underB
  unfold pinfoldref1_NameMay_c.f
  rw [if_pos hs, if_pos hz]
  simp only [Option.bind_some]
  cases hns : nameB (bytesOf s) with
  | false => rfl
  | true =>
    cases nameB (bytesOf z) with
    | false => rfl
    | true =>
      simp only [if_true, Bool.and_self, Bool.true_and]
      by_cases q1 : z.size = 0
      · have hn : bytesOf z = [] := List.length_eq_zero_iff.1 (by rw [bytesOf_length]; omega)
        rw [if_pos ((toList_nil z).2 q1), decide_eq_true (show isU (bytesOf s) (bytesOf z) from .inl hn)]
      · have hn : bytesOf z ≠ [] := fun e => q1 (by rw [← bytesOf_length, e]; rfl)
        rw [if_neg (fun e => q1 ((toList_nil z).1 e))]
        by_cases q2 : bytesOf s = bytesOf z
        · rw [if_pos ((toList_iff s z).2 q2), decide_eq_true (show isU (bytesOf s) (bytesOf z) from .inr (.inl q2))]
        · rw [if_neg (fun e => q2 ((toList_iff s z).1 e)), w64 (show -9223372036854775808 ≤ (s.size : Int) - (z.size : Int) ∧ (s.size : Int) - (z.size : Int) ≤ 9223372036854775807 by omega)]
          have hu : isU (bytesOf s) (bytesOf z) ↔ (46 :: bytesOf z) <:+ bytesOf s := by
            unfold isU
            constructor
            · rintro (h | h | h)
              · exact absurd h hn
              · exact absurd h q2
              · exact h
            · exact fun h => .inr (.inr h)
          by_cases hd : (s.size : Int) - (z.size : Int) > 1
          · obtain ⟨d, hd2⟩ : ∃ d : Nat, s.size = z.size + (d + 1) := ⟨s.size - z.size - 1, by omega⟩
            have e1 : (s.size : Int) - (z.size : Int) = ((d + 1 : Nat) : Int) := by omega
            rw [if_pos hd, e1, if_pos (by omega), if_pos (by omega), Int.toNat_natCast, w64 (by omega), show ((d + 1 : Nat) : Int) - 1 = (d : Int) by omega]
            have e2 : (bytesOf s).drop d = bt s d :: (bytesOf s).drop (d + 1) := drop_cons s d (by omega)
            have e3 : bytesOf (s.extract (d + 1) s.size) = (bytesOf s).drop (d + 1) := by
              rw [bytesOf_extract, List.take_of_length_le (by rw [List.length_drop, bytesOf_length]; omega)]
            have hiff : isU (bytesOf s) (bytesOf z) ↔ bt s d = 46 ∧ (bytesOf s).drop (d + 1) = bytesOf z := by
              rw [hu, List.suffix_iff_eq_drop, List.length_cons, bytesOf_length, bytesOf_length, show s.size - (z.size + 1) = d by omega, e2, List.cons.injEq]
              constructor
              · exact fun h => ⟨h.1.symm, h.2.symm⟩
              · exact fun h => ⟨h.1.symm, h.2.symm⟩
            by_cases q3 : (bytesOf s).drop (d + 1) = bytesOf z
            · rw [if_pos ((toList_iff _ _).2 (by rw [e3, q3])), if_pos (by omega), if_pos (by omega)]
              congr 1
              rw [Bool.eq_iff_iff, beq_iff_eq, decide_eq_true_eq, hiff]
              exact ⟨fun h => ⟨h, q3⟩, fun h => h.1⟩
            · rw [if_neg (fun e => q3 (by rw [← e3]; exact (toList_iff _ _).1 e)), decide_eq_false (fun h => q3 (hiff.1 h).2)]
          · rw [if_neg hd, decide_eq_false ?_]
            rw [hu]
            intro h
            have hl := h.length_le
            rw [List.length_cons, bytesOf_length, bytesOf_length] at hl
            have e := h.eq_of_length (by rw [List.length_cons, bytesOf_length, bytesOf_length]; omega)
            rw [← e, name_point] at hns
            cases hns
def pinfoldref1_Under_c.f (a0 a1 : ByteArray) : Option Bool := if a0.size ≤ 8796093022000 ∧ a1.size ≤ 8796093022000 then some (underB (bytesOf a0) (bytesOf a1)) else none
theorem pinfoldref1_Under_c.calls (a0 a1 : ByteArray) (r : Bool) (w : World) (h : pinfoldref1_Under_c.f a0 a1 = some r) :
    Calls Tryd.prog 59 #[.string a0, .string a1] w fun e w' => e = .returned (.bool r) ∧ Below w.heap.size w w' := by
  unfold pinfoldref1_Under_c.f at h
  by_cases hs : a0.size ≤ 8796093022000 ∧ a1.size ≤ 8796093022000
  · rw [if_pos hs] at h
    exact pinfoldref1_Under.calls a0 a1 r w (by rw [refunder_eq_ a0 a1 hs.1 hs.2]; exact h)
  · rw [if_neg hs] at h
    cases h

/-! ### pinfoldref1_within: function 77 -/
def pinfoldref1_within.f (a0 : Int) (a1 : Int) : Option (Bool) := if a0 ≥ 0 then (if 0 ≤ a1 then (some (decide (a0 < (shl .i64 1 a1)))) else (none)) else (some false)
set_option maxHeartbeats 8000000 in
set_option maxRecDepth 100000 in
theorem pinfoldref1_within.calls (a0 : Int) (a1 : Int) (r : Bool) (w : World) (h : pinfoldref1_within.f a0 a1 = some r) :
    Calls Tryd.prog 77 #[.int .i64 a0, .int .i64 a1] w fun e w' => e = .returned (.bool r) ∧ Drawn0 w w' := by
  have H : (if a0 ≥ 0 then (if 0 ≤ a1 then (some (decide (a0 < (shl .i64 1 a1)))) else (none)) else (some false)) = some r := h
  clear h
  by_cases c3 : a0 ≥ 0
  · rw [if_pos c3] at H
    have c3b0 : decide (0 ≤ a0) = true := decide_eq_true c3
    clear c3
    by_cases c4 : 0 ≤ a1
    rotate_left
    · rw [if_neg c4] at H
      exact absurd H (by simp)
    rw [if_pos c4] at H
    have c4b0 := eq_true c4
    have c4b1 : decide (0 ≤ a1) = true := decide_eq_true c4
    clear c4
    obtain ⟨ji5, hji5⟩ : ∃ j_ : Int, (shl .i64 1 a1) = j_ := ⟨_, rfl⟩
    replace H : (some (decide (a0 < (ji5)))) = some r := by first | (rw [hji5] at H; exact H) | (simp only [hji5] at H ⊢; exact H)
    have hji5_ : (IntKind.i64.wrap (1 * 2 ^ min a1.toNat 64)) = ji5 := hji5
    have hji5z : a1 ≤ 64 → (IntKind.i64.wrap (1 * 2 ^ a1.toNat)) = ji5 := shl_small hji5
    have hji5u : (IntKind.i64.wrap (2 ^ min a1.toNat 64)) = ji5 := by have h_ := hji5_; rw [Int.one_mul] at h_; exact h_
    have hji5v : a1 ≤ 64 → (IntKind.i64.wrap (2 ^ a1.toNat)) = ji5 := fun hle_ => by have h_ := hji5z hle_; rw [Int.one_mul] at h_; exact h_
    have hji5y : (wrap64 (1 * 2 ^ min a1.toNat 64)) = ji5 := (i64_w _).symm.trans hji5_
    have hji5x : a1 ≤ 64 → (wrap64 (1 * 2 ^ a1.toNat)) = ji5 := fun h_ => (i64_w _).symm.trans (hji5z h_)
    obtain rfl := Option.some.inj H
    go_enter Tryd.func77, Tryd.ntmps77
    go_wp2
    go_ret
    exact ⟨by first | rfl | (simp; done) | (simp only [← hji5] <;> (first | rfl | simp)) | (simp [*]; done), by repeat (first | exact Drawn0.refl _ | apply Drawn0.step)⟩
  rw [if_neg c3] at H
  have c3b0 : decide (0 ≤ a0) = false := decide_eq_false c3
  clear c3
  obtain rfl := Option.some.inj H
  go_enter Tryd.func77, Tryd.ntmps77
  go_wp2
  go_ret
  exact ⟨by first | rfl | (simp; done) | (simp [*]; done), by repeat (first | exact Drawn0.refl _ | apply Drawn0.step)⟩

/-! ### pinfoldref1_within_c: function 77 -/
def pinfoldref1_within_c.f (a0 : Int) (a1 : Int) : Option Bool := if a1 = 32 then some (wordB a0) else none
theorem pinfoldref1_within_c.calls (a0 : Int) (a1 : Int) (r : Bool) (w : World) (h : pinfoldref1_within_c.f a0 a1 = some r) :
    Calls Tryd.prog 77 #[.int .i64 a0, .int .i64 a1] w fun e w' => e = .returned (.bool r) ∧ Drawn0 w w' := by
  unfold pinfoldref1_within_c.f at h
  by_cases hs : a1 = 32
  · subst hs
    rw [if_pos rfl] at h
    refine pinfoldref1_within.calls a0 32 r w ?_
    rw [← h]
    unfold pinfoldref1_within.f wordB
    have e : shl .i64 1 32 = 4294967296 := by kernel_rfl
    rw [e]
    by_cases q : a0 ≥ 0
    · rw [if_pos q, if_pos (by decide)]
      congr 1
      rw [Bool.eq_iff_iff, decide_eq_true_eq, decide_eq_true_eq]
      omega
    · rw [if_neg q]
      congr 1
      symm
      rw [decide_eq_false_iff_not]
      omega
  · rw [if_neg hs] at h
    cases h

/-! ### pinfoldref1_RrMay: function 68 -/
-- BY HAND
def pinfoldref1_RrMay.f (a0_0 : ByteArray) (a0_1 : Int) (a0_2 : Int) (a0_3 : Int) (a0_4 : ByteArray) (a0_5 : ByteArray) (a0_6 : Int) : Option Bool := if a0_0.size ≤ 8796093022000 ∧ a0_4.size ≤ 8796093022000 then some (rrB a0_0 a0_1 a0_2 a0_3 a0_4 a0_5 a0_6) else none
set_option maxHeartbeats 8000000 in
set_option maxRecDepth 100000 in
theorem pinfoldref1_RrMay.calls (a0_0 : ByteArray) (a0_1 : Int) (a0_2 : Int) (a0_3 : Int) (a0_4 : ByteArray) (a0_5 : ByteArray) (a0_6 : Int) (r : Bool) (w : World) (h : pinfoldref1_RrMay.f a0_0 a0_1 a0_2 a0_3 a0_4 a0_5 a0_6 = some r) :
    Calls Tryd.prog 68 #[.agg #[.string a0_0, .int .i64 a0_1, .int .i64 a0_2, .int .i64 a0_3, .string a0_4, .string a0_5, .int .i64 a0_6]] w fun e w' => e = .returned (.bool r) ∧ Below w.heap.size w w' := by
  unfold pinfoldref1_RrMay.f at h
  by_cases hs : a0_0.size ≤ 8796093022000 ∧ a0_4.size ≤ 8796093022000
  rotate_left
  · rw [if_neg hs] at h
    cases h
  rw [if_pos hs] at h
  have HR := Aside0.mk (Option.some.inj h)
  obtain ⟨n0, h0⟩ : ∃ b, nameB (bytesOf a0_0) = b := ⟨_, rfl⟩
  obtain ⟨n4, h4⟩ : ∃ b, nameB (bytesOf a0_4) = b := ⟨_, rfl⟩
  have C0 := Aside0.mk (fun W => pinfoldref1_NameMay_c.calls a0_0 n0 W (by unfold pinfoldref1_NameMay_c.f; rw [if_pos hs.1, h0]))
  have C4 := Aside0.mk (fun W => pinfoldref1_NameMay_c.calls a0_4 n4 W (by unfold pinfoldref1_NameMay_c.f; rw [if_pos hs.2, h4]))
  have Cw := Aside0.mk (fun x W => pinfoldref1_within_c.calls x 32 (wordB x) W rfl)
  have H0 := Aside0.mk h0
  have H4 := Aside0.mk h4
  clear h hs h0 h4
  have T4 := Aside0.mk (show a0_4.toList = [] → n4 = true from fun e => by rw [← H4.out, show bytesOf a0_4 = [] from List.length_eq_zero_iff.1 (by rw [bytesOf_length]; exact (toList_nil _).1 e)]; rfl)
  have T5 := Aside0.mk (show a0_5.toList = [] → a0_5.size = 0 from fun e => (toList_nil _).1 e)
  have HB := Aside0.mk (Below.refl w.heap.size w)
  go_enter Tryd.func68, Tryd.ntmps68
  go_wp2_with (first
    | (go_at_call 46; first | ((with_reducible refine (C0.out _).mono ?_); rintro e w1 ⟨rfl, hb1⟩; have hy1 : w.heap.size < w1.heap.size := (by have := hb1.size; simp at this; omega); have hk1 := kept_ hb1 w.heap.size (by first | (simp; done) | (simp; omega)); replace HB := Aside0.mk (below_step (show Below w.heap.size w _ by repeat (with_reducible first | exact HB.out | apply below_alloc | apply pw_below_drewN | apply below_drew1 | refine Below.setCell ?_ (by simp) _)) hb1); clear hb1) | ((with_reducible refine (C4.out _).mono ?_); rintro e w2 ⟨rfl, hb2⟩; have hy2 : w.heap.size < w2.heap.size := (by have := hb2.size; simp at this; omega); have hk2 := kept_ hb2 w.heap.size (by first | (simp; done) | (simp; omega)); replace HB := Aside0.mk (below_step (show Below w.heap.size w _ by repeat (with_reducible first | exact HB.out | apply below_alloc | apply pw_below_drewN | apply below_drew1 | refine Below.setCell ?_ (by simp) _)) hb2); clear hb2))
    | (go_at_call 77; (with_reducible refine (Cw.out _ _).mono ?_); rintro e w3 ⟨rfl, ⟨nd, rfl⟩⟩))
  all_goals go_ret
  all_goals refine ⟨ret_bool ?_, ?_⟩
  all_goals first
    | ((repeat (with_reducible first | exact HB.out | apply below_alloc | apply pw_below_drewN | apply below_drew1 | refine Below.setCell ?_ (by simp) _)); done)
    | (have e0 := H0.out; have e4 := H4.out; have t4 := T4.out; have t5 := T5.out; have w0 : wordB 0 = true := rfl; rw [← HR.out]; simp only [rrB, e0, e4]; clear HR C0 C4 Cw H0 H4; simp_all <;> omega)

/-! ### pinfoldref11_staticMay: function 49 -/
-- BY HAND
def pinfoldref11_staticMay.f (a0_0 : ByteArray) (a0_1 : Int) (a0_2 : Int) (a0_3 : Int) (a0_4 : ByteArray) (a0_5 : ByteArray) (a0_6 : Int) (a1 : ByteArray) : Option Bool := if a0_0.size ≤ 8796093022000 ∧ a0_4.size ≤ 8796093022000 ∧ a1.size ≤ 8796093022000 then some (staticB a1 ⟨a0_0, a0_1, a0_2, a0_3, a0_4, a0_5, a0_6⟩) else none
set_option maxHeartbeats 8000000 in
set_option maxRecDepth 100000 in
theorem pinfoldref11_staticMay.calls (a0_0 : ByteArray) (a0_1 : Int) (a0_2 : Int) (a0_3 : Int) (a0_4 : ByteArray) (a0_5 : ByteArray) (a0_6 : Int) (a1 : ByteArray) (r : Bool) (w : World) (h : pinfoldref11_staticMay.f a0_0 a0_1 a0_2 a0_3 a0_4 a0_5 a0_6 a1 = some r) :
    Calls Tryd.prog 49 #[.agg #[.string a0_0, .int .i64 a0_1, .int .i64 a0_2, .int .i64 a0_3, .string a0_4, .string a0_5, .int .i64 a0_6], .string a1] w fun e w' => e = .returned (.bool r) ∧ Below w.heap.size w w' := by
  unfold pinfoldref11_staticMay.f at h
  by_cases hs : a0_0.size ≤ 8796093022000 ∧ a0_4.size ≤ 8796093022000 ∧ a1.size ≤ 8796093022000
  rotate_left
  · rw [if_neg hs] at h
    cases h
  rw [if_pos hs] at h
  have HR := Option.some.inj h
  unfold staticB at HR
  obtain ⟨b1, h1⟩ : ∃ b, rrB a0_0 a0_1 a0_2 a0_3 a0_4 a0_5 a0_6 = b := ⟨_, rfl⟩
  obtain ⟨b2, h2⟩ : ∃ b, underB (bytesOf a0_0) (bytesOf a1) = b := ⟨_, rfl⟩
  simp only [h1, h2] at HR
  have C1 := Aside0.mk (fun W => pinfoldref1_RrMay.calls a0_0 a0_1 a0_2 a0_3 a0_4 a0_5 a0_6 b1 W (by unfold pinfoldref1_RrMay.f; rw [if_pos ⟨hs.1, hs.2.1⟩, h1]))
  have C2 := Aside0.mk (fun W => pinfoldref1_Under_c.calls a0_0 a1 b2 W (by unfold pinfoldref1_Under_c.f; rw [if_pos ⟨hs.1, hs.2.2⟩, h2]))
  replace HR := Aside0.mk HR
  have HB := Aside0.mk (Below.refl w.heap.size w)
  clear h hs h1 h2
  go_enter Tryd.func49, Tryd.ntmps49
  go_wp2_with (first
    | (go_at_call 68; (with_reducible refine (C1.out _).mono ?_); rintro e w1 ⟨rfl, hb1⟩; have hy1 : w.heap.size < w1.heap.size := (by have := hb1.size; simp at this; omega); have hk1 := kept_ hb1 w.heap.size (by first | (simp; done) | (simp; omega)); replace HB := Aside0.mk (below_step (show Below w.heap.size w _ by repeat (with_reducible first | exact HB.out | apply below_alloc | apply pw_below_drewN | apply below_drew1)) hb1); clear hb1)
    | (go_at_call 59; (with_reducible refine (C2.out _).mono ?_); rintro e w2 ⟨rfl, hb1⟩; replace HB := Aside0.mk (below_step (show Below w.heap.size w _ by repeat (with_reducible first | exact HB.out | apply below_alloc | apply pw_below_drewN | apply below_drew1)) hb1); clear hb1))
  all_goals go_ret
  all_goals refine ⟨ret_bool ?_, ?_⟩
  all_goals first
    | ((repeat (with_reducible first | exact HB.out | apply below_alloc | apply pw_below_drewN | apply below_drew1)); done)
    | (rw [← HR.out]; clear HR C1 C2 HB; simp_all <;> omega)

end Go.Proofs.YtnjnfpnkcapilaaDoor.PConfs
