-- Made by wip/pr.py out of the translation (a turned copy of the kit's print; contracts by hand where said).
import Derived.Test.YtpfanafggmkejaaPSweepsx0
import Derived.Test.YtpfanafggmkejaaPSweepsx2
import Derived.Test.YtpfanafggmkejaaPSweepsx5
import Derived.Test.YtpfanafggmkejaaPSweepsx8
namespace Go.Proofs.Ytpfanafggmkejaa.PSweeps
open Go.RowKit Go.Proofs.YtpfanafggmkejaaW.PrintWords Go.Proofs.YtpfanafggmkejaaW.PrintLast Go.Proofs.YtpfanafggmkejaaW.PrintMore
attribute [local go_sem] max2_int min2_int max_two min_two max_three min_three max_four min_four   -- for this text's walks alone
set_option linter.unusedVariables false
set_option linter.unusedSimpArgs false

/-! ### pinfoldlaw19_Sweeps: function 7 -/
def pinfoldlaw19_Sweeps.j0 : Nat → List (S23) → List (S23) → List (S23) → Bool → Option (Bool)
  | 0, _, _, _, _ => none
  | k + 1, x0, x5, x6, x33 => if x33 = true then (none) else ((pinfoldlaw0_SpoilLeases.f k x6).bind fun t216 => ((pinfoldlaw0_KeptLeases.f k x5 x0).bind fun t217 => (if t217 = true then ((pinfoldlaw19_awake.f k).bind fun t218 => (some t218)) else (none))))
def pinfoldlaw19_Sweeps.f (k : Nat) (l0 : List (S23)) (a1 : Int) : Option (Bool) := (pinfoldlaw0_LendLeases.f l0).bind fun t203 => ((sweep_Sweep.f k t203 a1).bind fun bt206 => ((pinfoldref11_Sweep.f k l0 a1).bind fun bt210 => ((pinfoldlaw0_SameLeases.f k bt206.1 bt210.1).bind fun t214 => (if t214 = true then ((pinfoldlaw0_Num.f bt206.2).bind fun t215 => (pinfoldlaw19_Sweeps.j0 k l0 t203 bt206.1 (t215 != bt210.2))) else (pinfoldlaw19_Sweeps.j0 k l0 t203 bt206.1 true)))))
theorem pinfoldlaw19_Sweeps.mono_l : ∀ k, (∀ y0 y1 y2 y3, LeO (pinfoldlaw19_Sweeps.j0 k y0 y1 y2 y3) (pinfoldlaw19_Sweeps.j0 (k + 1) y0 y1 y2 y3))
  | 0 => fun _ _ _ _ r h => by simp [pinfoldlaw19_Sweeps.j0] at h
  | k + 1 => by
    have ih0 := pinfoldlaw19_Sweeps.mono_l k
    · intro y0 y1 y2 y3
      unfold pinfoldlaw19_Sweeps.j0
      repeat' first
      | (with_reducible exact ih0 _ _ _ _)
      | (with_reducible exact pinfoldlaw0_KeptLeases.mono _ _ _)
      | (with_reducible exact pinfoldlaw0_SameLeases.mono _ _ _)
      | (with_reducible exact pinfoldlaw0_SpoilLeases.mono _ _)
      | (with_reducible exact pinfoldlaw19_awake.mono _)
      | (with_reducible exact pinfoldref11_Sweep.mono _ _ _)
      | (with_reducible exact sweep_Sweep.mono _ _ _)
      | (with_reducible exact LeO.refl _)
      | (with_reducible exact LeO.none _)
      | (with_reducible refine LeO.ite ?_ ?_)
      | (with_reducible refine LeO.bind ?_ (fun _ => ?_))
      | exact ih0 _ _ _ _
      | exact pinfoldlaw0_KeptLeases.mono _ _ _
      | exact pinfoldlaw0_SameLeases.mono _ _ _
      | exact pinfoldlaw0_SpoilLeases.mono _ _
      | exact pinfoldlaw19_awake.mono _
      | exact pinfoldref11_Sweep.mono _ _ _
      | exact sweep_Sweep.mono _ _ _
      | exact LeO.none _
      | refine LeO.ite ?_ ?_
      | refine LeO.bind ?_ (fun _ => ?_)
theorem pinfoldlaw19_Sweeps.mono : ∀ a0 a1 k, LeO (pinfoldlaw19_Sweeps.f k a0 a1) (pinfoldlaw19_Sweeps.f (k + 1) a0 a1) := by
  intro a0 a1 k
  have ih0 := pinfoldlaw19_Sweeps.mono_l k
  unfold pinfoldlaw19_Sweeps.f
  repeat' first
      | (with_reducible exact ih0 _ _ _ _)
      | (with_reducible exact pinfoldlaw0_KeptLeases.mono _ _ _)
      | (with_reducible exact pinfoldlaw0_SameLeases.mono _ _ _)
      | (with_reducible exact pinfoldlaw0_SpoilLeases.mono _ _)
      | (with_reducible exact pinfoldlaw19_awake.mono _)
      | (with_reducible exact pinfoldref11_Sweep.mono _ _ _)
      | (with_reducible exact sweep_Sweep.mono _ _ _)
      | (with_reducible exact LeO.refl _)
      | (with_reducible exact LeO.none _)
      | (with_reducible refine LeO.ite ?_ ?_)
      | (with_reducible refine LeO.bind ?_ (fun _ => ?_))
      | exact ih0 _ _ _ _
      | exact pinfoldlaw0_KeptLeases.mono _ _ _
      | exact pinfoldlaw0_SameLeases.mono _ _ _
      | exact pinfoldlaw0_SpoilLeases.mono _ _
      | exact pinfoldlaw19_awake.mono _
      | exact pinfoldref11_Sweep.mono _ _ _
      | exact sweep_Sweep.mono _ _ _
      | exact LeO.none _
      | refine LeO.ite ?_ ?_
      | refine LeO.bind ?_ (fun _ => ?_)
set_option maxHeartbeats 8000000 in
set_option maxRecDepth 100000 in
theorem pinfoldlaw19_Sweeps.calls (k : Nat) (A0 : Option Addr) (c0 : Nat) (l0 : List (S23)) (a1 : Int) (r : Bool) (w : World) (hr0 : Kd.C k23 w A0 l0.length l0) (hc0 : l0.length ≤ c0) (h : pinfoldlaw19_Sweeps.f k l0 a1 = some r) :
    Calls Try.prog 7 #[.slice A0 l0.length c0, .int .i64 a1] w fun e w' => e = .returned (.bool r) ∧ Below w.heap.size w w' := by
  have HR0 := Aside0.mk hr0
  have HC0 := Aside0.mk hc0
  clear hr0 hc0
  have HB := Aside0.mk (Below.refl w.heap.size w)
  have H : ((pinfoldlaw0_LendLeases.f l0).bind fun t203 => ((sweep_Sweep.f k t203 a1).bind fun bt206 => ((pinfoldref11_Sweep.f k l0 a1).bind fun bt210 => ((pinfoldlaw0_SameLeases.f k bt206.1 bt210.1).bind fun t214 => (if t214 = true then ((pinfoldlaw0_Num.f bt206.2).bind fun t215 => (pinfoldlaw19_Sweeps.j0 k l0 t203 bt206.1 (t215 != bt210.2))) else (pinfoldlaw19_Sweeps.j0 k l0 t203 bt206.1 true)))))) = some r := h
  clear h
  replace H := Option.bind_eq_some_iff.mp H
  obtain ⟨t203, A30, H⟩ := H
  replace H : ((sweep_Sweep.f k t203 a1).bind fun bt206 => ((pinfoldref11_Sweep.f k l0 a1).bind fun bt210 => ((pinfoldlaw0_SameLeases.f k bt206.1 bt210.1).bind fun t214 => (if t214 = true then ((pinfoldlaw0_Num.f bt206.2).bind fun t215 => (pinfoldlaw19_Sweeps.j0 k l0 t203 bt206.1 (t215 != bt210.2))) else (pinfoldlaw19_Sweeps.j0 k l0 t203 bt206.1 true))))) = some r := H
  have A3 := Aside0.mk A30
  clear A30
  replace H := Option.bind_eq_some_iff.mp H
  obtain ⟨⟨t206, t207⟩, A40, H⟩ := H
  replace H : ((pinfoldref11_Sweep.f k l0 a1).bind fun bt210 => ((pinfoldlaw0_SameLeases.f k t206 bt210.1).bind fun t214 => (if t214 = true then ((pinfoldlaw0_Num.f t207).bind fun t215 => (pinfoldlaw19_Sweeps.j0 k l0 t203 t206 (t215 != bt210.2))) else (pinfoldlaw19_Sweeps.j0 k l0 t203 t206 true)))) = some r := H
  have A4 := Aside0.mk A40
  clear A40
  replace H := Option.bind_eq_some_iff.mp H
  obtain ⟨⟨t210, t211⟩, A50, H⟩ := H
  replace H : ((pinfoldlaw0_SameLeases.f k t206 t210).bind fun t214 => (if t214 = true then ((pinfoldlaw0_Num.f t207).bind fun t215 => (pinfoldlaw19_Sweeps.j0 k l0 t203 t206 (t215 != t211))) else (pinfoldlaw19_Sweeps.j0 k l0 t203 t206 true))) = some r := H
  have A5 := Aside0.mk A50
  clear A50
  have HC6 := Aside0.mk H
  clear H
  go_enter Try.func7, Try.ntmps7
  go_upto_region 4 with (first | ((with_reducible refine gate_callee (f := 21) rfl ?_); refine goesL_ (some 11) rfl rfl Try.func21 (by kernel_rfl) rfl #[.slice A0 l0.length c0] rfl (by (try simp only [List.map_toArray, List.map_cons, List.map_nil]); first | done | rfl | (simp only [List.length_drop, List.length_take]; rfl)) ?_; (with_reducible refine (pinfoldlaw0_LendLeases.calls _ _ l0 t203 _ ?side1 ?side2 A3.out).mono ?_); (case side1 => repeat (first | exact HR0.out | (with_reducible refine Kd.C_alloc ?_ _) | (with_reducible refine Kd.C_drewN ?_ _) | (with_reducible refine Kd.C_drew ?_))); (case side2 => exact HC0.out); rintro e w7 ⟨Ao8, co8, rfl, ho0, hb⟩; refine ⟨_, rfl, ?_⟩; have n0_ := Aside0.mk (Kd.R_lower ho0 (below_size (by repeat (with_reducible first | exact HB.out | apply below_alloc | apply pw_below_drewN | apply below_drew1)))); have n1_ := Aside0.mk (below_step (by repeat (with_reducible first | exact HB.out | apply below_alloc | apply pw_below_drewN | apply below_drew1)) hb); clear HB; have HO205 := n0_; have HB := n1_; clear n0_ n1_; (try clear hb); (try clear ho0)) | ((with_reducible refine gate_callee (f := 22) rfl ?_); refine goesL_ (some 15) rfl rfl Try.func22 (by kernel_rfl) rfl #[.slice Ao8 t203.length co8, .int .i64 a1] rfl (by (try simp only [List.map_toArray, List.map_cons, List.map_nil]); first | done | rfl | (simp only [List.length_drop, List.length_take]; rfl)) ?_; (with_reducible refine (sweep_Sweep.calls k _ _ t203 a1 t206 t207 _ ?side1 ?side2 A4.out).mono ?_); (case side1 => repeat (first | exact (Kd.R_reads' HO205.out).2.2 | exact (pinfoldlaw0_LendLeases.lent HO205.out).1 |  (with_reducible refine Kd.C_alloc ?_ _) | (with_reducible refine Kd.C_drewN ?_ _) | (with_reducible refine Kd.C_drew ?_))); (case side2 => first | exact (Kd.R_reads' HO205.out).2.1 | exact (pinfoldlaw0_LendLeases.lent HO205.out).2); rintro e w9 ⟨v208, rfl, ho0, hb⟩; refine ⟨_, rfl, ?_⟩; have n0_ := Aside0.mk (Kd.R_elder' (by (with_reducible repeat (first | apply Kd.R_alloc | apply Kd.R_drewN | apply Kd.R_drew)); exact HO205.out) (Kd.R_base ho0) hb); have n1_ := Aside0.mk (Kd.R_lower (Kd.R_new' ho0 (Kd.R_lt (by (with_reducible repeat (first | apply Kd.R_alloc | apply Kd.R_drewN | apply Kd.R_drew)); exact HO205.out))) (below_size (by repeat (with_reducible first | exact HB.out | apply below_alloc | apply pw_below_drewN | apply below_drew1)))); have n2_ := Aside0.mk (below_step (by repeat (with_reducible first | exact HB.out | apply below_alloc | apply pw_below_drewN | apply below_drew1)) hb); clear HO205; clear HB; have HO205 := n0_; have HO209 := n1_; have HB := n2_; clear n0_ n1_ n2_; (try clear hb); (try clear ho0)) | ((with_reducible refine gate_callee (f := 23) rfl ?_); refine goesL_ (some 21) rfl rfl Try.func23 (by kernel_rfl) rfl #[.slice A0 l0.length c0, .int .i64 a1] rfl (by (try simp only [List.map_toArray, List.map_cons, List.map_nil]); first | done | rfl | (simp only [List.length_drop, List.length_take]; rfl)) ?_; (with_reducible refine (pinfoldref11_Sweep.calls k _ _ l0 a1 t210 t211 _ ?side1 ?side2 A5.out).mono ?_); (case side1 => repeat (first | exact (Kd.C_below HR0.out HB.out) | (with_reducible refine Kd.C_alloc ?_ _) | (with_reducible refine Kd.C_drewN ?_ _) | (with_reducible refine Kd.C_drew ?_))); (case side2 => exact HC0.out); rintro e w10 ⟨v212, rfl, ho0, hb⟩; refine ⟨_, rfl, ?_⟩; have n0_ := Aside0.mk (Kd.R_elder' (by (with_reducible repeat (first | apply Kd.R_alloc | apply Kd.R_drewN | apply Kd.R_drew)); exact HO205.out) (Kd.R_base ho0) hb); have n1_ := Aside0.mk (Kd.R_elder' (by (with_reducible repeat (first | apply Kd.R_alloc | apply Kd.R_drewN | apply Kd.R_drew)); exact HO209.out) (Kd.R_base ho0) hb); have n2_ := Aside0.mk (Kd.R_lower (Kd.R_new' (Kd.R_new' ho0 (Kd.R_lt (by (with_reducible repeat (first | apply Kd.R_alloc | apply Kd.R_drewN | apply Kd.R_drew)); exact HO205.out))) (Kd.R_lt (by (with_reducible repeat (first | apply Kd.R_alloc | apply Kd.R_drewN | apply Kd.R_drew)); exact HO209.out))) (below_size (by repeat (with_reducible first | exact HB.out | apply below_alloc | apply pw_below_drewN | apply below_drew1)))); have n3_ := Aside0.mk (below_step (by repeat (with_reducible first | exact HB.out | apply below_alloc | apply pw_below_drewN | apply below_drew1)) hb); clear HO205; clear HO209; clear HB; have HO205 := n0_; have HO209 := n1_; have HO213 := n2_; have HB := n3_; clear n0_ n1_ n2_ n3_; (try clear hb); (try clear ho0)))
  (try simp only [Act.put, List.setIfInBounds_toArray, List.set_cons_zero, List.set_cons_succ])
  go_cut [33] (fun v33 wc => ∃ (kq : Nat) (x33_5 : Bool), v33 = .bool x33_5 ∧ Aside0 (pinfoldlaw19_Sweeps.j0 kq l0 t203 t206 x33_5 = some r) ∧ Aside0 (kq ≤ k) ∧ Aside0 (Kd.R k23 23 wc w.heap.size (fun k_ => some k_ ≠ (v208 : Value).ownBlock) (.slice Ao8 (pinfoldlaw0_LendLeases.full t203).length co8) (pinfoldlaw0_LendLeases.full t203)) ∧ Aside0 (Kd.R k23 23 wc w.heap.size (fun k_ => some k_ ≠ ((.slice Ao8 (pinfoldlaw0_LendLeases.full t203).length co8) : Value).ownBlock) v208 t206) ∧ Aside0 (Below w.heap.size w wc))
  case first =>
    have H := HC6.out
    clear HC6
    replace H := Option.bind_eq_some_iff.mp H
    obtain ⟨t214, A110, H⟩ := H
    replace H : (if t214 = true then ((pinfoldlaw0_Num.f t207).bind fun t215 => (pinfoldlaw19_Sweeps.j0 k l0 t203 t206 (t215 != t211))) else (pinfoldlaw19_Sweeps.j0 k l0 t203 t206 true)) = some r := H
    have A11 := Aside0.mk A110
    clear A110
    by_cases c12 : t214 = true
    · subst c12
      have H1 : ((pinfoldlaw0_Num.f t207).bind fun t215 => (pinfoldlaw19_Sweeps.j0 k l0 t203 t206 (t215 != t211))) = some r := by rw [if_pos rfl] at H; exact H
      clear H
      have H := H1
      clear H1
      replace H := Option.bind_eq_some_iff.mp H
      obtain ⟨t215, A130, H⟩ := H
      replace H : (pinfoldlaw19_Sweeps.j0 k l0 t203 t206 (t215 != t211)) = some r := H
      have A13 := Aside0.mk A130
      clear A130
      have H' := Aside0.mk H
      clear H
      obtain ⟨Ao14, co14, eo14⟩ := Kd.R_slice HO209.out
      subst eo14
      obtain ⟨Ao15, co15, eo15⟩ := Kd.R_slice HO213.out
      subst eo15
      go_wp2_with (first | ((with_reducible refine gate_callee (f := 24) rfl ?_); refine goesL_ (some 26) rfl rfl Try.func24 (by kernel_rfl) rfl #[.slice Ao14 t206.length co14, .slice Ao15 t210.length co15] rfl (by (try simp only [List.map_toArray, List.map_cons, List.map_nil]); first | done | rfl | (simp only [List.length_drop, List.length_take]; rfl)) ?_; (with_reducible refine (pinfoldlaw0_SameLeases.calls k _ _ t206 _ _ t210 true _ ?side1 ?side2 ?side3 ?side4 A11.out).mono ?_); (case side1 => repeat (first | exact (Kd.R_reads' HO209.out).2.2 | exact (pinfoldlaw0_LendLeases.lent HO209.out).1 |  (with_reducible refine Kd.C_alloc ?_ _) | (with_reducible refine Kd.C_drewN ?_ _) | (with_reducible refine Kd.C_drew ?_))); (case side2 => first | exact (Kd.R_reads' HO209.out).2.1 | exact (pinfoldlaw0_LendLeases.lent HO209.out).2); (case side3 => repeat (first | exact (Kd.R_reads' HO213.out).2.2 | exact (pinfoldlaw0_LendLeases.lent HO213.out).1 |  (with_reducible refine Kd.C_alloc ?_ _) | (with_reducible refine Kd.C_drewN ?_ _) | (with_reducible refine Kd.C_drew ?_))); (case side4 => first | exact (Kd.R_reads' HO213.out).2.1 | exact (pinfoldlaw0_LendLeases.lent HO213.out).2); rintro e w' ⟨rfl, ⟨nd, rfl⟩⟩; refine ⟨_, rfl, ?_⟩) | (go_at_call 20; (with_reducible refine (pinfoldlaw0_Num.calls t207 t215 _ A13.out).mono ?_); rintro e w' ⟨rfl, ⟨nd, rfl⟩⟩))
      go_meet
      case rel => exact ⟨_, ((t215 != t211)), (by first | rfl | (simp; done) | (simp [*]; done)), H', ⟨by first | omega | exact Nat.le_refl _⟩, ⟨by (with_reducible repeat (first | apply Kd.R_alloc | apply Kd.R_drewN | apply Kd.R_drew)); exact Kd.R_mono HO205.out (fun _ hk => hk.1.2)⟩, ⟨by (with_reducible repeat (first | apply Kd.R_alloc | apply Kd.R_drewN | apply Kd.R_drew)); exact Kd.R_mono HO209.out (fun _ hk => hk.1.2)⟩, ⟨by repeat (with_reducible first | exact HB.out | apply below_alloc | apply pw_below_drewN | apply below_drew1)⟩⟩
    replace c12 := Bool.eq_false_iff.mpr c12
    subst c12
    have H1 : (pinfoldlaw19_Sweeps.j0 k l0 t203 t206 true) = some r := by rw [if_neg (show ¬ (false = true) by decide)] at H; exact H
    clear H
    have H := H1
    clear H1
    have H' := Aside0.mk H
    clear H
    obtain ⟨Ao16, co16, eo16⟩ := Kd.R_slice HO209.out
    subst eo16
    obtain ⟨Ao17, co17, eo17⟩ := Kd.R_slice HO213.out
    subst eo17
    go_wp2_with (first | ((with_reducible refine gate_callee (f := 24) rfl ?_); refine goesL_ (some 26) rfl rfl Try.func24 (by kernel_rfl) rfl #[.slice Ao16 t206.length co16, .slice Ao17 t210.length co17] rfl (by (try simp only [List.map_toArray, List.map_cons, List.map_nil]); first | done | rfl | (simp only [List.length_drop, List.length_take]; rfl)) ?_; (with_reducible refine (pinfoldlaw0_SameLeases.calls k _ _ t206 _ _ t210 false _ ?side1 ?side2 ?side3 ?side4 A11.out).mono ?_); (case side1 => repeat (first | exact (Kd.R_reads' HO209.out).2.2 | exact (pinfoldlaw0_LendLeases.lent HO209.out).1 |  (with_reducible refine Kd.C_alloc ?_ _) | (with_reducible refine Kd.C_drewN ?_ _) | (with_reducible refine Kd.C_drew ?_))); (case side2 => first | exact (Kd.R_reads' HO209.out).2.1 | exact (pinfoldlaw0_LendLeases.lent HO209.out).2); (case side3 => repeat (first | exact (Kd.R_reads' HO213.out).2.2 | exact (pinfoldlaw0_LendLeases.lent HO213.out).1 |  (with_reducible refine Kd.C_alloc ?_ _) | (with_reducible refine Kd.C_drewN ?_ _) | (with_reducible refine Kd.C_drew ?_))); (case side4 => first | exact (Kd.R_reads' HO213.out).2.1 | exact (pinfoldlaw0_LendLeases.lent HO213.out).2); rintro e w' ⟨rfl, ⟨nd, rfl⟩⟩; refine ⟨_, rfl, ?_⟩))
    go_meet
    case rel => exact ⟨_, (true), (by first | rfl | (simp; done) | (simp [*]; done)), H', ⟨by first | omega | exact Nat.le_refl _⟩, ⟨by (with_reducible repeat (first | apply Kd.R_alloc | apply Kd.R_drewN | apply Kd.R_drew)); exact Kd.R_mono HO205.out (fun _ hk => hk.1.2)⟩, ⟨by (with_reducible repeat (first | apply Kd.R_alloc | apply Kd.R_drewN | apply Kd.R_drew)); exact Kd.R_mono HO209.out (fun _ hk => hk.1.2)⟩, ⟨by repeat (with_reducible first | exact HB.out | apply below_alloc | apply pw_below_drewN | apply below_drew1)⟩⟩
  case rest =>
    clear HC6
    obtain ⟨kq, x33_5, rfl, HA, HJ5, HO_5, HO_6, HB⟩ := hcut
    cases kq with
    | zero => exact absurd HA.out (by simp [pinfoldlaw19_Sweeps.j0])
    | succ kj5 =>
      have H := HA.out
      clear HA
      simp only [pinfoldlaw19_Sweeps.j0] at H
      by_cases c18 : x33_5 = true
      · subst c18
        have H1 : (none) = some r := by rw [if_pos rfl] at H; exact H
        clear H
        have H := H1
        clear H1
        exact absurd H (by simp)
      replace c18 := Bool.eq_false_iff.mpr c18
      subst c18
      have H1 : ((pinfoldlaw0_SpoilLeases.f kj5 t206).bind fun t216 => ((pinfoldlaw0_KeptLeases.f kj5 t203 l0).bind fun t217 => (if t217 = true then ((pinfoldlaw19_awake.f kj5).bind fun t218 => (some t218)) else (none)))) = some r := by rw [if_neg (show ¬ (false = true) by decide)] at H; exact H
      clear H
      have H := H1
      clear H1
      replace H := Option.bind_eq_some_iff.mp H
      obtain ⟨t216, A190, H⟩ := H
      replace H : ((pinfoldlaw0_KeptLeases.f kj5 t203 l0).bind fun t217 => (if t217 = true then ((pinfoldlaw19_awake.f kj5).bind fun t218 => (some t218)) else (none))) = some r := H
      have A19 := Aside0.mk A190
      clear A190
      replace H := Option.bind_eq_some_iff.mp H
      obtain ⟨t217, A200, H⟩ := H
      replace H : (if t217 = true then ((pinfoldlaw19_awake.f kj5).bind fun t218 => (some t218)) else (none)) = some r := H
      have A20 := Aside0.mk A200
      clear A200
      by_cases c21 : t217 = true
      · subst c21
        have H1 : ((pinfoldlaw19_awake.f kj5).bind fun t218 => (some t218)) = some r := by rw [if_pos rfl] at H; exact H
        clear H
        have H := H1
        clear H1
        replace H := Option.bind_eq_some_iff.mp H
        obtain ⟨t218, A220, H⟩ := H
        replace H : (some t218) = some r := H
        have A22 := Aside0.mk A220
        clear A220
        obtain rfl := Option.some.inj H
        obtain ⟨Ao23, co23, eo23⟩ := Kd.R_slice HO_6.out
        subst eo23
        go_wp2_with (first | ((with_reducible refine gate_callee (f := 25) rfl ?_); refine goesL_ (some 35) rfl rfl Try.func25 (by kernel_rfl) rfl #[.slice Ao23 t206.length co23] rfl (by (try simp only [List.map_toArray, List.map_cons, List.map_nil]); first | done | rfl | (simp only [List.length_drop, List.length_take]; rfl)) ?_; (with_reducible refine (pinfoldlaw0_SpoilLeases.calls kj5 (fun k_ => some k_ = (.slice Ao23 t206.length co23 : Value).ownBlock) (.slice Ao23 t206.length co23) t206 t216 w _ ?side1 ?side2 A19.out).mono ?_); (case side1 => repeat (with_reducible first | exact HB.out | apply below_alloc | apply pw_below_drewN | apply below_drew1)); (case side2 => exact Kd.R_tight rfl HO_6.out); rintro e w24 ⟨rfl, hy0, hb, hkp⟩; refine ⟨_, rfl, ?_⟩; have n0_ := Aside0.mk (Kd.R_mono (ok' := fun k_ => some k_ ≠ (.slice Ao23 t206.length co23 : Value).ownBlock) (Kd.R_keptB (HO_5.out) hkp (fun k_ hk_ hs_ => (hk_) hs_)) (fun k_ hk_ => hk_.1)); have n1_ := Aside0.mk (Kd.R_reok rfl hy0 (fun k_ e_ => HO_6.out.1 k_ e_)); have n2_ := Aside0.mk (hb); clear HO_5; clear HO_6; clear HB; have HO_5 := n0_; have HO_6 := n1_; have HB := n2_; clear n0_ n1_ n2_; (try clear hb); (try clear hkp); (try clear hy0)) | ((with_reducible refine gate_callee (f := 26) rfl ?_); refine goesL_ (some 38) rfl rfl Try.func26 (by kernel_rfl) rfl #[.slice Ao8 t203.length co8, .slice A0 l0.length c0] rfl (by (try simp only [List.map_toArray, List.map_cons, List.map_nil]); first | done | rfl | (simp only [List.length_drop, List.length_take]; rfl)) ?_; (with_reducible refine (pinfoldlaw0_KeptLeases.calls kj5 _ _ t203 _ _ l0 true _ ?side1 ?side2 ?side3 ?side4 A20.out).mono ?_); (case side1 => repeat (first | exact (Kd.R_reads' HO_5.out).2.2 | exact (pinfoldlaw0_LendLeases.lent HO_5.out).1 |  (with_reducible refine Kd.C_alloc ?_ _) | (with_reducible refine Kd.C_drewN ?_ _) | (with_reducible refine Kd.C_drew ?_))); (case side2 => first | exact (Kd.R_reads' HO_5.out).2.1 | exact (pinfoldlaw0_LendLeases.lent HO_5.out).2); (case side3 => repeat (first | exact (Kd.C_below HR0.out HB.out) | (with_reducible refine Kd.C_alloc ?_ _) | (with_reducible refine Kd.C_drewN ?_ _) | (with_reducible refine Kd.C_drew ?_))); (case side4 => exact HC0.out); rintro e w' ⟨rfl, ⟨nd, rfl⟩⟩; refine ⟨_, rfl, ?_⟩) | (go_at_call 27; (with_reducible refine (pinfoldlaw19_awake.calls kj5  t218 _ A22.out).mono ?_); rintro e w25 ⟨rfl, hb⟩; have n0_ := Aside0.mk (Kd.R_below (by (with_reducible repeat (first | apply Kd.R_alloc | apply Kd.R_drewN | apply Kd.R_drew)); exact HO_5.out) hb); have n1_ := Aside0.mk (Kd.R_below (by (with_reducible repeat (first | apply Kd.R_alloc | apply Kd.R_drewN | apply Kd.R_drew)); exact HO_6.out) hb); have n2_ := Aside0.mk (below_step (by repeat (with_reducible first | exact HB.out | apply below_alloc | apply pw_below_drewN | apply below_drew1)) hb); clear HO_5; clear HO_6; clear HB; have HO_5 := n0_; have HO_6 := n1_; have HB := n2_; clear n0_ n1_ n2_; (try clear hb)))
        go_ret
        exact ⟨by first | rfl | (simp [errW_none, errW_some] <;> rfl) | (simp [*, errW_none, errW_some] <;> rfl), by repeat (with_reducible first | exact HB.out | apply below_alloc | apply pw_below_drewN | apply below_drew1)⟩
      replace c21 := Bool.eq_false_iff.mpr c21
      subst c21
      have H1 : (none) = some r := by rw [if_neg (show ¬ (false = true) by decide)] at H; exact H
      clear H
      have H := H1
      clear H1
      exact absurd H (by simp)

/-- THE ONE PURE STATEMENT of pinfoldlaw19_Sweeps. -/
def pinfoldlaw19_Sweeps.Pure : Prop := ∀ (l0 : List (S23)) (a1 : Int), (l0.length ≤ 1048576 ∧ ∀ y0_ ∈ l0, ((Lit.int .i64 y0_.f0).wf = true ∧ ((Lit.int .i64 y0_.f1).wf = true ∧ (y0_.f2.size ≤ 1048576 ∧ ((Lit.int .i64 y0_.f3).wf = true ∧ (y0_.f4.size ≤ 1048576 ∧ True)))))) → (Lit.int .i64 a1).wf = true → ∃ k, pinfoldlaw19_Sweeps.f k l0 a1 = some true
theorem pinfoldlaw19_Sweeps.walk (P : pinfoldlaw19_Sweeps.Pure) (A0 : Option Addr) (c0 : Nat) (l0 : List (S23)) (a1 : Int) (w : World) (hr0 : Kd.C k23 w A0 l0.length l0) (hc0 : l0.length ≤ c0) (w0 : (l0.length ≤ 1048576 ∧ ∀ y0_ ∈ l0, ((Lit.int .i64 y0_.f0).wf = true ∧ ((Lit.int .i64 y0_.f1).wf = true ∧ (y0_.f2.size ≤ 1048576 ∧ ((Lit.int .i64 y0_.f3).wf = true ∧ (y0_.f4.size ≤ 1048576 ∧ True))))))) (w1 : (Lit.int .i64 a1).wf = true) :
    Calls Try.prog 7 #[.slice A0 l0.length c0, .int .i64 a1] w fun e w' => e = .returned (.bool true) ∧ Below w.heap.size w w' := by
  obtain ⟨k, h⟩ := P l0 a1 w0 w1
  refine (pinfoldlaw19_Sweeps.calls k _ _ l0 a1 true w hr0 hc0 h).mono ?_
  rintro e w' ⟨rfl, hd⟩
  exact ⟨rfl, hd⟩

end Go.Proofs.Ytpfanafggmkejaa.PSweeps
