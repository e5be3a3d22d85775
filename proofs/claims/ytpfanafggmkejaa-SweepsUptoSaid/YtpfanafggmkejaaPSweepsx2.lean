-- Made by wip/pr.py out of the translation (a turned copy of the kit's print; contracts by hand where said).
import Derived.Test.YtpfanafggmkejaaPSweepsx0
namespace Go.Proofs.Ytpfanafggmkejaa.PSweeps
open Go.RowKit Go.Proofs.YtpfanafggmkejaaW.PrintWords Go.Proofs.YtpfanafggmkejaaW.PrintLast Go.Proofs.YtpfanafggmkejaaW.PrintMore
attribute [local go_sem] max2_int min2_int max_two min_two max_three min_three max_four min_four   -- for this text's walks alone
set_option linter.unusedVariables false
set_option linter.unusedSimpArgs false

/-! ### pinfoldlaw0_Num: function 20 -/
def pinfoldlaw0_Num.f (a0 : Int) : Option (Int) := some a0
set_option maxHeartbeats 8000000 in
set_option maxRecDepth 100000 in
theorem pinfoldlaw0_Num.calls (a0 : Int) (r : Int) (w : World) (h : pinfoldlaw0_Num.f a0 = some r) :
    Calls Try.prog 20 #[.int .i64 a0] w fun e w' => e = .returned (.int .i64 r) ∧ Drawn0 w w' := by
  have H : (some a0) = some r := h
  clear h
  obtain rfl := Option.some.inj H
  go_enter Try.func20, Try.ntmps20
  go_wp2
  go_ret
  exact ⟨by first | rfl | (simp; done) | (simp [*]; done), by repeat (first | exact Drawn0.refl _ | apply Drawn0.step)⟩

/-! ### pinfoldlaw0_CopyLeases: function 41 -/
def pinfoldlaw0_CopyLeases.f (l0 : List (S23)) : Option ((List (S23))) := (some (([] : List (S23)) : List (S23))).bind fun y101 => (if y101.length + l0.length < 2199023255552 then (some (y101 ++ l0)) else (none))
set_option maxHeartbeats 8000000 in
set_option maxRecDepth 100000 in
theorem pinfoldlaw0_CopyLeases.calls (A0 : Option Addr) (c0 : Nat) (l0 : List (S23)) (r : List (S23)) (w : World) (hr0 : Kd.C k23 w A0 l0.length l0) (hc0 : l0.length ≤ c0) (h : pinfoldlaw0_CopyLeases.f l0 = some r) :
    Calls Try.prog 41 #[.slice A0 l0.length c0] w fun e w' => ∃ v0_ : Value, e = .returned (v0_) ∧ Kd.R k23 23 w' w.heap.size (fun _ => True) v0_ r ∧ Below w.heap.size w w' := by
  have HR0 := Aside0.mk hr0
  have HC0 := Aside0.mk hc0
  clear hr0 hc0
  have HB := Aside0.mk (Below.refl w.heap.size w)
  have H : ((some (([] : List (S23)) : List (S23))).bind fun y101 => (if y101.length + l0.length < 2199023255552 then (some (y101 ++ l0)) else (none))) = some r := h
  clear h
  obtain ⟨y101, hy101⟩ : ∃ y_ : List (S23), y_ = (([] : List (S23))) := ⟨_, rfl⟩
  replace H : (if y101.length + l0.length < 2199023255552 then (some (y101 ++ l0)) else (none)) = some r := by first | (rw [hy101]; with_reducible exact H) | (have H2_ := (Option.bind_some _ _).symm.trans H; rw [hy101]; with_reducible exact H2_) | (have H2_ := (Option.bind_some _ _).symm.trans H; with_reducible exact H2_) | with_reducible exact H | (rw [hy101]; exact H) | exact H
  have Ny101 := Aside0.mk hy101
  clear hy101
  by_cases c2 : y101.length + l0.length < 2199023255552
  rotate_left
  · rw [if_neg c2] at H
    exact absurd H (by simp)
  rw [if_pos c2] at H
  have LMc2 := Aside0.mk c2
  clear c2
  obtain ⟨y104, hy104⟩ : ∃ y_ : List (S23), y_ = (y101 ++ l0) := ⟨_, rfl⟩
  replace H : (some y104) = some r := by first | (rw [hy104]; with_reducible exact H) | (have H2_ := (Option.bind_some _ _).symm.trans H; rw [hy104]; with_reducible exact H2_) | (have H2_ := (Option.bind_some _ _).symm.trans H; with_reducible exact H2_) | with_reducible exact H | (rw [hy104]; exact H) | exact H
  have Ny104 := Aside0.mk hy104
  clear hy104
  obtain rfl := Option.some.inj H
  go_enter Try.func41, Try.ntmps41
  go_wp2_with (first | ((with_reducible refine gate_dst (N := 3) rfl ?_); refine Kd.R_lit k23 _ 23 ?hg (N := 3) ?hd (xs := ([] : List (S23))) (inner := []) (ok := fun _ => True) (okp := fun _ => True) ?hr ?hp (fun _ hk => hk) trivial (Below.refl _ _) (Nat.le_refl _) (by simp) ?_; (case hd => rfl); (case hg => rfl); (case hr => first | (go_simp; done) | (go_simp; rfl)); (case hp => exact (Reps.none _ _)); intro v102 w3 ho4 hb hg_ hnew_; clear hg_ hnew_; (first | rw [← Ny101.out] at ho4 | (simp only [Int.reduceToNat] at ho4; rw [← Ny101.out] at ho4)); have n0_ := Aside0.mk (Kd.R_lower ho4 (below_size (by repeat (with_reducible first | exact HB.out | apply below_alloc | apply pw_below_drewN | apply below_drew1)))); have n1_ := Aside0.mk (below_step (by repeat (with_reducible first | exact HB.out | apply below_alloc | apply pw_below_drewN | apply below_drew1)) hb); clear HB; have HO103 := n0_; have HB := n1_; clear n0_ n1_; clear hb ho4) | ((with_reducible refine gate_builtin (b := .append) (xs := #[.tmp 3, .tmp 4]) rfl ?_); at_builtin; refine Kd.R_append_rows k23 (w0 := w) w.heap.size rfl (.tmp 3) (.tmp 4) 33 23 (.agg #[(.int .i64 0), (.int .i64 0), (.string ⟨#[]⟩), (.int .i64 0), (.string ⟨#[]⟩), (.bool false)]) 64 rfl Try.underlying33 info23 rfl (by decide) (by omega) v102 y101 l0 _ _ _ (fun _ => True) (fun _ => False) rfl rfl ?aO ?aR (fun _ _ h => h) (fun _ h => h.elim) ?aF ?aB ?aS ?aL ?_; (case aR => repeat (first | exact (Kd.C_below HR0.out HB.out) | (with_reducible refine Kd.C_alloc ?_ _) | (with_reducible refine Kd.C_drewN ?_ _) | (with_reducible refine Kd.C_drew ?_))); (case aB => exact (by repeat (with_reducible first | exact HB.out | apply below_alloc | apply pw_below_drewN | apply below_drew1))); (case aF => exact (fun _ _ => trivial)); (case aO => exact (by (with_reducible repeat (first | apply Kd.R_alloc | apply Kd.R_drewN | apply Kd.R_drew)); exact HO103.out)); (case aS => exact (below_size (by repeat (with_reducible first | exact HB.out | apply below_alloc | apply pw_below_drewN | apply below_drew1)))); (case aL => have := LMc2.out; omega); intro v105 w5 ho hb hg hat; rw [← Ny104.out] at ho; have n0_ := Aside0.mk (hb); have n1_ := Aside0.mk (ho); clear HB; clear HO103; have HB := n0_; have HO106 := n1_; clear n0_ n1_; clear ho hb hg hat))
  go_ret
  exact ⟨_, by first | rfl | (simp [errW_none, errW_some] <;> rfl) | (simp [*, errW_none, errW_some] <;> rfl), by (with_reducible repeat (first | apply Kd.R_alloc | apply Kd.R_drewN | apply Kd.R_drew)); exact HO106.out, by repeat (with_reducible first | exact HB.out | apply below_alloc | apply pw_below_drewN | apply below_drew1)⟩

/-! ### pinfoldlaw0_LendLeases: function 21 -/
-- BY HAND
-- what is lent: a row of its own with two leases behind its end.
def pinfoldlaw0_LendLeases.tl : List S23 := [(⟨77777, 0, (⟨#[]⟩ : ByteArray), 0, (⟨#[]⟩ : ByteArray), false⟩ : S23), (⟨77777, 0, (⟨#[]⟩ : ByteArray), 0, (⟨#[]⟩ : ByteArray), false⟩ : S23)]
def pinfoldlaw0_LendLeases.full (l : List S23) : List S23 := l ++ pinfoldlaw0_LendLeases.tl
theorem pinfoldlaw0_LendLeases.full_length (l : List S23) : (pinfoldlaw0_LendLeases.full l).length = l.length + 2 := by
  unfold pinfoldlaw0_LendLeases.full
  rw [List.length_append]
  rfl
theorem pinfoldlaw0_LendLeases.front {w : World} {A : Option Addr} {l : List S23} (h : Kd.C k23 w A (pinfoldlaw0_LendLeases.full l).length (pinfoldlaw0_LendLeases.full l)) : Kd.C k23 w A l.length l := by
  have h1 := Kd.C_take (m := l.length) h (by rw [pinfoldlaw0_LendLeases.full_length]; omega)
  unfold pinfoldlaw0_LendLeases.full at h1
  rw [List.take_left] at h1
  exact h1
theorem pinfoldlaw0_LendLeases.lent {w : World} {base : Nat} {ok : Nat → Prop} {A : Option Addr} {c : Nat} {l : List S23} (h : Kd.R k23 23 w base ok (.slice A (pinfoldlaw0_LendLeases.full l).length c) (pinfoldlaw0_LendLeases.full l)) : Kd.C k23 w A l.length l ∧ l.length ≤ c := by
  refine ⟨pinfoldlaw0_LendLeases.front (Kd.R_reads' h).2.2, ?_⟩
  have := (Kd.R_reads' h).2.1
  rw [pinfoldlaw0_LendLeases.full_length] at this
  omega
def pinfoldlaw0_LendLeases.f (l0 : List (S23)) : Option ((List (S23))) := if l0.length + 2 < 2199023255552 then some l0 else none
set_option maxHeartbeats 8000000 in
set_option maxRecDepth 100000 in
theorem pinfoldlaw0_LendLeases.calls (A0 : Option Addr) (c0 : Nat) (l0 : List (S23)) (r : List (S23)) (w : World) (hr0 : Kd.C k23 w A0 l0.length l0) (hc0 : l0.length ≤ c0) (h : pinfoldlaw0_LendLeases.f l0 = some r) :
    Calls Try.prog 21 #[.slice A0 l0.length c0] w fun e w' => ∃ (A : Option Addr) (c : Nat), e = .returned (.slice A r.length c) ∧ Kd.R k23 23 w' w.heap.size (fun _ => True) (.slice A (pinfoldlaw0_LendLeases.full r).length c) (pinfoldlaw0_LendLeases.full r) ∧ Below w.heap.size w w' := by
  have hu := Try.underlying23
  unfold pinfoldlaw0_LendLeases.f at h
  by_cases hlim : l0.length + 2 < 2199023255552
  rotate_left
  · rw [if_neg hlim] at h
    exact absurd h (by simp)
  rw [if_pos hlim] at h
  obtain rfl := Option.some.inj h
  clear h
  have HR0 := Aside0.mk hr0
  have HC0 := Aside0.mk hc0
  clear hr0 hc0
  have HB := Aside0.mk (Below.refl w.heap.size w)
  obtain ⟨t107, ht107⟩ : ∃ t, t = l0 := ⟨_, rfl⟩
  have A2 : Aside0 (pinfoldlaw0_CopyLeases.f l0 = some t107) := Aside0.mk (by
    rw [ht107]
    unfold pinfoldlaw0_CopyLeases.f
    simp only [Option.bind_some, List.length_nil, Nat.zero_add, List.nil_append]
    rw [if_pos (by omega)])
  obtain ⟨y110, hy110⟩ : ∃ y_ : List (S23), y_ = (([(⟨77777, 0, (⟨#[]⟩ : ByteArray), 0, (⟨#[]⟩ : ByteArray), false⟩ : S23), (⟨77777, 0, (⟨#[]⟩ : ByteArray), 0, (⟨#[]⟩ : ByteArray), false⟩ : S23)] : List (S23))) := ⟨_, rfl⟩
  have LMc3 : Aside0 (t107.length + y110.length < 2199023255552) := Aside0.mk (by rw [ht107, hy110]; exact hlim)
  obtain ⟨y113, hy113⟩ : ∃ y_ : List (S23), y_ = (t107 ++ y110) := ⟨_, rfl⟩
  have FULL : Aside0 (y113 = pinfoldlaw0_LendLeases.full l0) := Aside0.mk (by rw [hy113, ht107, hy110]; rfl)
  have hlen : y113.length = l0.length + 2 := by rw [FULL.out, pinfoldlaw0_LendLeases.full_length]
  have Ny110 := Aside0.mk hy110
  clear hy110
  have Ny113 := Aside0.mk hy113
  clear hy113
  have HLIM := Aside0.mk ht107
  clear ht107
  have c4 : 0 ≤ (l0.length : Int) := by omega
  have c4b0 := eq_true c4
  have c4b1 : decide (0 ≤ (l0.length : Int)) = true := decide_eq_true c4
  clear c4
  have c5 : (l0.length : Int) ≤ (y113.length : Int) := by omega
  have c5b0 := eq_true c5
  have c5b1 : decide ((l0.length : Int) ≤ (y113.length : Int)) = true := decide_eq_true c5
  clear c5 hlen hlim
  obtain ⟨y116, hy116⟩ : ∃ y_ : List (S23), y_ = (y113.take ((l0.length : Int) : Int).toNat) := ⟨_, rfl⟩
  have Ny116 := Aside0.mk hy116
  clear hy116
  go_enter Try.func21, Try.ntmps21
  go_wp2_with (first | ((with_reducible refine gate_callee (f := 41) rfl ?_); refine goesL_ (some 5) rfl rfl Try.func41 (by kernel_rfl) rfl #[.slice A0 l0.length c0] rfl (by (try simp only [List.map_toArray, List.map_cons, List.map_nil]); first | done | rfl | (simp only [List.length_drop, List.length_take]; rfl)) ?_; (with_reducible refine (pinfoldlaw0_CopyLeases.calls _ _ l0 t107 _ ?side1 ?side2 A2.out).mono ?_); (case side1 => repeat (first | exact HR0.out | (with_reducible refine Kd.C_alloc ?_ _) | (with_reducible refine Kd.C_drewN ?_ _) | (with_reducible refine Kd.C_drew ?_))); (case side2 => exact HC0.out); rintro e w6 ⟨v108, rfl, ho0, hb⟩; refine ⟨_, rfl, ?_⟩; have n0_ := Aside0.mk (Kd.R_lower ho0 (below_size (by repeat (with_reducible first | exact HB.out | apply below_alloc | apply pw_below_drewN | apply below_drew1)))); have n1_ := Aside0.mk (below_step (by repeat (with_reducible first | exact HB.out | apply below_alloc | apply pw_below_drewN | apply below_drew1)) hb); clear HB; have HO109 := n0_; have HB := n1_; clear n0_ n1_; (try clear hb); (try clear ho0)) | ((with_reducible refine gate_dst (N := 8) rfl ?_); refine Kd.R_lit k23 _ 23 ?hg (N := 8) ?hd (xs := ([(⟨77777, 0, (⟨#[]⟩ : ByteArray), 0, (⟨#[]⟩ : ByteArray), false⟩ : S23), (⟨77777, 0, (⟨#[]⟩ : ByteArray), 0, (⟨#[]⟩ : ByteArray), false⟩ : S23)] : List (S23))) (inner := [.int .i64 77777, .int .i64 0, .string (⟨#[]⟩ : ByteArray), .int .i64 0, .string (⟨#[]⟩ : ByteArray), .bool false, .int .i64 77777, .int .i64 0, .string (⟨#[]⟩ : ByteArray), .int .i64 0, .string (⟨#[]⟩ : ByteArray), .bool false]) (ok := fun _ => True) (okp := fun _ => True) ?hr ?hp (fun _ hk => hk) trivial (Below.refl _ _) (Nat.le_refl _) (by simp) ?_; (case hd => rfl); (case hg => rfl); (case hr => first | (go_simp; done) | (go_simp; rfl)); (case hp => exact (Reps.c6 (show Kd.M k23 _ _ _ (⟨77777, 0, (⟨#[]⟩ : ByteArray), 0, (⟨#[]⟩ : ByteArray), false⟩ : S23) [.int .i64 77777, .int .i64 0, .string (⟨#[]⟩ : ByteArray), .int .i64 0, .string (⟨#[]⟩ : ByteArray), .bool false] from (k23_mkM _ _ _ (⟨77777, 0, (⟨#[]⟩ : ByteArray), 0, (⟨#[]⟩ : ByteArray), false⟩ : S23) )) (Reps.c6 (show Kd.M k23 _ _ _ (⟨77777, 0, (⟨#[]⟩ : ByteArray), 0, (⟨#[]⟩ : ByteArray), false⟩ : S23) [.int .i64 77777, .int .i64 0, .string (⟨#[]⟩ : ByteArray), .int .i64 0, .string (⟨#[]⟩ : ByteArray), .bool false] from (k23_mkM _ _ _ (⟨77777, 0, (⟨#[]⟩ : ByteArray), 0, (⟨#[]⟩ : ByteArray), false⟩ : S23) )) (Reps.none _ _)))); intro v111 w7 ho8 hb hg_ hnew_; clear hg_ hnew_; (first | rw [← Ny110.out] at ho8 | (simp only [Int.reduceToNat] at ho8; rw [← Ny110.out] at ho8)); have n0_ := Aside0.mk (Kd.R_elder' (by (with_reducible repeat (first | apply Kd.R_alloc | apply Kd.R_drewN | apply Kd.R_drew)); exact HO109.out) (Kd.R_base ho8) hb); have n1_ := Aside0.mk (Kd.R_lower (Kd.R_new' ho8 (Kd.R_lt (by (with_reducible repeat (first | apply Kd.R_alloc | apply Kd.R_drewN | apply Kd.R_drew)); exact HO109.out))) (below_size (by repeat (with_reducible first | exact HB.out | apply below_alloc | apply pw_below_drewN | apply below_drew1)))); have n2_ := Aside0.mk (below_step (by repeat (with_reducible first | exact HB.out | apply below_alloc | apply pw_below_drewN | apply below_drew1)) hb); clear HO109; clear HB; have HO109 := n0_; have HO112 := n1_; have HB := n2_; clear n0_ n1_ n2_; clear hb ho8; obtain ⟨Ao10, co10, eo10⟩ := Kd.R_slice HO112.out; subst eo10) | ((with_reducible refine gate_builtin (b := .append) (xs := #[.tmp 5, .tmp 8]) rfl ?_); at_builtin; refine Kd.R_append_rows k23 (w0 := w) w.heap.size rfl (.tmp 5) (.tmp 8) 33 23 (.agg #[(.int .i64 0), (.int .i64 0), (.string ⟨#[]⟩), (.int .i64 0), (.string ⟨#[]⟩), (.bool false)]) 64 rfl Try.underlying33 info23 rfl (by decide) (by omega) v108 t107 y110 _ _ _ (fun k_ => some k_ ≠ (.slice Ao10 y110.length co10 : Value).ownBlock) (fun _ => False) rfl rfl ?aO ?aR (fun _ _ h => h) (fun _ h => h.elim) ?aF ?aB ?aS ?aL ?_; (case aR => repeat (first | exact (Kd.R_reads' HO112.out).2.2 | (with_reducible refine Kd.C_alloc ?_ _) | (with_reducible refine Kd.C_drewN ?_ _) | (with_reducible refine Kd.C_drew ?_))); (case aB => exact (by repeat (with_reducible first | exact HB.out | apply below_alloc | apply pw_below_drewN | apply below_drew1))); (case aF => exact (fun k_ hk => Kd.fresh' (Kd.R_lt (by (with_reducible repeat (first | apply Kd.R_alloc | apply Kd.R_drewN | apply Kd.R_drew)); exact HO112.out)) k_ hk)); (case aO => exact (by (with_reducible repeat (first | apply Kd.R_alloc | apply Kd.R_drewN | apply Kd.R_drew)); exact Kd.R_mono HO109.out (fun _ hk => hk.2))); (case aS => exact (below_size (by repeat (with_reducible first | exact HB.out | apply below_alloc | apply pw_below_drewN | apply below_drew1)))); (case aL => have := LMc3.out; omega); intro v114 w9 ho hb hg hat; rw [← Ny113.out] at ho; have n0_ := Aside0.mk (Kd.R_after (ok := (fun _ => True)) (by (with_reducible repeat (first | apply Kd.R_alloc | apply Kd.R_drewN | apply Kd.R_drew)); exact HO112.out) hg hat); have n1_ := Aside0.mk (hb); have n2_ := Aside0.mk (ho); clear HO112; clear HB; clear HO109; have HO112 := n0_; have HB := n1_; have HO115 := n2_; clear n0_ n1_ n2_; clear ho hb hg hat; obtain ⟨Ao11, co11, eo11⟩ := Kd.R_slice HO115.out; subst eo11; have q12 : ((l0.length : Int) : Int) ≤ ((y113.length : Int) : Int) := of_decide_eq_true (by first | (with_reducible assumption) | assumption); obtain ⟨i012, hi012, _, hsz12, _⟩ := info_parts info23; have hcut12 := cut_to (P := Try.prog) 33 23 .i64 Try.underlying33 hi012 Ao11 y113.length co11 (l0.length : Int) (of_decide_eq_true (by first | (with_reducible assumption) | assumption)) q12 (Kd.R_reads' HO115.out).2.1; have hr12 := Kd.R_take (m := ((l0.length : Int) : Int).toNat) HO115.out (by omega); have hy12 : y116.length = ((l0.length : Int) : Int).toNat := (by rw [Ny116.out, List.length_take]; omega); rw [Int.toNat_natCast] at hcut12; clear hy12 hr12 hi012 hsz12; replace q12 := eq_true q12))
  go_ret
  refine ⟨_, _, by first | rfl | (simp; done), ?_, by repeat (with_reducible first | exact HB.out | apply below_alloc | apply pw_below_drewN | apply below_drew1)⟩
  rw [← FULL.out]
  (with_reducible repeat (first | apply Kd.R_alloc | apply Kd.R_drewN | apply Kd.R_drew))
  exact Kd.R_mono HO115.out (fun _ hk => trivial)

/-- A state of type 23 at block g of W; what its slices lead to came in by w0. -/
def IsS23 (w0 W : World) (g : Nat) (f0 : Int) (f1 : Int) (f2 : ByteArray) (f3 : Int) (f4 : ByteArray) (f5 : Bool) : Prop := W.heap[g]? = some (.cells #[.int .i64 f0, .int .i64 f1, .string f2, .int .i64 f3, .string f4, .bool f5] 23 (0, 0)) ∧ w0.heap.size ≤ g
theorem IsS23.grown {w0 W : World} {g : Nat} {f0 : Int} {f1 : Int} {f2 : ByteArray} {f3 : Int} {f4 : ByteArray} {f5 : Bool} {W1 : World} {row : Option Nat} (h : IsS23 w0 W g f0 f1 f2 f3 f4 f5) (hw : W.grownBy W1 row) (hne : some g ≠ row) : IsS23 w0 W1 g f0 f1 f2 f3 f4 f5 := by
  obtain ⟨hb, hg⟩ := h
  exact ⟨blk_grown hb hw hne, hg⟩
theorem IsS23.own_neN {w0 W : World} {g : Nat} {f0 : Int} {f1 : Int} {f2 : ByteArray} {f3 : Int} {f4 : ByteArray} {f5 : Bool} {α : Type} {d : Kd α} {e : Nat} {base : Nat} {ok : Nat → Prop} {v : Value} {xs : List α} (h : IsS23 w0 W g f0 f1 f2 f3 f4 f5) (ho : Kd.N d e W base ok v xs) (ht : e ≠ 23) : some g ≠ v.ownBlock := by
  obtain ⟨hb, hg⟩ := h
  exact Kd.N_ne ho hb ht
theorem IsS23.fresh {w0 W : World} {g : Nat} {f0 : Int} {f1 : Int} {f2 : ByteArray} {f3 : Int} {f4 : ByteArray} {f5 : Bool} (h : IsS23 w0 W g f0 f1 f2 f3 f4 f5) : ∀ k, W.heap.size ≤ k → k ≠ g := by
  obtain ⟨hb, hg⟩ := h
  exact Kd.freshB hb
theorem IsS23.kept {w0 W : World} {g : Nat} {f0 : Int} {f1 : Int} {f2 : ByteArray} {f3 : Int} {f4 : ByteArray} {f5 : Bool} {W1 : World} {S : Nat → Prop} (h : IsS23 w0 W g f0 f1 f2 f3 f4 f5) (hk : Kept W W1 S) (hne : ¬ S g) : IsS23 w0 W1 g f0 f1 f2 f3 f4 f5 := by
  obtain ⟨hb, hg⟩ := h
  exact ⟨blk_kept hb hk hne, hg⟩
theorem IsS23.below {w0 W : World} {g : Nat} {f0 : Int} {f1 : Int} {f2 : ByteArray} {f3 : Int} {f4 : ByteArray} {f5 : Bool} {W1 : World} (h : IsS23 w0 W g f0 f1 f2 f3 f4 f5) (hw : Below W.heap.size W W1) : IsS23 w0 W1 g f0 f1 f2 f3 f4 f5 := h.grown (grown_of_below hw none) (by simp)
theorem IsS23.alloc {w0 W : World} {g : Nat} {f0 : Int} {f1 : Int} {f2 : ByteArray} {f3 : Int} {f4 : ByteArray} {f5 : Bool} (h : IsS23 w0 W g f0 f1 f2 f3 f4 f5) (o : Obj) : IsS23 w0 (W.alloc o) g f0 f1 f2 f3 f4 f5 := h.below (below_alloc (Below.refl _ _) o)
theorem IsS23.drewN {w0 W : World} {g : Nat} {f0 : Int} {f1 : Int} {f2 : ByteArray} {f3 : Int} {f4 : ByteArray} {f5 : Bool} (h : IsS23 w0 W g f0 f1 f2 f3 f4 f5) (m : Nat) : IsS23 w0 (W.drewN m) g f0 f1 f2 f3 f4 f5 := h
theorem IsS23.drew {w0 W : World} {g : Nat} {f0 : Int} {f1 : Int} {f2 : ByteArray} {f3 : Int} {f4 : ByteArray} {f5 : Bool} (h : IsS23 w0 W g f0 f1 f2 f3 f4 f5) : IsS23 w0 W.drew g f0 f1 f2 f3 f4 f5 := h
theorem IsS23.at_ {w0 W : World} {g : Nat} {f0 : Int} {f1 : Int} {f2 : ByteArray} {f3 : Int} {f4 : ByteArray} {f5 : Bool} {w' : World} {m : Nat} (hq : W.drewN m = w') (h : IsS23 w0 W g f0 f1 f2 f3 f4 f5) : IsS23 w0 w' g f0 f1 f2 f3 f4 f5 := by subst hq; exact IsS23.drewN h m
theorem IsS23.apart {w0 W : World} {g : Nat} {f0 : Int} {f1 : Int} {f2 : ByteArray} {f3 : Int} {f4 : ByteArray} {f5 : Bool} {α : Type} {d : Kd α} {e : Nat} {base : Nat} {ok : Nat → Prop} {v : Value} {xs : List α} (h : IsS23 w0 W g f0 f1 f2 f3 f4 f5) (ho : d.R e W base ok v xs) (ht : ∀ q, q ∈ e :: d.E → q ≠ 23) : d.R e W base (fun k => ok k ∧ k ≠ g) v xs := by
  obtain ⟨hb, hg⟩ := h
  exact Kd.R_types ho hb ht
theorem IsS23.own_ne {w0 W : World} {g : Nat} {f0 : Int} {f1 : Int} {f2 : ByteArray} {f3 : Int} {f4 : ByteArray} {f5 : Bool} {α : Type} {d : Kd α} {e : Nat} {base : Nat} {ok : Nat → Prop} {v : Value} {xs : List α} (h : IsS23 w0 W g f0 f1 f2 f3 f4 f5) (ho : d.R e W base ok v xs) (ht : e ≠ 23) : some g ≠ v.ownBlock := by
  obtain ⟨hb, hg⟩ := h
  exact Kd.R_ne ho hb ht
theorem IsS23.apartQ {w0 W : World} {g : Nat} {f0 : Int} {f1 : Int} {f2 : ByteArray} {f3 : Int} {f4 : ByteArray} {f5 : Bool} {α : Type} {d : Kd α} {e : Nat} {base : Nat} {ok : Nat → Prop} {v : Value} {xs : List α} (h : IsS23 w0 W g f0 f1 f2 f3 f4 f5) (ho : d.Q e W base ok v xs) (ht : ∀ q, q ∈ e :: d.E → q ≠ 23) : d.Q e W base (fun k => ok k ∧ k ≠ g) v xs := by
  obtain ⟨hb, hg⟩ := h
  exact Kd.Q_types ho hb ht
theorem IsS23.own_neQ {w0 W : World} {g : Nat} {f0 : Int} {f1 : Int} {f2 : ByteArray} {f3 : Int} {f4 : ByteArray} {f5 : Bool} {α : Type} {d : Kd α} {e : Nat} {base : Nat} {ok : Nat → Prop} {v : Value} {xs : List α} (h : IsS23 w0 W g f0 f1 f2 f3 f4 f5) (ho : d.Q e W base ok v xs) (ht : e ≠ 23) : some g ≠ v.ownBlock := by
  obtain ⟨hb, hg⟩ := h
  exact Kd.Q_ne ho hb ht
theorem IsS23.apartS {w0 W : World} {g : Nat} {f0 : Int} {f1 : Int} {f2 : ByteArray} {f3 : Int} {f4 : ByteArray} {f5 : Bool} {α : Type} {d : Kd α} {e : Nat} {base : Nat} {ok : Nat → Prop} {v : Value} {xs : List α} (h : IsS23 w0 W g f0 f1 f2 f3 f4 f5) (ho : d.S e W base ok v xs) (ht : ∀ q, q ∈ e :: d.E → q ≠ 23) : d.S e W base (fun k => ok k ∧ k ≠ g) v xs := by
  obtain ⟨hb, hg⟩ := h
  exact Kd.S_types ho hb ht
theorem IsS23.own_neS {w0 W : World} {g : Nat} {f0 : Int} {f1 : Int} {f2 : ByteArray} {f3 : Int} {f4 : ByteArray} {f5 : Bool} {α : Type} {d : Kd α} {e : Nat} {base : Nat} {ok : Nat → Prop} {v : Value} {xs : List α} (h : IsS23 w0 W g f0 f1 f2 f3 f4 f5) (ho : d.S e W base ok v xs) (ht : e ≠ 23) : some g ≠ v.ownBlock := by
  obtain ⟨hb, hg⟩ := h
  exact Kd.S_ne ho hb ht
theorem IsS23.lt {w0 W : World} {g : Nat} {f0 : Int} {f1 : Int} {f2 : ByteArray} {f3 : Int} {f4 : ByteArray} {f5 : Bool} (h : IsS23 w0 W g f0 f1 f2 f3 f4 f5) : g < W.heap.size := by
  obtain ⟨hb, hg⟩ := h
  exact blk_lt hb
theorem IsS23.ge {w0 W : World} {g : Nat} {f0 : Int} {f1 : Int} {f2 : ByteArray} {f3 : Int} {f4 : ByteArray} {f5 : Bool} (h : IsS23 w0 W g f0 f1 f2 f3 f4 f5) : w0.heap.size ≤ g := by
  obtain ⟨hb, hg⟩ := h
  exact hg
theorem IsS23.ne_blk {w0 W : World} {g : Nat} {f0 : Int} {f1 : Int} {f2 : ByteArray} {f3 : Int} {f4 : ByteArray} {f5 : Bool} {a : Nat} {cs : Array Value} {t : TypeId} {fr : Nat × Nat} (h : IsS23 w0 W g f0 f1 f2 f3 f4 f5) (hb2 : W.heap[a]? = some (.cells cs t fr)) (ht : t ≠ 23) : g ≠ a := by
  obtain ⟨hb, hg⟩ := h
  rintro rfl
  rw [hb] at hb2
  injection hb2 with hb2
  injection hb2 with _ ht2
  exact ht ht2.symm
theorem IsS23.far {w0 W : World} {g : Nat} {f0 : Int} {f1 : Int} {f2 : ByteArray} {f3 : Int} {f4 : ByteArray} {f5 : Bool} {p : Addr} (h : IsS23 w0 W g f0 f1 f2 f3 f4 f5) (hne : g ≠ p.block) (u : Value) : IsS23 w0 (W.setCell p u) g f0 f1 f2 f3 f4 f5 := by
  obtain ⟨hb, hg⟩ := h
  exact ⟨blk_far hb hne u, hg⟩
theorem cellS23_0 {W : World} {g : Nat} {f0 : Int} {f1 : Int} {f2 : ByteArray} {f3 : Int} {f4 : ByteArray} {f5 : Bool} (h : W.heap[g]? = some (.cells #[.int .i64 f0, .int .i64 f1, .string f2, .int .i64 f3, .string f4, .bool f5] 23 (0, 0))) : W.cell? ⟨g, 0, none⟩ = some (.int .i64 f0) := (blk_cell h 0).trans rfl
theorem IsS23.set_0 {w0 W : World} {g : Nat} {f0 : Int} {f1 : Int} {f2 : ByteArray} {f3 : Int} {f4 : ByteArray} {f5 : Bool} (h : IsS23 w0 W g f0 f1 f2 f3 f4 f5) (x : Int) : IsS23 w0 (W.setCell ⟨g, 0, none⟩ (.int .i64 x)) g x f1 f2 f3 f4 f5 := by
  obtain ⟨hb, hg⟩ := h
  exact ⟨by simpa using blk_set hb 0 (.int .i64 x), hg⟩
theorem cellS23_1 {W : World} {g : Nat} {f0 : Int} {f1 : Int} {f2 : ByteArray} {f3 : Int} {f4 : ByteArray} {f5 : Bool} (h : W.heap[g]? = some (.cells #[.int .i64 f0, .int .i64 f1, .string f2, .int .i64 f3, .string f4, .bool f5] 23 (0, 0))) : W.cell? ⟨g, 1, none⟩ = some (.int .i64 f1) := (blk_cell h 1).trans rfl
theorem IsS23.set_1 {w0 W : World} {g : Nat} {f0 : Int} {f1 : Int} {f2 : ByteArray} {f3 : Int} {f4 : ByteArray} {f5 : Bool} (h : IsS23 w0 W g f0 f1 f2 f3 f4 f5) (x : Int) : IsS23 w0 (W.setCell ⟨g, 1, none⟩ (.int .i64 x)) g f0 x f2 f3 f4 f5 := by
  obtain ⟨hb, hg⟩ := h
  exact ⟨by simpa using blk_set hb 1 (.int .i64 x), hg⟩
theorem cellS23_2 {W : World} {g : Nat} {f0 : Int} {f1 : Int} {f2 : ByteArray} {f3 : Int} {f4 : ByteArray} {f5 : Bool} (h : W.heap[g]? = some (.cells #[.int .i64 f0, .int .i64 f1, .string f2, .int .i64 f3, .string f4, .bool f5] 23 (0, 0))) : W.cell? ⟨g, 2, none⟩ = some (.string f2) := (blk_cell h 2).trans rfl
theorem IsS23.set_2 {w0 W : World} {g : Nat} {f0 : Int} {f1 : Int} {f2 : ByteArray} {f3 : Int} {f4 : ByteArray} {f5 : Bool} (h : IsS23 w0 W g f0 f1 f2 f3 f4 f5) (x : ByteArray) : IsS23 w0 (W.setCell ⟨g, 2, none⟩ (.string x)) g f0 f1 x f3 f4 f5 := by
  obtain ⟨hb, hg⟩ := h
  exact ⟨by simpa using blk_set hb 2 (.string x), hg⟩
theorem cellS23_3 {W : World} {g : Nat} {f0 : Int} {f1 : Int} {f2 : ByteArray} {f3 : Int} {f4 : ByteArray} {f5 : Bool} (h : W.heap[g]? = some (.cells #[.int .i64 f0, .int .i64 f1, .string f2, .int .i64 f3, .string f4, .bool f5] 23 (0, 0))) : W.cell? ⟨g, 3, none⟩ = some (.int .i64 f3) := (blk_cell h 3).trans rfl
theorem IsS23.set_3 {w0 W : World} {g : Nat} {f0 : Int} {f1 : Int} {f2 : ByteArray} {f3 : Int} {f4 : ByteArray} {f5 : Bool} (h : IsS23 w0 W g f0 f1 f2 f3 f4 f5) (x : Int) : IsS23 w0 (W.setCell ⟨g, 3, none⟩ (.int .i64 x)) g f0 f1 f2 x f4 f5 := by
  obtain ⟨hb, hg⟩ := h
  exact ⟨by simpa using blk_set hb 3 (.int .i64 x), hg⟩
theorem cellS23_4 {W : World} {g : Nat} {f0 : Int} {f1 : Int} {f2 : ByteArray} {f3 : Int} {f4 : ByteArray} {f5 : Bool} (h : W.heap[g]? = some (.cells #[.int .i64 f0, .int .i64 f1, .string f2, .int .i64 f3, .string f4, .bool f5] 23 (0, 0))) : W.cell? ⟨g, 4, none⟩ = some (.string f4) := (blk_cell h 4).trans rfl
theorem IsS23.set_4 {w0 W : World} {g : Nat} {f0 : Int} {f1 : Int} {f2 : ByteArray} {f3 : Int} {f4 : ByteArray} {f5 : Bool} (h : IsS23 w0 W g f0 f1 f2 f3 f4 f5) (x : ByteArray) : IsS23 w0 (W.setCell ⟨g, 4, none⟩ (.string x)) g f0 f1 f2 f3 x f5 := by
  obtain ⟨hb, hg⟩ := h
  exact ⟨by simpa using blk_set hb 4 (.string x), hg⟩
theorem cellS23_5 {W : World} {g : Nat} {f0 : Int} {f1 : Int} {f2 : ByteArray} {f3 : Int} {f4 : ByteArray} {f5 : Bool} (h : W.heap[g]? = some (.cells #[.int .i64 f0, .int .i64 f1, .string f2, .int .i64 f3, .string f4, .bool f5] 23 (0, 0))) : W.cell? ⟨g, 5, none⟩ = some (.bool f5) := (blk_cell h 5).trans rfl
theorem IsS23.set_5 {w0 W : World} {g : Nat} {f0 : Int} {f1 : Int} {f2 : ByteArray} {f3 : Int} {f4 : ByteArray} {f5 : Bool} (h : IsS23 w0 W g f0 f1 f2 f3 f4 f5) (x : Bool) : IsS23 w0 (W.setCell ⟨g, 5, none⟩ (.bool x)) g f0 f1 f2 f3 f4 x := by
  obtain ⟨hb, hg⟩ := h
  exact ⟨by simpa using blk_set hb 5 (.bool x), hg⟩
theorem IsS23.new (w0 W : World) (f0 : Int) (f1 : Int) (f2 : ByteArray) (f3 : Int) (f4 : ByteArray) (f5 : Bool) (hB : Below w0.heap.size w0 W) : IsS23 w0 (W.alloc (.cells #[.int .i64 f0, .int .i64 f1, .string f2, .int .i64 f3, .string f4, .bool f5] 23)) W.heap.size f0 f1 f2 f3 f4 f5 := ⟨by simpa using heap_alloc_new W _, hB.size⟩

/-! ### lease_state: function 37 -/
def lease_state.j0 : Nat → Int → Bool → Int → Int → ByteArray → Int → ByteArray → Bool → Option (Bool × Int × Int × ByteArray × Int × ByteArray × Bool)
  | 0, _, _, _, _, _, _, _, _ => none
  | k + 1, x6, x7, x1000, x1001, x1002, x1003, x1004, x1005 => if x7 = true then (if x1004.toList = ([] : List UInt8) then (some (!x1005, x1000, x1001, x1002, x1003, x1004, x1005)) else (some (false, x1000, x1001, x1002, x1003, x1004, x1005))) else (if x6 = 1 then (if x1002.toList = ([] : List UInt8) then (some (false, x1000, x1001, x1002, x1003, x1004, x1005)) else (if x1004.toList = ([] : List UInt8) then (some (!x1005, x1000, x1001, x1002, x1003, x1004, x1005)) else (some (false, x1000, x1001, x1002, x1003, x1004, x1005)))) else (if x6 = 2 then (if x1002.toList = ([] : List UInt8) then (some (false, x1000, x1001, x1002, x1003, x1004, x1005)) else (if x1004.toList = ([] : List UInt8) then (some (!x1005, x1000, x1001, x1002, x1003, x1004, x1005)) else (some (true, x1000, x1001, x1002, x1003, x1004, x1005)))) else (some (false, x1000, x1001, x1002, x1003, x1004, x1005))))
def lease_state.f (k : Nat) (s0_0 : Int) (s0_1 : Int) (s0_2 : ByteArray) (s0_3 : Int) (s0_4 : ByteArray) (s0_5 : Bool) : Option (Bool × Int × Int × ByteArray × Int × ByteArray × Bool) := if s0_1 = 0 then (lease_state.j0 k s0_1 (s0_1 == 0) s0_0 s0_1 s0_2 s0_3 s0_4 s0_5) else (lease_state.j0 k s0_1 (s0_1 == 3) s0_0 s0_1 s0_2 s0_3 s0_4 s0_5)
theorem lease_state.mono_l : ∀ k, (∀ y0 y1 y2 y3 y4 y5 y6 y7, LeO (lease_state.j0 k y0 y1 y2 y3 y4 y5 y6 y7) (lease_state.j0 (k + 1) y0 y1 y2 y3 y4 y5 y6 y7))
  | 0 => fun _ _ _ _ _ _ _ _ r h => by simp [lease_state.j0] at h
  | k + 1 => by
    have ih0 := lease_state.mono_l k
    · intro y0 y1 y2 y3 y4 y5 y6 y7
      unfold lease_state.j0
      repeat' first
      | (with_reducible exact ih0 _ _ _ _ _ _ _ _)
      | (with_reducible exact LeO.refl _)
      | (with_reducible exact LeO.none _)
      | (with_reducible refine LeO.ite ?_ ?_)
      | (with_reducible refine LeO.bind ?_ (fun _ => ?_))
      | exact ih0 _ _ _ _ _ _ _ _
      | exact LeO.none _
      | refine LeO.ite ?_ ?_
      | refine LeO.bind ?_ (fun _ => ?_)
theorem lease_state.mono : ∀ a0 a1 a2 a3 a4 a5 k, LeO (lease_state.f k a0 a1 a2 a3 a4 a5) (lease_state.f (k + 1) a0 a1 a2 a3 a4 a5) := by
  intro a0 a1 a2 a3 a4 a5 k
  have ih0 := lease_state.mono_l k
  unfold lease_state.f
  repeat' first
      | (with_reducible exact ih0 _ _ _ _ _ _ _ _)
      | (with_reducible exact LeO.refl _)
      | (with_reducible exact LeO.none _)
      | (with_reducible refine LeO.ite ?_ ?_)
      | (with_reducible refine LeO.bind ?_ (fun _ => ?_))
      | exact ih0 _ _ _ _ _ _ _ _
      | exact LeO.none _
      | refine LeO.ite ?_ ?_
      | refine LeO.bind ?_ (fun _ => ?_)
set_option maxHeartbeats 8000000 in
set_option maxRecDepth 100000 in
theorem lease_state.calls (k : Nat) (g : Nat) (s0_0 : Int) (s0_1 : Int) (s0_2 : ByteArray) (s0_3 : Int) (s0_4 : ByteArray) (s0_5 : Bool) (r1 : Bool) (r2 : Int) (r3 : Int) (r4 : ByteArray) (r5 : Int) (r6 : ByteArray) (r7 : Bool) (w0 w : World) (hI : IsS23 w0 w g s0_0 s0_1 s0_2 s0_3 s0_4 s0_5) (hB : Below w0.heap.size w0 w) (h : lease_state.f k s0_0 s0_1 s0_2 s0_3 s0_4 s0_5 = some (r1, r2, r3, r4, r5, r6, r7)) :
    Calls Try.prog 37 #[.pointer (some ⟨g, 0, none⟩)] w fun e w' => e = .returned (.bool r1) ∧ IsS23 w0 w' g r2 r3 r4 r5 r6 r7 ∧ Below w0.heap.size w0 w' ∧ KeepBut w w' g none := by
  have HI0 := Aside0.mk hI
  have HK := Aside0.mk (KeepBut.refl w g none)
  have HL := Aside0.mk hB.size
  clear hI
  have HW0 := Aside0.mk hB.size
  have HB := Aside0.mk hB
  clear hB
  have H : (if s0_1 = 0 then (lease_state.j0 k s0_1 (s0_1 == 0) s0_0 s0_1 s0_2 s0_3 s0_4 s0_5) else (lease_state.j0 k s0_1 (s0_1 == 3) s0_0 s0_1 s0_2 s0_3 s0_4 s0_5)) = some (r1, r2, r3, r4, r5, r6, r7) := h
  clear h
  have HC2 := Aside0.mk H
  clear H
  obtain ⟨HGz3, hgz3⟩ := HI0.out
  have hcz3_0 := cellS23_0 HGz3
  have hcz3_1 := cellS23_1 HGz3
  have hcz3_2 := cellS23_2 HGz3
  have hcz3_3 := cellS23_3 HGz3
  have hcz3_4 := cellS23_4 HGz3
  have hcz3_5 := cellS23_5 HGz3
  have hfz3_0 := blk_frozen HGz3 0; have hfz3_1 := blk_frozen HGz3 1; have hfz3_2 := blk_frozen HGz3 2; have hfz3_3 := blk_frozen HGz3 3; have hfz3_4 := blk_frozen HGz3 4; have hfz3_5 := blk_frozen HGz3 5
  clear HGz3 hgz3
  go_enter Try.func37, Try.ntmps37
  go_upto_if 7 with (fail)
  go_cut [7] (fun v7 wc => ∃ (kq : Nat) (x7_1 : Bool), v7 = .bool x7_1 ∧ Aside0 (lease_state.j0 kq s0_1 x7_1 s0_0 s0_1 s0_2 s0_3 s0_4 s0_5 = some (r1, r2, r3, r4, r5, r6, r7)) ∧ Aside0 (kq ≤ k) ∧ Aside0 (IsS23 w0 wc g s0_0 s0_1 s0_2 s0_3 s0_4 s0_5) ∧ Aside0 (KeepBut w wc g none) ∧ Aside0 (Below w0.heap.size w0 wc))
  case first =>
    have H := HC2.out
    clear HC2
    by_cases c4 : s0_1 = 0
    · rw [if_pos c4] at H
      have c4b0 : (s0_1 == 0) = true := beq_iff_eq.mpr c4
      have c4b1 : (s0_1 != 0) = false := bne_eq_false_iff_eq.mpr c4
      clear c4
      (first | rw [c4b0] | (simp only [i64_w, i32_w]; rw [c4b0]) | skip)
      have H' := Aside0.mk H
      clear H
      go_wp2
      go_meet
      case rel => exact ⟨_, ((s0_1 == 0)), (by first | rfl | (simp; done) | (simp [*]; done) | (simp only [str_ne_]; rfl) | (simp only [str_eq_]; rfl)), H', ⟨by first | omega | exact Nat.le_refl _⟩, ⟨by repeat (with_reducible first | exact HI0.out | apply IsS23.alloc | apply IsS23.drewN | apply IsS23.drew | apply IsS23.set_0 | apply IsS23.set_1 | apply IsS23.set_2 | apply IsS23.set_3 | apply IsS23.set_4 | apply IsS23.set_5)⟩, ⟨by repeat (with_reducible first | exact HK.out | apply KeepBut.set_ | apply keep_drewN | apply keep_drew | apply keep_alloc)⟩, ⟨by repeat (first | (with_reducible first | exact HB.out | apply below_alloc | apply pw_below_drewN | apply below_drew1 | refine below_set ?_ (IsS23.ge HI0.out)) | exact HB.out)⟩⟩
    rw [if_neg c4] at H
    have c4b0 : (s0_1 == 0) = false := beq_eq_false_iff_ne.mpr c4
    have c4b1 : (s0_1 != 0) = true := bne_iff_ne.mpr c4
    (first | rw [c4b0] | (simp only [i64_w, i32_w]; rw [c4b0]) | skip)
    have H' := Aside0.mk H
    clear H
    go_wp2
    go_meet
    case rel => exact ⟨_, ((s0_1 == 3)), (by first | rfl | (simp; done) | (simp [*]; done) | (simp only [str_ne_]; rfl) | (simp only [str_eq_]; rfl)), H', ⟨by first | omega | exact Nat.le_refl _⟩, ⟨by repeat (with_reducible first | exact HI0.out | apply IsS23.alloc | apply IsS23.drewN | apply IsS23.drew | apply IsS23.set_0 | apply IsS23.set_1 | apply IsS23.set_2 | apply IsS23.set_3 | apply IsS23.set_4 | apply IsS23.set_5)⟩, ⟨by repeat (with_reducible first | exact HK.out | apply KeepBut.set_ | apply keep_drewN | apply keep_drew | apply keep_alloc)⟩, ⟨by repeat (first | (with_reducible first | exact HB.out | apply below_alloc | apply pw_below_drewN | apply below_drew1 | refine below_set ?_ (IsS23.ge HI0.out)) | exact HB.out)⟩⟩
  case rest =>
    clear HC2
    (try clear hcz3_0); (try clear hcz3_1); (try clear hcz3_2); (try clear hcz3_3); (try clear hcz3_4); (try clear hcz3_5); (try clear hfz3_0); (try clear hfz3_1); (try clear hfz3_2); (try clear hfz3_3); (try clear hfz3_4); (try clear hfz3_5)
    obtain ⟨kq, x7_1, rfl, HA, HJ1, HI0, HK, HB⟩ := hcut
    cases kq with
    | zero => exact absurd HA.out (by simp [lease_state.j0])
    | succ kj1 =>
      have H := HA.out
      clear HA
      simp only [lease_state.j0] at H
      by_cases c5 : x7_1 = true
      · subst c5
        have H1 : (if s0_4.toList = ([] : List UInt8) then (some (!s0_5, s0_0, s0_1, s0_2, s0_3, s0_4, s0_5)) else (some (false, s0_0, s0_1, s0_2, s0_3, s0_4, s0_5))) = some (r1, r2, r3, r4, r5, r6, r7) := by rw [if_pos rfl] at H; exact H
        clear H
        have H := H1
        clear H1
        by_cases c6 : s0_4.toList = ([] : List UInt8)
        · rw [if_pos c6] at H
          have c6b0 : (s0_4.toList == ([] : List UInt8)) = true := beq_iff_eq.mpr c6
          have c6b1 : (s0_4.toList != ([] : List UInt8)) = false := bne_eq_false_iff_eq.mpr c6
          clear c6
          simp only [Option.some.injEq, Prod.mk.injEq] at H
          obtain ⟨rfl, rfl, rfl, rfl, rfl, rfl, rfl⟩ := H
          obtain ⟨HGz7, hgz7⟩ := HI0.out
          have hcz7_0 := cellS23_0 HGz7
          have hcz7_1 := cellS23_1 HGz7
          have hcz7_2 := cellS23_2 HGz7
          have hcz7_3 := cellS23_3 HGz7
          have hcz7_4 := cellS23_4 HGz7
          have hcz7_5 := cellS23_5 HGz7
          have hfz7_0 := blk_frozen HGz7 0; have hfz7_1 := blk_frozen HGz7 1; have hfz7_2 := blk_frozen HGz7 2; have hfz7_3 := blk_frozen HGz7 3; have hfz7_4 := blk_frozen HGz7 4; have hfz7_5 := blk_frozen HGz7 5
          clear HGz7 hgz7
          go_wp2
          go_ret
          exact ⟨by first | rfl | (simp [errW_none, errW_some] <;> rfl) | (simp [*, errW_none, errW_some] <;> rfl) | (simp only [str_ne_]; rfl) | (simp only [str_eq_]; rfl), by repeat (with_reducible first | exact HI0.out | apply IsS23.alloc | apply IsS23.drewN | apply IsS23.drew | apply IsS23.set_0 | apply IsS23.set_1 | apply IsS23.set_2 | apply IsS23.set_3 | apply IsS23.set_4 | apply IsS23.set_5), by repeat (first | (with_reducible first | exact HB.out | apply below_alloc | apply pw_below_drewN | apply below_drew1 | refine below_set ?_ (IsS23.ge HI0.out)) | exact HB.out), by repeat (with_reducible first | exact HK.out | apply KeepBut.set_ | apply keep_drewN | apply keep_drew | apply keep_alloc)⟩
        rw [if_neg c6] at H
        have c6b0 : (s0_4.toList == ([] : List UInt8)) = false := beq_eq_false_iff_ne.mpr c6
        have c6b1 : (s0_4.toList != ([] : List UInt8)) = true := bne_iff_ne.mpr c6
        simp only [Option.some.injEq, Prod.mk.injEq] at H
        obtain ⟨rfl, rfl, rfl, rfl, rfl, rfl, rfl⟩ := H
        obtain ⟨HGz8, hgz8⟩ := HI0.out
        have hcz8_0 := cellS23_0 HGz8
        have hcz8_1 := cellS23_1 HGz8
        have hcz8_2 := cellS23_2 HGz8
        have hcz8_3 := cellS23_3 HGz8
        have hcz8_4 := cellS23_4 HGz8
        have hcz8_5 := cellS23_5 HGz8
        have hfz8_0 := blk_frozen HGz8 0; have hfz8_1 := blk_frozen HGz8 1; have hfz8_2 := blk_frozen HGz8 2; have hfz8_3 := blk_frozen HGz8 3; have hfz8_4 := blk_frozen HGz8 4; have hfz8_5 := blk_frozen HGz8 5
        clear HGz8 hgz8
        go_wp2
        go_ret
        exact ⟨by first | rfl | (simp [errW_none, errW_some] <;> rfl) | (simp [*, errW_none, errW_some] <;> rfl) | (simp only [str_ne_]; rfl) | (simp only [str_eq_]; rfl), by repeat (with_reducible first | exact HI0.out | apply IsS23.alloc | apply IsS23.drewN | apply IsS23.drew | apply IsS23.set_0 | apply IsS23.set_1 | apply IsS23.set_2 | apply IsS23.set_3 | apply IsS23.set_4 | apply IsS23.set_5), by repeat (first | (with_reducible first | exact HB.out | apply below_alloc | apply pw_below_drewN | apply below_drew1 | refine below_set ?_ (IsS23.ge HI0.out)) | exact HB.out), by repeat (with_reducible first | exact HK.out | apply KeepBut.set_ | apply keep_drewN | apply keep_drew | apply keep_alloc)⟩
      replace c5 := Bool.eq_false_iff.mpr c5
      subst c5
      have H1 : (if s0_1 = 1 then (if s0_2.toList = ([] : List UInt8) then (some (false, s0_0, s0_1, s0_2, s0_3, s0_4, s0_5)) else (if s0_4.toList = ([] : List UInt8) then (some (!s0_5, s0_0, s0_1, s0_2, s0_3, s0_4, s0_5)) else (some (false, s0_0, s0_1, s0_2, s0_3, s0_4, s0_5)))) else (if s0_1 = 2 then (if s0_2.toList = ([] : List UInt8) then (some (false, s0_0, s0_1, s0_2, s0_3, s0_4, s0_5)) else (if s0_4.toList = ([] : List UInt8) then (some (!s0_5, s0_0, s0_1, s0_2, s0_3, s0_4, s0_5)) else (some (true, s0_0, s0_1, s0_2, s0_3, s0_4, s0_5)))) else (some (false, s0_0, s0_1, s0_2, s0_3, s0_4, s0_5)))) = some (r1, r2, r3, r4, r5, r6, r7) := by rw [if_neg (show ¬ (false = true) by decide)] at H; exact H
      clear H
      have H := H1
      clear H1
      by_cases c9 : s0_1 = 1
      · rw [if_pos c9] at H
        have c9b0 : (s0_1 == 1) = true := beq_iff_eq.mpr c9
        have c9b1 : (s0_1 != 1) = false := bne_eq_false_iff_eq.mpr c9
        clear c9
        by_cases c10 : s0_2.toList = ([] : List UInt8)
        · rw [if_pos c10] at H
          have c10b0 : (s0_2.toList == ([] : List UInt8)) = true := beq_iff_eq.mpr c10
          have c10b1 : (s0_2.toList != ([] : List UInt8)) = false := bne_eq_false_iff_eq.mpr c10
          clear c10
          simp only [Option.some.injEq, Prod.mk.injEq] at H
          obtain ⟨rfl, rfl, rfl, rfl, rfl, rfl, rfl⟩ := H
          obtain ⟨HGz11, hgz11⟩ := HI0.out
          have hcz11_0 := cellS23_0 HGz11
          have hcz11_1 := cellS23_1 HGz11
          have hcz11_2 := cellS23_2 HGz11
          have hcz11_3 := cellS23_3 HGz11
          have hcz11_4 := cellS23_4 HGz11
          have hcz11_5 := cellS23_5 HGz11
          have hfz11_0 := blk_frozen HGz11 0; have hfz11_1 := blk_frozen HGz11 1; have hfz11_2 := blk_frozen HGz11 2; have hfz11_3 := blk_frozen HGz11 3; have hfz11_4 := blk_frozen HGz11 4; have hfz11_5 := blk_frozen HGz11 5
          clear HGz11 hgz11
          go_wp2
          go_ret
          exact ⟨by first | rfl | (simp [errW_none, errW_some] <;> rfl) | (simp [*, errW_none, errW_some] <;> rfl) | (simp only [str_ne_]; rfl) | (simp only [str_eq_]; rfl), by repeat (with_reducible first | exact HI0.out | apply IsS23.alloc | apply IsS23.drewN | apply IsS23.drew | apply IsS23.set_0 | apply IsS23.set_1 | apply IsS23.set_2 | apply IsS23.set_3 | apply IsS23.set_4 | apply IsS23.set_5), by repeat (first | (with_reducible first | exact HB.out | apply below_alloc | apply pw_below_drewN | apply below_drew1 | refine below_set ?_ (IsS23.ge HI0.out)) | exact HB.out), by repeat (with_reducible first | exact HK.out | apply KeepBut.set_ | apply keep_drewN | apply keep_drew | apply keep_alloc)⟩
        rw [if_neg c10] at H
        have c10b0 : (s0_2.toList == ([] : List UInt8)) = false := beq_eq_false_iff_ne.mpr c10
        have c10b1 : (s0_2.toList != ([] : List UInt8)) = true := bne_iff_ne.mpr c10
        by_cases c12 : s0_4.toList = ([] : List UInt8)
        · rw [if_pos c12] at H
          have c12b0 : (s0_4.toList == ([] : List UInt8)) = true := beq_iff_eq.mpr c12
          have c12b1 : (s0_4.toList != ([] : List UInt8)) = false := bne_eq_false_iff_eq.mpr c12
          clear c12
          simp only [Option.some.injEq, Prod.mk.injEq] at H
          obtain ⟨rfl, rfl, rfl, rfl, rfl, rfl, rfl⟩ := H
          obtain ⟨HGz13, hgz13⟩ := HI0.out
          have hcz13_0 := cellS23_0 HGz13
          have hcz13_1 := cellS23_1 HGz13
          have hcz13_2 := cellS23_2 HGz13
          have hcz13_3 := cellS23_3 HGz13
          have hcz13_4 := cellS23_4 HGz13
          have hcz13_5 := cellS23_5 HGz13
          have hfz13_0 := blk_frozen HGz13 0; have hfz13_1 := blk_frozen HGz13 1; have hfz13_2 := blk_frozen HGz13 2; have hfz13_3 := blk_frozen HGz13 3; have hfz13_4 := blk_frozen HGz13 4; have hfz13_5 := blk_frozen HGz13 5
          clear HGz13 hgz13
          go_wp2
          go_ret
          exact ⟨by first | rfl | (simp [errW_none, errW_some] <;> rfl) | (simp [*, errW_none, errW_some] <;> rfl) | (simp only [str_ne_]; rfl) | (simp only [str_eq_]; rfl), by repeat (with_reducible first | exact HI0.out | apply IsS23.alloc | apply IsS23.drewN | apply IsS23.drew | apply IsS23.set_0 | apply IsS23.set_1 | apply IsS23.set_2 | apply IsS23.set_3 | apply IsS23.set_4 | apply IsS23.set_5), by repeat (first | (with_reducible first | exact HB.out | apply below_alloc | apply pw_below_drewN | apply below_drew1 | refine below_set ?_ (IsS23.ge HI0.out)) | exact HB.out), by repeat (with_reducible first | exact HK.out | apply KeepBut.set_ | apply keep_drewN | apply keep_drew | apply keep_alloc)⟩
        rw [if_neg c12] at H
        have c12b0 : (s0_4.toList == ([] : List UInt8)) = false := beq_eq_false_iff_ne.mpr c12
        have c12b1 : (s0_4.toList != ([] : List UInt8)) = true := bne_iff_ne.mpr c12
        simp only [Option.some.injEq, Prod.mk.injEq] at H
        obtain ⟨rfl, rfl, rfl, rfl, rfl, rfl, rfl⟩ := H
        obtain ⟨HGz14, hgz14⟩ := HI0.out
        have hcz14_0 := cellS23_0 HGz14
        have hcz14_1 := cellS23_1 HGz14
        have hcz14_2 := cellS23_2 HGz14
        have hcz14_3 := cellS23_3 HGz14
        have hcz14_4 := cellS23_4 HGz14
        have hcz14_5 := cellS23_5 HGz14
        have hfz14_0 := blk_frozen HGz14 0; have hfz14_1 := blk_frozen HGz14 1; have hfz14_2 := blk_frozen HGz14 2; have hfz14_3 := blk_frozen HGz14 3; have hfz14_4 := blk_frozen HGz14 4; have hfz14_5 := blk_frozen HGz14 5
        clear HGz14 hgz14
        go_wp2
        go_ret
        exact ⟨by first | rfl | (simp [errW_none, errW_some] <;> rfl) | (simp [*, errW_none, errW_some] <;> rfl) | (simp only [str_ne_]; rfl) | (simp only [str_eq_]; rfl), by repeat (with_reducible first | exact HI0.out | apply IsS23.alloc | apply IsS23.drewN | apply IsS23.drew | apply IsS23.set_0 | apply IsS23.set_1 | apply IsS23.set_2 | apply IsS23.set_3 | apply IsS23.set_4 | apply IsS23.set_5), by repeat (first | (with_reducible first | exact HB.out | apply below_alloc | apply pw_below_drewN | apply below_drew1 | refine below_set ?_ (IsS23.ge HI0.out)) | exact HB.out), by repeat (with_reducible first | exact HK.out | apply KeepBut.set_ | apply keep_drewN | apply keep_drew | apply keep_alloc)⟩
      rw [if_neg c9] at H
      have c9b0 : (s0_1 == 1) = false := beq_eq_false_iff_ne.mpr c9
      have c9b1 : (s0_1 != 1) = true := bne_iff_ne.mpr c9
      by_cases c15 : s0_1 = 2
      · rw [if_pos c15] at H
        have c15b0 : (s0_1 == 2) = true := beq_iff_eq.mpr c15
        have c15b1 : (s0_1 != 2) = false := bne_eq_false_iff_eq.mpr c15
        clear c15
        by_cases c16 : s0_2.toList = ([] : List UInt8)
        · rw [if_pos c16] at H
          have c16b0 : (s0_2.toList == ([] : List UInt8)) = true := beq_iff_eq.mpr c16
          have c16b1 : (s0_2.toList != ([] : List UInt8)) = false := bne_eq_false_iff_eq.mpr c16
          clear c16
          simp only [Option.some.injEq, Prod.mk.injEq] at H
          obtain ⟨rfl, rfl, rfl, rfl, rfl, rfl, rfl⟩ := H
          obtain ⟨HGz17, hgz17⟩ := HI0.out
          have hcz17_0 := cellS23_0 HGz17
          have hcz17_1 := cellS23_1 HGz17
          have hcz17_2 := cellS23_2 HGz17
          have hcz17_3 := cellS23_3 HGz17
          have hcz17_4 := cellS23_4 HGz17
          have hcz17_5 := cellS23_5 HGz17
          have hfz17_0 := blk_frozen HGz17 0; have hfz17_1 := blk_frozen HGz17 1; have hfz17_2 := blk_frozen HGz17 2; have hfz17_3 := blk_frozen HGz17 3; have hfz17_4 := blk_frozen HGz17 4; have hfz17_5 := blk_frozen HGz17 5
          clear HGz17 hgz17
          go_wp2
          go_ret
          exact ⟨by first | rfl | (simp [errW_none, errW_some] <;> rfl) | (simp [*, errW_none, errW_some] <;> rfl) | (simp only [str_ne_]; rfl) | (simp only [str_eq_]; rfl), by repeat (with_reducible first | exact HI0.out | apply IsS23.alloc | apply IsS23.drewN | apply IsS23.drew | apply IsS23.set_0 | apply IsS23.set_1 | apply IsS23.set_2 | apply IsS23.set_3 | apply IsS23.set_4 | apply IsS23.set_5), by repeat (first | (with_reducible first | exact HB.out | apply below_alloc | apply pw_below_drewN | apply below_drew1 | refine below_set ?_ (IsS23.ge HI0.out)) | exact HB.out), by repeat (with_reducible first | exact HK.out | apply KeepBut.set_ | apply keep_drewN | apply keep_drew | apply keep_alloc)⟩
        rw [if_neg c16] at H
        have c16b0 : (s0_2.toList == ([] : List UInt8)) = false := beq_eq_false_iff_ne.mpr c16
        have c16b1 : (s0_2.toList != ([] : List UInt8)) = true := bne_iff_ne.mpr c16
        by_cases c18 : s0_4.toList = ([] : List UInt8)
        · rw [if_pos c18] at H
          have c18b0 : (s0_4.toList == ([] : List UInt8)) = true := beq_iff_eq.mpr c18
          have c18b1 : (s0_4.toList != ([] : List UInt8)) = false := bne_eq_false_iff_eq.mpr c18
          clear c18
          simp only [Option.some.injEq, Prod.mk.injEq] at H
          obtain ⟨rfl, rfl, rfl, rfl, rfl, rfl, rfl⟩ := H
          obtain ⟨HGz19, hgz19⟩ := HI0.out
          have hcz19_0 := cellS23_0 HGz19
          have hcz19_1 := cellS23_1 HGz19
          have hcz19_2 := cellS23_2 HGz19
          have hcz19_3 := cellS23_3 HGz19
          have hcz19_4 := cellS23_4 HGz19
          have hcz19_5 := cellS23_5 HGz19
          have hfz19_0 := blk_frozen HGz19 0; have hfz19_1 := blk_frozen HGz19 1; have hfz19_2 := blk_frozen HGz19 2; have hfz19_3 := blk_frozen HGz19 3; have hfz19_4 := blk_frozen HGz19 4; have hfz19_5 := blk_frozen HGz19 5
          clear HGz19 hgz19
          go_wp2
          go_ret
          exact ⟨by first | rfl | (simp [errW_none, errW_some] <;> rfl) | (simp [*, errW_none, errW_some] <;> rfl) | (simp only [str_ne_]; rfl) | (simp only [str_eq_]; rfl), by repeat (with_reducible first | exact HI0.out | apply IsS23.alloc | apply IsS23.drewN | apply IsS23.drew | apply IsS23.set_0 | apply IsS23.set_1 | apply IsS23.set_2 | apply IsS23.set_3 | apply IsS23.set_4 | apply IsS23.set_5), by repeat (first | (with_reducible first | exact HB.out | apply below_alloc | apply pw_below_drewN | apply below_drew1 | refine below_set ?_ (IsS23.ge HI0.out)) | exact HB.out), by repeat (with_reducible first | exact HK.out | apply KeepBut.set_ | apply keep_drewN | apply keep_drew | apply keep_alloc)⟩
        rw [if_neg c18] at H
        have c18b0 : (s0_4.toList == ([] : List UInt8)) = false := beq_eq_false_iff_ne.mpr c18
        have c18b1 : (s0_4.toList != ([] : List UInt8)) = true := bne_iff_ne.mpr c18
        simp only [Option.some.injEq, Prod.mk.injEq] at H
        obtain ⟨rfl, rfl, rfl, rfl, rfl, rfl, rfl⟩ := H
        obtain ⟨HGz20, hgz20⟩ := HI0.out
        have hcz20_0 := cellS23_0 HGz20
        have hcz20_1 := cellS23_1 HGz20
        have hcz20_2 := cellS23_2 HGz20
        have hcz20_3 := cellS23_3 HGz20
        have hcz20_4 := cellS23_4 HGz20
        have hcz20_5 := cellS23_5 HGz20
        have hfz20_0 := blk_frozen HGz20 0; have hfz20_1 := blk_frozen HGz20 1; have hfz20_2 := blk_frozen HGz20 2; have hfz20_3 := blk_frozen HGz20 3; have hfz20_4 := blk_frozen HGz20 4; have hfz20_5 := blk_frozen HGz20 5
        clear HGz20 hgz20
        go_wp2
        go_ret
        exact ⟨by first | rfl | (simp [errW_none, errW_some] <;> rfl) | (simp [*, errW_none, errW_some] <;> rfl) | (simp only [str_ne_]; rfl) | (simp only [str_eq_]; rfl), by repeat (with_reducible first | exact HI0.out | apply IsS23.alloc | apply IsS23.drewN | apply IsS23.drew | apply IsS23.set_0 | apply IsS23.set_1 | apply IsS23.set_2 | apply IsS23.set_3 | apply IsS23.set_4 | apply IsS23.set_5), by repeat (first | (with_reducible first | exact HB.out | apply below_alloc | apply pw_below_drewN | apply below_drew1 | refine below_set ?_ (IsS23.ge HI0.out)) | exact HB.out), by repeat (with_reducible first | exact HK.out | apply KeepBut.set_ | apply keep_drewN | apply keep_drew | apply keep_alloc)⟩
      rw [if_neg c15] at H
      have c15b0 : (s0_1 == 2) = false := beq_eq_false_iff_ne.mpr c15
      have c15b1 : (s0_1 != 2) = true := bne_iff_ne.mpr c15
      simp only [Option.some.injEq, Prod.mk.injEq] at H
      obtain ⟨rfl, rfl, rfl, rfl, rfl, rfl, rfl⟩ := H
      go_wp2
      go_ret
      exact ⟨by first | rfl | (simp [errW_none, errW_some] <;> rfl) | (simp [*, errW_none, errW_some] <;> rfl) | (simp only [str_ne_]; rfl) | (simp only [str_eq_]; rfl), by repeat (with_reducible first | exact HI0.out | apply IsS23.alloc | apply IsS23.drewN | apply IsS23.drew | apply IsS23.set_0 | apply IsS23.set_1 | apply IsS23.set_2 | apply IsS23.set_3 | apply IsS23.set_4 | apply IsS23.set_5), by repeat (first | (with_reducible first | exact HB.out | apply below_alloc | apply pw_below_drewN | apply below_drew1 | refine below_set ?_ (IsS23.ge HI0.out)) | exact HB.out), by repeat (with_reducible first | exact HK.out | apply KeepBut.set_ | apply keep_drewN | apply keep_drew | apply keep_alloc)⟩

/-! ### lease_state_r: function 37 -/
-- its pointer leads to any variable in memory: it only reads
def lease_state_r.f (k : Nat) (s0_0 : Int) (s0_1 : Int) (s0_2 : ByteArray) (s0_3 : Int) (s0_4 : ByteArray) (s0_5 : Bool) : Option Bool := (lease_state.f k s0_0 s0_1 s0_2 s0_3 s0_4 s0_5).bind fun p_ => if p_.2 = (s0_0, s0_1, s0_2, s0_3, s0_4, s0_5) then some p_.1 else none
theorem lease_state_r.mono : ∀ s0_0 s0_1 s0_2 s0_3 s0_4 s0_5 k, LeO (lease_state_r.f k s0_0 s0_1 s0_2 s0_3 s0_4 s0_5) (lease_state_r.f (k + 1) s0_0 s0_1 s0_2 s0_3 s0_4 s0_5) := by
  intro s0_0 s0_1 s0_2 s0_3 s0_4 s0_5 k
  unfold lease_state_r.f
  exact LeO.bind (lease_state.mono _ _ _ _ _ _ k) (fun _ => LeO.refl _)
theorem lease_state_r.calls (k : Nat) (g : Nat) (s0_0 : Int) (s0_1 : Int) (s0_2 : ByteArray) (s0_3 : Int) (s0_4 : ByteArray) (s0_5 : Bool) (r : Bool) (w : World) (hb_ : w.heap[g]? = some (.cells #[.int .i64 s0_0, .int .i64 s0_1, .string s0_2, .int .i64 s0_3, .string s0_4, .bool s0_5] 23 (0, 0))) (h : lease_state_r.f k s0_0 s0_1 s0_2 s0_3 s0_4 s0_5 = some r) :
    Calls Try.prog 37 #[.pointer (some ⟨g, 0, none⟩)] w fun e w' => e = .returned (.bool r) ∧ Below w.heap.size w w' := by
  unfold lease_state_r.f at h
  obtain ⟨p_, hp_, hq_⟩ := Option.bind_eq_some_iff.1 h
  by_cases hs_ : p_.2 = (s0_0, s0_1, s0_2, s0_3, s0_4, s0_5)
  · rw [if_pos hs_] at hq_
    obtain rfl := Option.some.inj hq_
    obtain ⟨p1_, p2_⟩ := p_
    simp only at hs_
    subst hs_
    refine (lease_state.calls k g s0_0 s0_1 s0_2 s0_3 s0_4 s0_5 p1_ s0_0 s0_1 s0_2 s0_3 s0_4 s0_5 (low_ w g) w ⟨hb_, Nat.le_of_eq (low_size hb_)⟩ (low_below hb_) hp_).mono ?_
    rintro e w' ⟨rfl, hI_, hB_, hK_⟩
    exact ⟨rfl, low_back hb_ hI_.1 hB_ hK_⟩
  · rw [if_neg hs_] at hq_
    cases hq_

/-! ### lease_Time: function 38 -/
def lease_Time.f (a0 : Int) : Option (Bool) := if a0 ≥ 0 then (some (decide (a0 ≤ 1099511627776))) else (some false)
set_option maxHeartbeats 8000000 in
set_option maxRecDepth 100000 in
theorem lease_Time.calls (a0 : Int) (r : Bool) (w : World) (h : lease_Time.f a0 = some r) :
    Calls Try.prog 38 #[.int .i64 a0] w fun e w' => e = .returned (.bool r) ∧ Drawn0 w w' := by
  have H : (if a0 ≥ 0 then (some (decide (a0 ≤ 1099511627776))) else (some false)) = some r := h
  clear h
  by_cases c2 : a0 ≥ 0
  · rw [if_pos c2] at H
    have c2b0 : decide (0 ≤ a0) = true := decide_eq_true c2
    clear c2
    obtain rfl := Option.some.inj H
    go_enter Try.func38, Try.ntmps38
    go_wp2
    go_ret
    exact ⟨by first | rfl | (simp; done) | (simp [*]; done), by repeat (first | exact Drawn0.refl _ | apply Drawn0.step)⟩
  rw [if_neg c2] at H
  have c2b0 : decide (0 ≤ a0) = false := decide_eq_false c2
  clear c2
  obtain rfl := Option.some.inj H
  go_enter Try.func38, Try.ntmps38
  go_wp2
  go_ret
  exact ⟨by first | rfl | (simp; done) | (simp [*]; done), by repeat (first | exact Drawn0.refl _ | apply Drawn0.step)⟩

-- NOT PRINTED: function 88 (bytealg_IndexByteString)

/-! ### stringslite_IndexByte: function 84 -/
-- BY HAND
def stringslite_IndexByte.f (a0 : ByteArray) (a1 : Int) : Option Int := some (Lib.indexByte a0.data.toList a1.toNat.toUInt8)
set_option maxHeartbeats 8000000 in
set_option maxRecDepth 100000 in
theorem stringslite_IndexByte.calls (a0 : ByteArray) (a1 : Int) (r : Int) (w : World) (h : stringslite_IndexByte.f a0 a1 = some r) :
    Calls Try.prog 84 #[.string a0, .int .u8 a1] w fun e w' => e = .returned (.int .i64 r) ∧ Drawn0 w w' := by
  obtain rfl := Option.some.inj h
  clear h
  go_enter Try.func84, Try.ntmps84
  go_wp2
  rw [run_callFunc_extern Try.func88 (by kernel_rfl) (by kernel_rfl) (by kernel_rfl) (e := Extern.BytealgIndexByte.indexByte) (by kernel_rfl), Lib.run_indexByteString]
  simp only [Result.andThen]
  rw [Oper.upon_value]
  go_wp2
  go_ret
  exact ⟨rfl, Drawn0.refl _⟩

/-! ### stringslite_Index: function 81 -/
-- BY HAND
/-- where the one byte of the second text stands first; -1: nowhere. -/
def stringslite_Index.at_ (a0 a1 : ByteArray) : Int := Lib.indexByte a0.data.toList (a1.data.toList.headD 0)
def stringslite_Index.f (a0 : ByteArray) (a1 : ByteArray) : Option Int := if a1.size = 1 then some (stringslite_Index.at_ a0 a1) else none
theorem stringslite_Index.one {a : ByteArray} (h : a.size = 1) : ∃ c, a = ⟨#[c]⟩ := by
  have hl : a.data.toList.length = 1 := by rw [data_length]; exact h
  obtain ⟨c, hc⟩ := List.length_eq_one_iff.1 hl
  refine ⟨c, ?_⟩
  have e : a = ⟨a.data⟩ := rfl
  rw [e, show a.data = #[c] from Array.toList_inj.1 hc]
set_option maxHeartbeats 8000000 in
set_option maxRecDepth 100000 in
theorem stringslite_Index.calls (a0 : ByteArray) (a1 : ByteArray) (r : Int) (w : World) (h : stringslite_Index.f a0 a1 = some r) :
    Calls Try.prog 81 #[.string a0, .string a1] w fun e w' => e = .returned (.int .i64 r) ∧ Drawn0 w w' := by
  unfold stringslite_Index.f at h
  by_cases hs : a1.size = 1
  · rw [if_pos hs] at h
    obtain rfl := Option.some.inj h
    clear h
    obtain ⟨c, rfl⟩ := stringslite_Index.one hs
    clear hs
    show Calls _ _ _ _ fun e w' => e = .returned (.int .i64 (Lib.indexByte a0.data.toList c)) ∧ Drawn0 w w'
    go_enter Try.func81, Try.ntmps81
    go_wp2_with (go_at_call 84; (with_reducible refine (stringslite_IndexByte.calls _ _ _ _ rfl).mono ?_); rintro e w' ⟨rfl, ⟨nd, rfl⟩⟩)
    · have h : ([c] == a0.toList) = true := by assumption
      go_ret
      refine ⟨?_, by repeat (first | exact Drawn0.refl _ | apply Drawn0.step)⟩
      have e : a0.data.toList = [c] := by rw [← ByteArray.toList_eq]; exact (beq_iff_eq.1 h).symm
      rw [e]
      simp [Lib.indexByte]
    · go_ret
      exact ⟨by first | rfl | (simp; done), by repeat (first | exact Drawn0.refl _ | apply Drawn0.step)⟩
  · rw [if_neg hs] at h
    exact absurd h (by simp)

/-! ### stringslite_Cut: function 74 -/
-- BY HAND
/-- what stands ahead of a byte, what stands behind it, is it there. -/
def stringslite_Cut.v (a0 a1 : ByteArray) : ByteArray × ByteArray × Bool := if 0 ≤ stringslite_Index.at_ a0 a1 then (a0.extract 0 (stringslite_Index.at_ a0 a1).toNat, a0.extract ((stringslite_Index.at_ a0 a1).toNat + 1) a0.size, true) else (a0, ⟨#[]⟩, false)
def stringslite_Cut.f (a0 : ByteArray) (a1 : ByteArray) : Option (ByteArray × ByteArray × Bool) := if a1.size = 1 ∧ a0.size ≤ 140737488351232 then some (stringslite_Cut.v a0 a1) else none
theorem stringslite_Cut.in_ : ∀ (l : List UInt8) (c : UInt8), Lib.indexByte l c < (l.length : Int)
  | [], _ => by show (-1 : Int) < 0; decide
  | b :: l, c => by
    have := stringslite_Cut.in_ l c
    unfold Lib.indexByte
    simp only [List.length_cons]
    split
    · omega
    · split <;> omega
set_option maxHeartbeats 8000000 in
set_option maxRecDepth 100000 in
theorem stringslite_Cut.calls (a0 : ByteArray) (a1 : ByteArray) (r1 : ByteArray) (r2 : ByteArray) (r3 : Bool) (w : World) (h : stringslite_Cut.f a0 a1 = some (r1, r2, r3)) :
    Calls Try.prog 74 #[.string a0, .string a1] w fun e w' => e = .returned (.tuple #[.string r1, .string r2, .bool r3]) ∧ Drawn0 w w' := by
  unfold stringslite_Cut.f at h
  by_cases hs : a1.size = 1 ∧ a0.size ≤ 140737488351232
  · rw [if_pos hs] at h
    obtain ⟨hs, hz⟩ := hs
    have hv := Option.some.inj h
    clear h
    have hx : stringslite_Index.f a0 a1 = some (stringslite_Index.at_ a0 a1) := by unfold stringslite_Index.f; rw [if_pos hs]
    have hlt : stringslite_Index.at_ a0 a1 < (a0.size : Int) := by
      have := stringslite_Cut.in_ a0.data.toList (a1.data.toList.headD 0)
      rw [data_length] at this
      exact this
    unfold stringslite_Cut.v at hv
    obtain ⟨i, hi⟩ : ∃ i, stringslite_Index.at_ a0 a1 = i := ⟨_, rfl⟩
    rw [hi] at hx hlt hv
    clear hi
    have HX := Aside0.mk hx
    clear hx
    by_cases h0 : 0 ≤ i
    · rw [if_pos h0] at hv
      simp only [Prod.mk.injEq] at hv
      obtain ⟨rfl, rfl, rfl⟩ := hv
      obtain ⟨c, rfl⟩ := stringslite_Index.one hs
      have hw : IntKind.i64.wrap (i + 1) = i + 1 := by rw [IntKind.wrap_i64]; omega
      have c1 : (0 : Int) ≤ i := h0
      have c2 : i ≤ (a0.size : Int) := by omega
      have c3 : (0 : Int) ≤ i + 1 := by omega
      have c4 : (i + 1 : Int) ≤ (a0.size : Int) := by omega
      have c5 : (i + 1).toNat = i.toNat + 1 := by omega
      clear hs hlt
      go_enter Try.func74, Try.ntmps74
      go_wp2_with (go_at_call 81; (with_reducible refine (stringslite_Index.calls _ _ _ _ HX.out).mono ?_); rintro e w' ⟨rfl, ⟨nd, rfl⟩⟩)
      go_quiet (fail)
      go_wp2
      go_ret3
      exact ⟨by first | rfl | (simp [c5]; done), by repeat (first | exact Drawn0.refl _ | apply Drawn0.step)⟩
    · rw [if_neg h0] at hv
      simp only [Prod.mk.injEq] at hv
      obtain ⟨rfl, rfl, rfl⟩ := hv
      go_enter Try.func74, Try.ntmps74
      go_wp2_with (go_at_call 81; (with_reducible refine (stringslite_Index.calls _ _ _ _ HX.out).mono ?_); rintro e w' ⟨rfl, ⟨nd, rfl⟩⟩)
      go_ret3
      exact ⟨by first | rfl | (simp; done), by repeat (first | exact Drawn0.refl _ | apply Drawn0.step)⟩
  · rw [if_neg hs] at h
    exact absurd h (by simp)

/-! ### strings_Cut: function 61 -/
-- BY HAND
def strings_Cut.f (a0 : ByteArray) (a1 : ByteArray) : Option (ByteArray × ByteArray × Bool) := stringslite_Cut.f a0 a1
set_option maxHeartbeats 8000000 in
set_option maxRecDepth 100000 in
theorem strings_Cut.calls (a0 : ByteArray) (a1 : ByteArray) (r1 : ByteArray) (r2 : ByteArray) (r3 : Bool) (w : World) (h : strings_Cut.f a0 a1 = some (r1, r2, r3)) :
    Calls Try.prog 61 #[.string a0, .string a1] w fun e w' => e = .returned (.tuple #[.string r1, .string r2, .bool r3]) ∧ Drawn0 w w' := by
  have HX : Aside0 (stringslite_Cut.f a0 a1 = some (r1, r2, r3)) := ⟨h⟩
  clear h
  go_enter Try.func61, Try.ntmps61
  go_wp2_with (go_at_call 74; (with_reducible refine (stringslite_Cut.calls _ _ _ _ _ _ HX.out).mono ?_); rintro e w' ⟨rfl, ⟨nd, rfl⟩⟩)
  go_ret3
  exact ⟨by first | rfl | (simp; done), by repeat (first | exact Drawn0.refl _ | apply Drawn0.step)⟩

/-! ### name_letter: function 75 -/
def name_letter.f (a0 : Int) : Option (Bool) := if a0 ≥ 97 then (if a0 ≤ 122 then (some true) else (if a0 ≥ 48 then (if a0 ≤ 57 then (some true) else (some (a0 == 45))) else (some (a0 == 45)))) else (if a0 ≥ 48 then (if a0 ≤ 57 then (some true) else (some (a0 == 45))) else (some (a0 == 45)))
set_option maxHeartbeats 8000000 in
set_option maxRecDepth 100000 in
theorem name_letter.calls (a0 : Int) (r : Bool) (w : World) (h : name_letter.f a0 = some r) :
    Calls Try.prog 75 #[.int .u8 a0] w fun e w' => e = .returned (.bool r) ∧ Drawn0 w w' := by
  have H : (if a0 ≥ 97 then (if a0 ≤ 122 then (some true) else (if a0 ≥ 48 then (if a0 ≤ 57 then (some true) else (some (a0 == 45))) else (some (a0 == 45)))) else (if a0 ≥ 48 then (if a0 ≤ 57 then (some true) else (some (a0 == 45))) else (some (a0 == 45)))) = some r := h
  clear h
  by_cases c2 : a0 ≥ 97
  · rw [if_pos c2] at H
    have c2b0 : decide (97 ≤ a0) = true := decide_eq_true c2
    clear c2
    by_cases c3 : a0 ≤ 122
    · rw [if_pos c3] at H
      have c3b0 : decide (a0 ≤ 122) = true := decide_eq_true c3
      clear c3
      obtain rfl := Option.some.inj H
      go_enter Try.func75, Try.ntmps75
      go_wp2
      go_ret
      exact ⟨by first | rfl | (simp; done) | (simp [*]; done), by repeat (first | exact Drawn0.refl _ | apply Drawn0.step)⟩
    rw [if_neg c3] at H
    have c3b0 : decide (a0 ≤ 122) = false := decide_eq_false c3
    clear c3
    by_cases c4 : a0 ≥ 48
    · rw [if_pos c4] at H
      have c4b0 : decide (48 ≤ a0) = true := decide_eq_true c4
      clear c4
      by_cases c5 : a0 ≤ 57
      · rw [if_pos c5] at H
        have c5b0 : decide (a0 ≤ 57) = true := decide_eq_true c5
        clear c5
        obtain rfl := Option.some.inj H
        go_enter Try.func75, Try.ntmps75
        go_wp2
        go_ret
        exact ⟨by first | rfl | (simp; done) | (simp [*]; done), by repeat (first | exact Drawn0.refl _ | apply Drawn0.step)⟩
      rw [if_neg c5] at H
      have c5b0 : decide (a0 ≤ 57) = false := decide_eq_false c5
      clear c5
      obtain rfl := Option.some.inj H
      go_enter Try.func75, Try.ntmps75
      go_wp2
      go_ret
      exact ⟨by first | rfl | (simp; done) | (simp [*]; done), by repeat (first | exact Drawn0.refl _ | apply Drawn0.step)⟩
    rw [if_neg c4] at H
    have c4b0 : decide (48 ≤ a0) = false := decide_eq_false c4
    clear c4
    obtain rfl := Option.some.inj H
    go_enter Try.func75, Try.ntmps75
    go_wp2
    go_ret
    exact ⟨by first | rfl | (simp; done) | (simp [*]; done), by repeat (first | exact Drawn0.refl _ | apply Drawn0.step)⟩
  rw [if_neg c2] at H
  have c2b0 : decide (97 ≤ a0) = false := decide_eq_false c2
  clear c2
  by_cases c6 : a0 ≥ 48
  · rw [if_pos c6] at H
    have c6b0 : decide (48 ≤ a0) = true := decide_eq_true c6
    clear c6
    by_cases c7 : a0 ≤ 57
    · rw [if_pos c7] at H
      have c7b0 : decide (a0 ≤ 57) = true := decide_eq_true c7
      clear c7
      obtain rfl := Option.some.inj H
      go_enter Try.func75, Try.ntmps75
      go_wp2
      go_ret
      exact ⟨by first | rfl | (simp; done) | (simp [*]; done), by repeat (first | exact Drawn0.refl _ | apply Drawn0.step)⟩
    rw [if_neg c7] at H
    have c7b0 : decide (a0 ≤ 57) = false := decide_eq_false c7
    clear c7
    obtain rfl := Option.some.inj H
    go_enter Try.func75, Try.ntmps75
    go_wp2
    go_ret
    exact ⟨by first | rfl | (simp; done) | (simp [*]; done), by repeat (first | exact Drawn0.refl _ | apply Drawn0.step)⟩
  rw [if_neg c6] at H
  have c6b0 : decide (48 ≤ a0) = false := decide_eq_false c6
  clear c6
  obtain rfl := Option.some.inj H
  go_enter Try.func75, Try.ntmps75
  go_wp2
  go_ret
  exact ⟨by first | rfl | (simp; done) | (simp [*]; done), by repeat (first | exact Drawn0.refl _ | apply Drawn0.step)⟩

/-! ### name_Label: function 62 -/
def name_Label.l0 : Nat → ByteArray → Int → Int → Option (Bool)
  | 0, _, _, _ => none
  | k + 1, x0, x5, x6 => if x6 < x5 then (if 0 ≤ x6 then (if x6 < (x0.size : Int) then ((name_letter.f (bt x0 x6)).bind fun t107 => (if t107 = true then (name_Label.l0 k x0 x5 (wrap64 (x6 + 1))) else (some false))) else (none)) else (none)) else (if (x0.size : Int) ≥ 1 then (some (decide ((x0.size : Int) ≤ 8))) else (some false))
def name_Label.f (k : Nat) (a0 : ByteArray) : Option (Bool) := name_Label.l0 k a0 (a0.size : Int) 0
theorem name_Label.mono_l : ∀ k, (∀ y0 y1 y2, LeO (name_Label.l0 k y0 y1 y2) (name_Label.l0 (k + 1) y0 y1 y2))
  | 0 => fun _ _ _ r h => by simp [name_Label.l0] at h
  | k + 1 => by
    have ih0 := name_Label.mono_l k
    · intro y0 y1 y2
      unfold name_Label.l0
      repeat' first
      | (with_reducible exact ih0 _ _ _)
      | (with_reducible exact LeO.refl _)
      | (with_reducible exact LeO.none _)
      | (with_reducible refine LeO.ite ?_ ?_)
      | (with_reducible refine LeO.bind ?_ (fun _ => ?_))
      | exact ih0 _ _ _
      | exact LeO.none _
      | refine LeO.ite ?_ ?_
      | refine LeO.bind ?_ (fun _ => ?_)
theorem name_Label.mono : ∀ a0 k, LeO (name_Label.f k a0) (name_Label.f (k + 1) a0) := by
  intro a0 k
  have ih0 := name_Label.mono_l k
  unfold name_Label.f
  repeat' first
      | (with_reducible exact ih0 _ _ _)
      | (with_reducible exact LeO.refl _)
      | (with_reducible exact LeO.none _)
      | (with_reducible refine LeO.ite ?_ ?_)
      | (with_reducible refine LeO.bind ?_ (fun _ => ?_))
      | exact ih0 _ _ _
      | exact LeO.none _
      | refine LeO.ite ?_ ?_
      | refine LeO.bind ?_ (fun _ => ?_)
set_option maxHeartbeats 8000000 in
set_option maxRecDepth 100000 in
theorem name_Label.calls (k : Nat) (a0 : ByteArray) (r : Bool) (w : World) (h : name_Label.f k a0 = some r) :
    Calls Try.prog 62 #[.string a0] w fun e w' => e = .returned (.bool r) ∧ Drawn0 w w' := by
  have H : (name_Label.l0 k a0 (a0.size : Int) 0) = some r := h
  clear h
  have H' := Aside0.mk H
  clear H
  go_enter Try.func62, Try.ntmps62
  go_wp2
  go_loopg [6] k (fun kq v6 w' => ∃ (x6_1 : Int), v6 = .int .i64 x6_1 ∧ Aside0 (name_Label.l0 kq a0 (a0.size : Int) x6_1 = some r) ∧ Aside0 (kq ≤ k) ∧ Drawn0 w w')
  case atStart => exact ⟨(0), (by first | rfl | (simp; done) | (simp [*]; done)), H', ⟨Nat.le_refl _⟩, by repeat (first | exact Drawn0.refl _ | apply Drawn0.step)⟩
  case round =>
    clear H'
    obtain ⟨x6_1, rfl, HA, HK1, ⟨m1, rfl⟩⟩ := hrel
    cases gk with
    | zero => exact absurd HA.out (by simp [name_Label.l0])
    | succ k1 =>
      have H := HA.out
      clear HA
      simp only [name_Label.l0] at H
      by_cases c2 : x6_1 < (a0.size : Int)
      · rw [if_pos c2] at H
        have c2b0 : decide (x6_1 < (a0.size : Int)) = true := decide_eq_true c2
        clear c2
        by_cases c3 : 0 ≤ x6_1
        rotate_left
        · rw [if_neg c3] at H
          exact absurd H (by simp)
        rw [if_pos c3] at H
        have c3b0 : decide (0 ≤ x6_1) = true := decide_eq_true c3
        clear c3
        by_cases c4 : x6_1 < (a0.size : Int)
        rotate_left
        · rw [if_neg c4] at H
          exact absurd H (by simp)
        rw [if_pos c4] at H
        have c4b0 : decide (x6_1 < (a0.size : Int)) = true := decide_eq_true c4
        clear c4
        replace H := Option.bind_eq_some_iff.mp H
        obtain ⟨t107, A60, H⟩ := H
        replace H : (if t107 = true then (name_Label.l0 k1 a0 (a0.size : Int) (wrap64 (x6_1 + 1))) else (some false)) = some r := H
        have A6 := Aside0.mk A60
        clear A60
        by_cases c7 : t107 = true
        · subst c7
          have H1 : (name_Label.l0 k1 a0 (a0.size : Int) (wrap64 (x6_1 + 1))) = some r := by rw [if_pos rfl] at H; exact H
          clear H
          have H := H1
          clear H1
          have H' := Aside0.mk H
          clear H
          have p5 : 0 ≤ (x6_1 : Int) := of_decide_eq_true (by first | (with_reducible assumption) | assumption)
          have q5 : x6_1 < (a0.size : Int) := of_decide_eq_true (by first | (with_reducible assumption) | assumption)
          have hx5 := bt_at a0 x6_1
          replace p5 := eq_true p5
          replace q5 := eq_true q5
          go_wp2_with (first | ((with_reducible refine gate_callee (f := 75) rfl ?_); refine goesL_ (some 12) rfl rfl Try.func75 (by kernel_rfl) rfl #[.int .u8 (bt a0 x6_1)] rfl (by (try simp only [List.map_toArray, List.map_cons, List.map_nil]); first | done | rfl | (simp only [List.length_drop, List.length_take]; rfl)) ?_; (with_reducible refine (name_letter.calls (bt a0 x6_1) true _ A6.out).mono ?_); rintro e w' ⟨rfl, ⟨nd, rfl⟩⟩; refine ⟨_, rfl, ?_⟩))
          go_roundg k1
          case measure => have := HK1.out; omega
          case rel => exact ⟨(wrap64 (x6_1 + 1)), (by first | rfl | (simp; done) | (simp [*]; done)), H', ⟨by have := HK1.out; omega⟩, by repeat (first | exact Drawn0.refl _ | apply Drawn0.step)⟩
        replace c7 := Bool.eq_false_iff.mpr c7
        subst c7
        have H1 : (some false) = some r := by rw [if_neg (show ¬ (false = true) by decide)] at H; exact H
        clear H
        have H := H1
        clear H1
        obtain rfl := Option.some.inj H
        have p5 : 0 ≤ (x6_1 : Int) := of_decide_eq_true (by first | (with_reducible assumption) | assumption)
        have q5 : x6_1 < (a0.size : Int) := of_decide_eq_true (by first | (with_reducible assumption) | assumption)
        have hx5 := bt_at a0 x6_1
        replace p5 := eq_true p5
        replace q5 := eq_true q5
        go_wp2_with (first | ((with_reducible refine gate_callee (f := 75) rfl ?_); refine goesL_ (some 12) rfl rfl Try.func75 (by kernel_rfl) rfl #[.int .u8 (bt a0 x6_1)] rfl (by (try simp only [List.map_toArray, List.map_cons, List.map_nil]); first | done | rfl | (simp only [List.length_drop, List.length_take]; rfl)) ?_; (with_reducible refine (name_letter.calls (bt a0 x6_1) false _ A6.out).mono ?_); rintro e w' ⟨rfl, ⟨nd, rfl⟩⟩; refine ⟨_, rfl, ?_⟩))
        go_ret
        exact ⟨by first | rfl | (simp; done) | (simp [*]; done), by repeat (first | exact Drawn0.refl _ | apply Drawn0.step)⟩
      rw [if_neg c2] at H
      have c2b0 : decide (x6_1 < (a0.size : Int)) = false := decide_eq_false c2
      clear c2
      by_cases c8 : (a0.size : Int) ≥ 1
      · rw [if_pos c8] at H
        have c8b0 : decide (1 ≤ (a0.size : Int)) = true := decide_eq_true c8
        have c8b1 : decide (1 ≤ a0.size) = true := decide_eq_true (by omega)
        clear c8
        obtain rfl := Option.some.inj H
        go_wp2
        go_ret
        exact ⟨by first | rfl | (simp; done) | (simp [*]; done), by repeat (first | exact Drawn0.refl _ | apply Drawn0.step)⟩
      rw [if_neg c8] at H
      have c8b0 : decide (1 ≤ (a0.size : Int)) = false := decide_eq_false c8
      have c8b1 : decide (1 ≤ a0.size) = false := decide_eq_false (by omega)
      clear c8
      obtain rfl := Option.some.inj H
      go_wp2
      go_ret
      exact ⟨by first | rfl | (simp; done) | (simp [*]; done), by repeat (first | exact Drawn0.refl _ | apply Drawn0.step)⟩

end Go.Proofs.Ytpfanafggmkejaa.PSweeps
