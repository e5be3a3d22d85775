-- Made by wip/pr.py out of the translation (a turned copy of the kit's print; contracts by hand where said).
import Derived.Test.YtibmakpghbinbaaPTx0
import Derived.Test.YtibmakpghbinbaaPTx2
namespace Go.Proofs.Ytibmakpghbinbaa.PT
open Go.RowKit Go.Proofs.YtibmakpghbinbaaW.PrintWords Go.Proofs.YtibmakpghbinbaaW.PrintLast Go.Proofs.YtibmakpghbinbaaW.PrintMore
-- shrunk
attribute [local go_sem] max2_int min2_int max_two min_two max_three min_three max_four min_four   -- for this text's walks alone
set_option linter.unusedVariables false
set_option linter.unusedSimpArgs false

/-! ### pinfoldlaw0_CopyLeases: function 49 -/
def pinfoldlaw0_CopyLeases.f (l0 : List (S37)) : Option ((List (S37))) := (some (([] : List (S37)) : List (S37))).bind fun y191 => (if y191.length + l0.length < 2199023255552 then (some (y191 ++ l0)) else (none))
set_option maxHeartbeats 8000000 in
set_option maxRecDepth 100000 in
theorem pinfoldlaw0_CopyLeases.calls (A0 : Option Addr) (c0 : Nat) (l0 : List (S37)) (r : List (S37)) (w : World) (hr0 : Kd.C k37 w A0 l0.length l0) (hc0 : l0.length ≤ c0) (h : pinfoldlaw0_CopyLeases.f l0 = some r) :
  Calls Try.prog 49 #[.slice A0 l0.length c0] w fun e w' => ∃ v0_ : Value, e = .returned (v0_) ∧ Kd.R k37 37 w' w.heap.size (fun _ => True) v0_ r ∧ Below w.heap.size w w' := by
 have HR0 := am_ hr0
 have HC0 := am_ hc0
 clear hr0 hc0
 have HB := am_ (Below.refl w.heap.size w)
 have H : ((some (([] : List (S37)) : List (S37))).bind fun y191 => (if y191.length + l0.length < 2199023255552 then (some (y191 ++ l0)) else (none))) = some r := h
 clear h
 obtain ⟨y191, hy191⟩ : ∃ y_ : List (S37), y_ = (([] : List (S37))) := ⟨_, rfl⟩
 replace H : (if y191.length + l0.length < 2199023255552 then (some (y191 ++ l0)) else (none)) = some r := by first | (rw [hy191]; with_reducible exact H) | (have H2_ := (Option.bind_some _ _).symm.trans H; rw [hy191]; with_reducible exact H2_) | (have H2_ := (Option.bind_some _ _).symm.trans H; with_reducible exact H2_) | with_reducible exact H | (rw [hy191]; exact H) | exact H
 have Ny191 := am_ hy191
 clear hy191
 by_cases c2 : y191.length + l0.length < 2199023255552
 rotate_left
 ·rw [if_neg c2] at H
  exact absurd H (by simp)
 rw [if_pos c2] at H
 have LMc2 := am_ c2
 clear c2
 obtain ⟨y194, hy194⟩ : ∃ y_ : List (S37), y_ = (y191 ++ l0) := ⟨_, rfl⟩
 replace H : (some y194) = some r := by first | (rw [hy194]; with_reducible exact H) | (have H2_ := (Option.bind_some _ _).symm.trans H; rw [hy194]; with_reducible exact H2_) | (have H2_ := (Option.bind_some _ _).symm.trans H; with_reducible exact H2_) | with_reducible exact H | (rw [hy194]; exact H) | exact H
 have Ny194 := am_ hy194
 clear hy194
 obtain rfl := e5_ H
 go_enter Try.func49, Try.ntmps49
 go_wp2_with (first | ((with_reducible refine gate_dst (N := 3) rfl ?_); refine Kd.R_lit k37 _ 37 ?hg (N := 3) ?hd (xs := ([] : List (S37))) (inner := []) (ok := fun _ => True) (okp := fun _ => True) ?hr ?hp (fun _ hk => hk) trivial (Below.refl _ _) (Nat.le_refl _) (by simp) ?_; (case hd => rfl); (case hg => rfl); (case hr => first | (go_simp; done) | (go_simp; rfl)); (case hp => exact (Reps.none _ _)); intro v192 w3 ho4 hb hg_ hnew_; clear hg_ hnew_; (first | rw [← Ny191.out] at ho4 | (simp only [Int.reduceToNat] at ho4; rw [← Ny191.out] at ho4)); have n0_ := am_ (Kd.R_lower ho4 (bz_ (by repeat (with_reducible first | exact HB.out | apply p3_ | apply p1_ | apply p2_)))); have n1_ := am_ (bt_ (by repeat (with_reducible first | exact HB.out | apply p3_ | apply p1_ | apply p2_)) hb); clear HB; have HO193 := n0_; have HB := n1_; clear n0_ n1_; clear hb ho4) | ((with_reducible refine gate_builtin (b := .append) (xs := #[.tmp 3, .tmp 4]) rfl ?_); at_builtin; refine Kd.R_append_rows k37 (w0 := w) w.heap.size rfl (.tmp 3) (.tmp 4) 27 37 (.agg #[(.int .i64 0), (.int .i64 0), (.string ⟨#[]⟩), (.int .i64 0), (.string ⟨#[]⟩), (.bool false)]) 64 rfl Try.underlying27 info37 rfl (by decide) (by omega) v192 y191 l0 _ _ _ (fun _ => True) (fun _ => False) rfl rfl ?aO ?aR (fun _ _ h => h) (fun _ h => h.elim) ?aF ?aB ?aS ?aL ?_; (case aR => repeat (first | exact (c4_ HR0.out HB.out) | (with_reducible refine c1_ ?_ _) | (with_reducible refine c2_ ?_ _) | (with_reducible refine c3_ ?_))); (case aB => exact (by repeat (with_reducible first | exact HB.out | apply p3_ | apply p1_ | apply p2_))); (case aF => exact (fun _ _ => trivial)); (case aO => exact (by (with_reducible repeat (first | apply r1_ | apply r2_ | apply r3_)); exact HO193.out)); (case aS => exact (bz_ (by repeat (with_reducible first | exact HB.out | apply p3_ | apply p1_ | apply p2_)))); (case aL => have := LMc2.out; omega); intro v195 w5 ho hb hg hat; rw [← Ny194.out] at ho; have n0_ := am_ (hb); have n1_ := am_ (ho); clear HB; clear HO193; have HB := n0_; have HO196 := n1_; clear n0_ n1_; clear ho hb hg hat))
 go_ret
 exact ⟨_, by first | rfl | (simp [errW_none, errW_some] <;> rfl) | (simp [*, errW_none, errW_some] <;> rfl), by (with_reducible repeat (first | apply r1_ | apply r2_ | apply r3_)); exact HO196.out, by repeat (with_reducible first | exact HB.out | apply p3_ | apply p1_ | apply p2_)⟩

/-! ### pinfoldlaw0_LendLeases: function 17 -/
-- BY HAND
-- what is lent: a row of its own with two leases behind its end.
def pinfoldlaw0_LendLeases.tl : List S37 := [(⟨77777, 0, (⟨#[]⟩ : ByteArray), 0, (⟨#[]⟩ : ByteArray), false⟩ : S37), (⟨77777, 0, (⟨#[]⟩ : ByteArray), 0, (⟨#[]⟩ : ByteArray), false⟩ : S37)]
def pinfoldlaw0_LendLeases.full (l : List S37) : List S37 := l ++ pinfoldlaw0_LendLeases.tl
theorem pinfoldlaw0_LendLeases.full_length (l : List S37) : (pinfoldlaw0_LendLeases.full l).length = l.length + 2 := by
 unfold pinfoldlaw0_LendLeases.full
 rw [List.length_append]
 rfl
theorem pinfoldlaw0_LendLeases.front {w : World} {A : Option Addr} {l : List S37} (h : Kd.C k37 w A (pinfoldlaw0_LendLeases.full l).length (pinfoldlaw0_LendLeases.full l)) : Kd.C k37 w A l.length l := by
 have h1 := Kd.C_take (m := l.length) h (by rw [pinfoldlaw0_LendLeases.full_length]; omega)
 unfold pinfoldlaw0_LendLeases.full at h1
 rw [List.take_left] at h1
 exact h1
theorem pinfoldlaw0_LendLeases.lent {w : World} {base : Nat} {ok : Nat → Prop} {A : Option Addr} {c : Nat} {l : List S37} (h : Kd.R k37 37 w base ok (.slice A (pinfoldlaw0_LendLeases.full l).length c) (pinfoldlaw0_LendLeases.full l)) : Kd.C k37 w A l.length l ∧ l.length ≤ c := by
 refine ⟨pinfoldlaw0_LendLeases.front (Kd.R_reads' h).2.2, ?_⟩
 have := (Kd.R_reads' h).2.1
 rw [pinfoldlaw0_LendLeases.full_length] at this
 omega
def pinfoldlaw0_LendLeases.f (l0 : List (S37)) : Option ((List (S37))) := if l0.length + 2 < 2199023255552 then some l0 else none
set_option maxHeartbeats 8000000 in
set_option maxRecDepth 100000 in
theorem pinfoldlaw0_LendLeases.calls (A0 : Option Addr) (c0 : Nat) (l0 : List (S37)) (r : List (S37)) (w : World) (hr0 : Kd.C k37 w A0 l0.length l0) (hc0 : l0.length ≤ c0) (h : pinfoldlaw0_LendLeases.f l0 = some r) :
  Calls Try.prog 17 #[.slice A0 l0.length c0] w fun e w' => ∃ (A : Option Addr) (c : Nat), e = .returned (.slice A r.length c) ∧ Kd.R k37 37 w' w.heap.size (fun _ => True) (.slice A (pinfoldlaw0_LendLeases.full r).length c) (pinfoldlaw0_LendLeases.full r) ∧ Below w.heap.size w w' := by
 have hu := Try.underlying37
 unfold pinfoldlaw0_LendLeases.f at h
 by_cases hlim : l0.length + 2 < 2199023255552
 rotate_left
 ·rw [if_neg hlim] at h
  exact absurd h (by simp)
 rw [if_pos hlim] at h
 obtain rfl := e5_ h
 clear h
 have HR0 := am_ hr0
 have HC0 := am_ hc0
 clear hr0 hc0
 have HB := am_ (Below.refl w.heap.size w)
 obtain ⟨t107, ht107⟩ : ∃ t, t = l0 := ⟨_, rfl⟩
 have A2 : Aside0 (pinfoldlaw0_CopyLeases.f l0 = some t107) := am_ (by
  rw [ht107]
  unfold pinfoldlaw0_CopyLeases.f
  simp only [Option.bind_some, List.length_nil, Nat.zero_add, List.nil_append]
  rw [if_pos (by omega)])
 obtain ⟨y110, hy110⟩ : ∃ y_ : List (S37), y_ = (([(⟨77777, 0, (⟨#[]⟩ : ByteArray), 0, (⟨#[]⟩ : ByteArray), false⟩ : S37), (⟨77777, 0, (⟨#[]⟩ : ByteArray), 0, (⟨#[]⟩ : ByteArray), false⟩ : S37)] : List (S37))) := ⟨_, rfl⟩
 have LMc3 : Aside0 (t107.length + y110.length < 2199023255552) := am_ (by rw [ht107, hy110]; exact hlim)
 obtain ⟨y113, hy113⟩ : ∃ y_ : List (S37), y_ = (t107 ++ y110) := ⟨_, rfl⟩
 have FULL : Aside0 (y113 = pinfoldlaw0_LendLeases.full l0) := am_ (by rw [hy113, ht107, hy110]; rfl)
 have hlen : y113.length = l0.length + 2 := by rw [FULL.out, pinfoldlaw0_LendLeases.full_length]
 have Ny110 := am_ hy110
 clear hy110
 have Ny113 := am_ hy113
 clear hy113
 have HLIM := am_ ht107
 clear ht107
 have c4 : 0 ≤ (l0.length : Int) := by omega
 have c4b0 := eq_true c4
 have c4b1 : decide (0 ≤ (l0.length : Int)) = true := decide_eq_true c4
 clear c4
 have c5 : (l0.length : Int) ≤ (y113.length : Int) := by omega
 have c5b0 := eq_true c5
 have c5b1 : decide ((l0.length : Int) ≤ (y113.length : Int)) = true := decide_eq_true c5
 clear c5 hlen hlim
 obtain ⟨y116, hy116⟩ : ∃ y_ : List (S37), y_ = (y113.take ((l0.length : Int) : Int).toNat) := ⟨_, rfl⟩
 have Ny116 := am_ hy116
 clear hy116
 go_enter Try.func17, Try.ntmps17
 go_wp2_with (first | ((with_reducible refine gate_callee (f := 49) rfl ?_); refine goesL_ (some 5) rfl rfl Try.func49 (by kernel_rfl) rfl #[.slice A0 l0.length c0] rfl (by (try simp only [List.map_toArray, List.map_cons, List.map_nil]); first | done | rfl | (simp only [List.length_drop, List.length_take]; rfl)) ?_; (with_reducible refine (pinfoldlaw0_CopyLeases.calls _ _ l0 t107 _ ?side1 ?side2 A2.out).mono ?_); (case side1 => repeat (first | exact HR0.out | (with_reducible refine c1_ ?_ _) | (with_reducible refine c2_ ?_ _) | (with_reducible refine c3_ ?_))); (case side2 => exact HC0.out); rintro e w6 ⟨v108, rfl, ho0, hb⟩; refine ⟨_, rfl, ?_⟩; have n0_ := am_ (Kd.R_lower ho0 (bz_ (by repeat (with_reducible first | exact HB.out | apply p3_ | apply p1_ | apply p2_)))); have n1_ := am_ (bt_ (by repeat (with_reducible first | exact HB.out | apply p3_ | apply p1_ | apply p2_)) hb); clear HB; have HO109 := n0_; have HB := n1_; clear n0_ n1_; (try clear hb); (try clear ho0)) | ((with_reducible refine gate_dst (N := 8) rfl ?_); refine Kd.R_lit k37 _ 37 ?hg (N := 8) ?hd (xs := ([(⟨77777, 0, (⟨#[]⟩ : ByteArray), 0, (⟨#[]⟩ : ByteArray), false⟩ : S37), (⟨77777, 0, (⟨#[]⟩ : ByteArray), 0, (⟨#[]⟩ : ByteArray), false⟩ : S37)] : List (S37))) (inner := [.int .i64 77777, .int .i64 0, .string (⟨#[]⟩ : ByteArray), .int .i64 0, .string (⟨#[]⟩ : ByteArray), .bool false, .int .i64 77777, .int .i64 0, .string (⟨#[]⟩ : ByteArray), .int .i64 0, .string (⟨#[]⟩ : ByteArray), .bool false]) (ok := fun _ => True) (okp := fun _ => True) ?hr ?hp (fun _ hk => hk) trivial (Below.refl _ _) (Nat.le_refl _) (by simp) ?_; (case hd => rfl); (case hg => rfl); (case hr => first | (go_simp; done) | (go_simp; rfl)); (case hp => exact (Reps.c6 (show Kd.M k37 _ _ _ (⟨77777, 0, (⟨#[]⟩ : ByteArray), 0, (⟨#[]⟩ : ByteArray), false⟩ : S37) [.int .i64 77777, .int .i64 0, .string (⟨#[]⟩ : ByteArray), .int .i64 0, .string (⟨#[]⟩ : ByteArray), .bool false] from (k37_mkM _ _ _ (⟨77777, 0, (⟨#[]⟩ : ByteArray), 0, (⟨#[]⟩ : ByteArray), false⟩ : S37) )) (Reps.c6 (show Kd.M k37 _ _ _ (⟨77777, 0, (⟨#[]⟩ : ByteArray), 0, (⟨#[]⟩ : ByteArray), false⟩ : S37) [.int .i64 77777, .int .i64 0, .string (⟨#[]⟩ : ByteArray), .int .i64 0, .string (⟨#[]⟩ : ByteArray), .bool false] from (k37_mkM _ _ _ (⟨77777, 0, (⟨#[]⟩ : ByteArray), 0, (⟨#[]⟩ : ByteArray), false⟩ : S37) )) (Reps.none _ _)))); intro v111 w7 ho8 hb hg_ hnew_; clear hg_ hnew_; (first | rw [← Ny110.out] at ho8 | (simp only [Int.reduceToNat] at ho8; rw [← Ny110.out] at ho8)); have n0_ := am_ (r5_ (by (with_reducible repeat (first | apply r1_ | apply r2_ | apply r3_)); exact HO109.out) (r4_ ho8) hb); have n1_ := am_ (Kd.R_lower (Kd.R_new' ho8 (Kd.R_lt (by (with_reducible repeat (first | apply r1_ | apply r2_ | apply r3_)); exact HO109.out))) (bz_ (by repeat (with_reducible first | exact HB.out | apply p3_ | apply p1_ | apply p2_)))); have n2_ := am_ (bt_ (by repeat (with_reducible first | exact HB.out | apply p3_ | apply p1_ | apply p2_)) hb); clear HO109; clear HB; have HO109 := n0_; have HO112 := n1_; have HB := n2_; clear n0_ n1_ n2_; clear hb ho8; obtain ⟨Ao10, co10, eo10⟩ := Kd.R_slice HO112.out; subst eo10) | ((with_reducible refine gate_builtin (b := .append) (xs := #[.tmp 5, .tmp 8]) rfl ?_); at_builtin; refine Kd.R_append_rows k37 (w0 := w) w.heap.size rfl (.tmp 5) (.tmp 8) 27 37 (.agg #[(.int .i64 0), (.int .i64 0), (.string ⟨#[]⟩), (.int .i64 0), (.string ⟨#[]⟩), (.bool false)]) 64 rfl Try.underlying27 info37 rfl (by decide) (by omega) v108 t107 y110 _ _ _ (fun k_ => some k_ ≠ (.slice Ao10 y110.length co10 : Value).ownBlock) (fun _ => False) rfl rfl ?aO ?aR (fun _ _ h => h) (fun _ h => h.elim) ?aF ?aB ?aS ?aL ?_; (case aR => repeat (first | exact (Kd.R_reads' HO112.out).2.2 | (with_reducible refine c1_ ?_ _) | (with_reducible refine c2_ ?_ _) | (with_reducible refine c3_ ?_))); (case aB => exact (by repeat (with_reducible first | exact HB.out | apply p3_ | apply p1_ | apply p2_))); (case aF => exact (fun k_ hk => Kd.fresh' (Kd.R_lt (by (with_reducible repeat (first | apply r1_ | apply r2_ | apply r3_)); exact HO112.out)) k_ hk)); (case aO => exact (by (with_reducible repeat (first | apply r1_ | apply r2_ | apply r3_)); exact Kd.R_mono HO109.out (fun _ hk => hk.2))); (case aS => exact (bz_ (by repeat (with_reducible first | exact HB.out | apply p3_ | apply p1_ | apply p2_)))); (case aL => have := LMc3.out; omega); intro v114 w9 ho hb hg hat; rw [← Ny113.out] at ho; have n0_ := am_ (Kd.R_after (ok := (fun _ => True)) (by (with_reducible repeat (first | apply r1_ | apply r2_ | apply r3_)); exact HO112.out) hg hat); have n1_ := am_ (hb); have n2_ := am_ (ho); clear HO112; clear HB; clear HO109; have HO112 := n0_; have HB := n1_; have HO115 := n2_; clear n0_ n1_ n2_; clear ho hb hg hat; obtain ⟨Ao11, co11, eo11⟩ := Kd.R_slice HO115.out; subst eo11; have q12 : ((l0.length : Int) : Int) ≤ ((y113.length : Int) : Int) := of_decide_eq_true (by first | (with_reducible assumption) | assumption); obtain ⟨i012, hi012, _, hsz12, _⟩ := info_parts info37; have hcut12 := cut_to (P := Try.prog) 27 37 .i64 Try.underlying27 hi012 Ao11 y113.length co11 (l0.length : Int) (of_decide_eq_true (by first | (with_reducible assumption) | assumption)) q12 (Kd.R_reads' HO115.out).2.1; have hr12 := Kd.R_take (m := ((l0.length : Int) : Int).toNat) HO115.out (by omega); have hy12 : y116.length = ((l0.length : Int) : Int).toNat := (by rw [Ny116.out, List.length_take]; omega); rw [Int.toNat_natCast] at hcut12; clear hy12 hr12 hi012 hsz12; replace q12 := eq_true q12))
 go_ret
 refine ⟨_, _, by first | rfl | (simp; done), ?_, by repeat (with_reducible first | exact HB.out | apply p3_ | apply p1_ | apply p2_)⟩
 rw [← FULL.out]
 (with_reducible repeat (first | apply r1_ | apply r2_ | apply r3_))
 exact Kd.R_mono HO115.out (fun _ hk => trivial)

/-! ### pinfoldref1_parts: function 97 -/
def pinfoldref1_parts.l0 : Nat → ByteArray → List ByteArray → Int → Int → Option (List ByteArray)
 | 0, _, _, _, _ => none
 | k + 1, x0, x3, x4, x5 => if x5 ≤ (x0.size : Int) then (if x5 = (x0.size : Int) then (if 0 ≤ x4 then (if x4 ≤ x5 then (if x3.length < 8796093022208 then (pinfoldref1_parts.l0 k x0 (x3 ++ [x0.extract (x4 : Int).toNat (x5 : Int).toNat]) (wrap64 (x5 + 1)) (wrap64 (x5 + 1))) else (none)) else (none)) else (none)) else (if 0 ≤ x5 then (if x5 < (x0.size : Int) then (if (bt x0 x5) = 46 then (if 0 ≤ x4 then (if x4 ≤ x5 then (if x3.length < 8796093022208 then (pinfoldref1_parts.l0 k x0 (x3 ++ [x0.extract (x4 : Int).toNat (x5 : Int).toNat]) (wrap64 (x5 + 1)) (wrap64 (x5 + 1))) else (none)) else (none)) else (none)) else (pinfoldref1_parts.l0 k x0 x3 x4 (wrap64 (x5 + 1)))) else (none)) else (none))) else (some x3)
def pinfoldref1_parts.f (k : Nat) (a0 : ByteArray) : Option (List ByteArray) := pinfoldref1_parts.l0 k a0 ([] : List ByteArray) 0 0
theorem pinfoldref1_parts.mono_l : ∀ k, (∀ y0 y1 y2 y3, LeO (pinfoldref1_parts.l0 k y0 y1 y2 y3) (pinfoldref1_parts.l0 (k + 1) y0 y1 y2 y3))
 | 0 => fun _ _ _ _ r h => by simp [pinfoldref1_parts.l0] at h
 | k + 1 => by
  have ih0 := pinfoldref1_parts.mono_l k
  ·intro y0 y1 y2 y3
   unfold pinfoldref1_parts.l0
   repeat' first
   | (with_reducible exact ih0 _ _ _ _)
   | (with_reducible exact LeO.refl _)
   | (with_reducible exact LeO.none _)
   | (with_reducible refine LeO.ite ?_ ?_)
   | (with_reducible refine LeO.bind ?_ (fun _ => ?_))
   | exact ih0 _ _ _ _
   | exact LeO.none _
   | refine LeO.ite ?_ ?_
   | refine LeO.bind ?_ (fun _ => ?_)
theorem pinfoldref1_parts.mono : ∀ a0 k, LeO (pinfoldref1_parts.f k a0) (pinfoldref1_parts.f (k + 1) a0) := by
 intro a0 k
 have ih0 := pinfoldref1_parts.mono_l k
 unfold pinfoldref1_parts.f
 repeat' first
   | (with_reducible exact ih0 _ _ _ _)
   | (with_reducible exact LeO.refl _)
   | (with_reducible exact LeO.none _)
   | (with_reducible refine LeO.ite ?_ ?_)
   | (with_reducible refine LeO.bind ?_ (fun _ => ?_))
   | exact ih0 _ _ _ _
   | exact LeO.none _
   | refine LeO.ite ?_ ?_
   | refine LeO.bind ?_ (fun _ => ?_)
set_option maxHeartbeats 8000000 in
set_option maxRecDepth 100000 in
theorem pinfoldref1_parts.calls (k : Nat) (a0 : ByteArray) (r : List ByteArray) (w : World) (h : pinfoldref1_parts.f k a0 = some r) :
  Calls Try.prog 97 #[.string a0] w fun e w' => ∃ v0_ : Value, e = .returned (v0_) ∧ Kd.R Kd.string 9 w' w.heap.size (fun _ => True) v0_ r ∧ Below w.heap.size w w' := by
 have HB := am_ (Below.refl w.heap.size w)
 have H : (pinfoldref1_parts.l0 k a0 ([] : List ByteArray) 0 0) = some r := h
 clear h
 have H' := am_ H
 clear H
 go_enter Try.func97, Try.ntmps97
 go_wp2
 go_loopg [3, 4, 5] k (fun kq v3 v4 v5 w' => ∃ (x3_1 : List ByteArray) (x4_1 : Int) (x5_1 : Int), v4 = .int .i64 x4_1 ∧ v5 = .int .i64 x5_1 ∧ Aside0 (pinfoldref1_parts.l0 kq a0 x3_1 x4_1 x5_1 = some r) ∧ Aside0 (kq ≤ k) ∧ Aside0 (Kd.R Kd.string 9 w' w.heap.size (fun _ => True) v3 x3_1) ∧ Aside0 (Below w.heap.size w w'))
 case atStart => exact ⟨(([] : List ByteArray)), (0), (0), (by first | rfl | (simp; done) | (simp [*]; done)), (by first | rfl | (simp; done) | (simp [*]; done)), H', ⟨Nat.le_refl _⟩, ⟨by first | exact Kd.R_nil _ _ _ _ _ | exact Kd.N_nil _ _ _ _ _ | exact Kd.V_nil _ _ _ _ _ | exact Kd.Q_nil _ _ _ _ _ | exact Kd.S_nil _ _ _ _ _⟩, ⟨by repeat (with_reducible first | exact HB.out | apply p3_ | apply p1_ | apply p2_)⟩⟩
 case round =>
  clear H'
  obtain ⟨x3_1, x4_1, x5_1, rfl, rfl, HA, HK1, HO_3, HB⟩ := hrel
  cases gk with
  | zero => exact absurd HA.out (by simp [pinfoldref1_parts.l0])
  | succ k1 =>
   have H := HA.out
   clear HA
   simp only [pinfoldref1_parts.l0] at H
   by_cases c2 : x5_1 ≤ (a0.size : Int)
   ·rw [if_pos c2] at H
    have c2b0 : decide (x5_1 ≤ (a0.size : Int)) = true := decide_eq_true c2
    clear c2
    by_cases c3 : x5_1 = (a0.size : Int)
    ·rw [if_pos c3] at H
     have c3b0 : (x5_1 == (a0.size : Int)) = true := beq_iff_eq.mpr c3
     have c3b1 : (x5_1 != (a0.size : Int)) = false := e1_ c3
     clear c3
     by_cases c4 : 0 ≤ x4_1
     rotate_left
     ·rw [if_neg c4] at H
      exact absurd H (by simp)
     rw [if_pos c4] at H
     have c4b0 := eq_true c4
     have c4b1 : decide (0 ≤ x4_1) = true := decide_eq_true c4
     clear c4
     by_cases c5 : x4_1 ≤ x5_1
     rotate_left
     ·rw [if_neg c5] at H
      exact absurd H (by simp)
     rw [if_pos c5] at H
     have c5b0 := eq_true c5
     have c5b1 : decide (x4_1 ≤ x5_1) = true := decide_eq_true c5
     clear c5
     have c6b0 := eq_true (of_decide_eq_true (by first | (with_reducible assumption) | assumption) : x5_1 ≤ (a0.size : Int))
     by_cases c7 : x3_1.length < 8796093022208
     rotate_left
     ·rw [if_neg c7] at H
      exact absurd H (by simp)
     rw [if_pos c7] at H
     have LMc7 := am_ c7
     clear c7
     obtain ⟨y197, hy197⟩ : ∃ y_ : List ByteArray, y_ = (x3_1 ++ [a0.extract (x4_1 : Int).toNat (x5_1 : Int).toNat]) := ⟨_, rfl⟩
     replace H : (pinfoldref1_parts.l0 k1 a0 y197 (wrap64 (x5_1 + 1)) (wrap64 (x5_1 + 1))) = some r := by first | (rw [hy197]; with_reducible exact H) | (have H2_ := (Option.bind_some _ _).symm.trans H; rw [hy197]; with_reducible exact H2_) | (have H2_ := (Option.bind_some _ _).symm.trans H; with_reducible exact H2_) | with_reducible exact H | (rw [hy197]; exact H) | exact H
     have Ny197 := am_ hy197
     clear hy197
     have H' := am_ H
     clear H
     go_wp2_with (first | ((with_reducible refine gate_builtin (b := .append) (xs := #[.tmp 22, .tmp 27]) rfl ?_); at_builtin; refine Kd.R_append Kd.string (w0 := w) w.heap.size rfl (.tmp 22) (.tmp 27) 135 9 (.string ⟨#[]⟩) 16 rfl Try.underlying135 info9 rfl (by decide) (by omega) u3 x3_1 (a0.extract (x4_1 : Int).toNat (x5_1 : Int).toNat) [.string (a0.extract (x4_1 : Int).toNat (x5_1 : Int).toNat)] (fun _ => True) (fun _ => False) rfl rfl ?aP (fun _ hk => hk.elim) ?aF ?aO ?aB ?aS ?aL ?_; (case aP => exact rfl); (case aB => exact (by repeat (with_reducible first | exact HB.out | apply p3_ | apply p1_ | apply p2_))); (case aF => exact (fun _ _ => trivial)); (case aO => exact (by (with_reducible repeat (first | apply r1_ | apply r2_ | apply r3_)); exact HO_3.out)); (case aS => exact (bz_ (by repeat (with_reducible first | exact HB.out | apply p3_ | apply p1_ | apply p2_)))); (case aL => have := LMc7.out; omega); intro v198 w8 ho hb hg hat; rw [← Ny197.out] at ho; have n0_ := am_ (hb); have n1_ := am_ (ho); clear HB; clear HO_3; have HB := n0_; have HO199 := n1_; clear n0_ n1_; clear ho hb hg hat))
     go_roundg k1
     case measure => have := HK1.out; omega
     case rel => exact ⟨(y197), (wrap64 (x5_1 + 1)), (wrap64 (x5_1 + 1)), (by first | rfl | (simp; done) | (simp [*]; done)), (by first | rfl | (simp; done) | (simp [*]; done)), H', ⟨by have := HK1.out; omega⟩, ⟨by (with_reducible repeat (first | apply r1_ | apply r2_ | apply r3_)); exact HO199.out⟩, ⟨by repeat (with_reducible first | exact HB.out | apply p3_ | apply p1_ | apply p2_)⟩⟩
    rw [if_neg c3] at H
    have c3b0 : (x5_1 == (a0.size : Int)) = false := e2_ c3
    have c3b1 : (x5_1 != (a0.size : Int)) = true := bne_iff_ne.mpr c3
    by_cases c9 : 0 ≤ x5_1
    rotate_left
    ·rw [if_neg c9] at H
     exact absurd H (by simp)
    rw [if_pos c9] at H
    have c9b0 : decide (0 ≤ x5_1) = true := decide_eq_true c9
    clear c9
    by_cases c10 : x5_1 < (a0.size : Int)
    rotate_left
    ·rw [if_neg c10] at H
     exact absurd H (by simp)
    rw [if_pos c10] at H
    have c10b0 : decide (x5_1 < (a0.size : Int)) = true := decide_eq_true c10
    clear c10
    by_cases c12 : (bt a0 x5_1) = 46
    ·rw [if_pos c12] at H
     have c12b0 : ((bt a0 x5_1) == 46) = true := beq_iff_eq.mpr c12
     have c12b1 : ((bt a0 x5_1) != 46) = false := e1_ c12
     clear c12
     by_cases c13 : 0 ≤ x4_1
     rotate_left
     ·rw [if_neg c13] at H
      exact absurd H (by simp)
     rw [if_pos c13] at H
     have c13b0 := eq_true c13
     have c13b1 : decide (0 ≤ x4_1) = true := decide_eq_true c13
     clear c13
     by_cases c14 : x4_1 ≤ x5_1
     rotate_left
     ·rw [if_neg c14] at H
      exact absurd H (by simp)
     rw [if_pos c14] at H
     have c14b0 := eq_true c14
     have c14b1 : decide (x4_1 ≤ x5_1) = true := decide_eq_true c14
     clear c14
     have c15b0 := eq_true (of_decide_eq_true (by first | (with_reducible assumption) | assumption) : x5_1 ≤ (a0.size : Int))
     by_cases c16 : x3_1.length < 8796093022208
     rotate_left
     ·rw [if_neg c16] at H
      exact absurd H (by simp)
     rw [if_pos c16] at H
     have LMc16 := am_ c16
     clear c16
     obtain ⟨y200, hy200⟩ : ∃ y_ : List ByteArray, y_ = (x3_1 ++ [a0.extract (x4_1 : Int).toNat (x5_1 : Int).toNat]) := ⟨_, rfl⟩
     replace H : (pinfoldref1_parts.l0 k1 a0 y200 (wrap64 (x5_1 + 1)) (wrap64 (x5_1 + 1))) = some r := by first | (rw [hy200]; with_reducible exact H) | (have H2_ := (Option.bind_some _ _).symm.trans H; rw [hy200]; with_reducible exact H2_) | (have H2_ := (Option.bind_some _ _).symm.trans H; with_reducible exact H2_) | with_reducible exact H | (rw [hy200]; exact H) | exact H
     have Ny200 := am_ hy200
     clear hy200
     have H' := am_ H
     clear H
     have p11 : 0 ≤ (x5_1 : Int) := of_decide_eq_true (by first | (with_reducible assumption) | assumption)
     have q11 : x5_1 < (a0.size : Int) := of_decide_eq_true (by first | (with_reducible assumption) | assumption)
     have hx11 := bt_at a0 x5_1
     replace p11 := eq_true p11
     replace q11 := eq_true q11
     go_wp2_with (first | ((with_reducible refine gate_builtin (b := .append) (xs := #[.tmp 22, .tmp 27]) rfl ?_); at_builtin; refine Kd.R_append Kd.string (w0 := w) w.heap.size rfl (.tmp 22) (.tmp 27) 135 9 (.string ⟨#[]⟩) 16 rfl Try.underlying135 info9 rfl (by decide) (by omega) u3 x3_1 (a0.extract (x4_1 : Int).toNat (x5_1 : Int).toNat) [.string (a0.extract (x4_1 : Int).toNat (x5_1 : Int).toNat)] (fun _ => True) (fun _ => False) rfl rfl ?aP (fun _ hk => hk.elim) ?aF ?aO ?aB ?aS ?aL ?_; (case aP => exact rfl); (case aB => exact (by repeat (with_reducible first | exact HB.out | apply p3_ | apply p1_ | apply p2_))); (case aF => exact (fun _ _ => trivial)); (case aO => exact (by (with_reducible repeat (first | apply r1_ | apply r2_ | apply r3_)); exact HO_3.out)); (case aS => exact (bz_ (by repeat (with_reducible first | exact HB.out | apply p3_ | apply p1_ | apply p2_)))); (case aL => have := LMc16.out; omega); intro v201 w17 ho hb hg hat; rw [← Ny200.out] at ho; have n0_ := am_ (hb); have n1_ := am_ (ho); clear HB; clear HO_3; have HB := n0_; have HO202 := n1_; clear n0_ n1_; clear ho hb hg hat))
     go_roundg k1
     case measure => have := HK1.out; omega
     case rel => exact ⟨(y200), (wrap64 (x5_1 + 1)), (wrap64 (x5_1 + 1)), (by first | rfl | (simp; done) | (simp [*]; done)), (by first | rfl | (simp; done) | (simp [*]; done)), H', ⟨by have := HK1.out; omega⟩, ⟨by (with_reducible repeat (first | apply r1_ | apply r2_ | apply r3_)); exact HO202.out⟩, ⟨by repeat (with_reducible first | exact HB.out | apply p3_ | apply p1_ | apply p2_)⟩⟩
    rw [if_neg c12] at H
    have c12b0 : ((bt a0 x5_1) == 46) = false := e2_ c12
    have c12b1 : ((bt a0 x5_1) != 46) = true := bne_iff_ne.mpr c12
    have H' := am_ H
    clear H
    have p11 : 0 ≤ (x5_1 : Int) := of_decide_eq_true (by first | (with_reducible assumption) | assumption)
    have q11 : x5_1 < (a0.size : Int) := of_decide_eq_true (by first | (with_reducible assumption) | assumption)
    have hx11 := bt_at a0 x5_1
    replace p11 := eq_true p11
    replace q11 := eq_true q11
    go_wp2
    go_roundg k1
    case measure => have := HK1.out; omega
    case rel => exact ⟨(x3_1), (x4_1), (wrap64 (x5_1 + 1)), (by first | rfl | (simp; done) | (simp [*]; done)), (by first | rfl | (simp; done) | (simp [*]; done)), H', ⟨by have := HK1.out; omega⟩, ⟨by (with_reducible repeat (first | apply r1_ | apply r2_ | apply r3_)); exact HO_3.out⟩, ⟨by repeat (with_reducible first | exact HB.out | apply p3_ | apply p1_ | apply p2_)⟩⟩
   rw [if_neg c2] at H
   have c2b0 : decide (x5_1 ≤ (a0.size : Int)) = false := decide_eq_false c2
   clear c2
   obtain rfl := e5_ H
   go_wp2
   go_ret
   exact ⟨_, by first | rfl | (simp [errW_none, errW_some] <;> rfl) | (simp [*, errW_none, errW_some] <;> rfl), by (with_reducible repeat (first | apply r1_ | apply r2_ | apply r3_)); exact HO_3.out, by repeat (with_reducible first | exact HB.out | apply p3_ | apply p1_ | apply p2_)⟩

/-! ### pinfoldref1_labelMay: function 98 -/
def pinfoldref1_labelMay.l0 : Nat → ByteArray → Int → Option (Bool)
 | 0, _, _ => none
 | k + 1, x0, x3 => if x3 < (x0.size : Int) then (if 0 ≤ x3 then (if (bt x0 x3) < 97 then (if (bt x0 x3) < 48 then (if (bt x0 x3) = 45 then (pinfoldref1_labelMay.l0 k x0 (wrap64 (x3 + 1))) else (some false)) else (if (bt x0 x3) > 57 then (if (bt x0 x3) = 45 then (pinfoldref1_labelMay.l0 k x0 (wrap64 (x3 + 1))) else (some false)) else (pinfoldref1_labelMay.l0 k x0 (wrap64 (x3 + 1))))) else (if (bt x0 x3) > 122 then (if (bt x0 x3) < 48 then (if (bt x0 x3) = 45 then (pinfoldref1_labelMay.l0 k x0 (wrap64 (x3 + 1))) else (some false)) else (if (bt x0 x3) > 57 then (if (bt x0 x3) = 45 then (pinfoldref1_labelMay.l0 k x0 (wrap64 (x3 + 1))) else (some false)) else (pinfoldref1_labelMay.l0 k x0 (wrap64 (x3 + 1))))) else (pinfoldref1_labelMay.l0 k x0 (wrap64 (x3 + 1))))) else (none)) else (if (x0.size : Int) ≥ 1 then (some (decide ((x0.size : Int) ≤ 8))) else (some false))
def pinfoldref1_labelMay.f (k : Nat) (a0 : ByteArray) : Option (Bool) := pinfoldref1_labelMay.l0 k a0 0
theorem pinfoldref1_labelMay.mono_l : ∀ k, (∀ y0 y1, LeO (pinfoldref1_labelMay.l0 k y0 y1) (pinfoldref1_labelMay.l0 (k + 1) y0 y1))
 | 0 => fun _ _ r h => by simp [pinfoldref1_labelMay.l0] at h
 | k + 1 => by
  have ih0 := pinfoldref1_labelMay.mono_l k
  ·intro y0 y1
   unfold pinfoldref1_labelMay.l0
   repeat' first
   | (with_reducible exact ih0 _ _)
   | (with_reducible exact LeO.refl _)
   | (with_reducible exact LeO.none _)
   | (with_reducible refine LeO.ite ?_ ?_)
   | (with_reducible refine LeO.bind ?_ (fun _ => ?_))
   | exact ih0 _ _
   | exact LeO.none _
   | refine LeO.ite ?_ ?_
   | refine LeO.bind ?_ (fun _ => ?_)
theorem pinfoldref1_labelMay.mono : ∀ a0 k, LeO (pinfoldref1_labelMay.f k a0) (pinfoldref1_labelMay.f (k + 1) a0) := by
 intro a0 k
 have ih0 := pinfoldref1_labelMay.mono_l k
 unfold pinfoldref1_labelMay.f
 repeat' first
   | (with_reducible exact ih0 _ _)
   | (with_reducible exact LeO.refl _)
   | (with_reducible exact LeO.none _)
   | (with_reducible refine LeO.ite ?_ ?_)
   | (with_reducible refine LeO.bind ?_ (fun _ => ?_))
   | exact ih0 _ _
   | exact LeO.none _
   | refine LeO.ite ?_ ?_
   | refine LeO.bind ?_ (fun _ => ?_)
set_option maxHeartbeats 8000000 in
set_option maxRecDepth 100000 in
theorem pinfoldref1_labelMay.calls (k : Nat) (a0 : ByteArray) (r : Bool) (w : World) (h : pinfoldref1_labelMay.f k a0 = some r) :
  Calls Try.prog 98 #[.string a0] w fun e w' => e = .returned (.bool r) ∧ Drawn0 w w' := by
 have H : (pinfoldref1_labelMay.l0 k a0 0) = some r := h
 clear h
 have H' := am_ H
 clear H
 go_enter Try.func98, Try.ntmps98
 go_wp2
 go_loopg [3] k (fun kq v3 w' => ∃ (x3_1 : Int), v3 = .int .i64 x3_1 ∧ Aside0 (pinfoldref1_labelMay.l0 kq a0 x3_1 = some r) ∧ Aside0 (kq ≤ k) ∧ Drawn0 w w')
 case atStart => exact ⟨(0), (by first | rfl | (simp; done) | (simp [*]; done)), H', ⟨Nat.le_refl _⟩, by repeat (first | exact Drawn0.refl _ | apply Drawn0.step)⟩
 case round =>
  clear H'
  obtain ⟨x3_1, rfl, HA, HK1, ⟨m1, rfl⟩⟩ := hrel
  cases gk with
  | zero => exact absurd HA.out (by simp [pinfoldref1_labelMay.l0])
  | succ k1 =>
   have H := HA.out
   clear HA
   simp only [pinfoldref1_labelMay.l0] at H
   by_cases c2 : x3_1 < (a0.size : Int)
   ·rw [if_pos c2] at H
    have c2b0 : decide (x3_1 < (a0.size : Int)) = true := decide_eq_true c2
    clear c2
    by_cases c3 : 0 ≤ x3_1
    rotate_left
    ·rw [if_neg c3] at H
     exact absurd H (by simp)
    rw [if_pos c3] at H
    have c3b0 : decide (0 ≤ x3_1) = true := decide_eq_true c3
    clear c3
    by_cases c5 : (bt a0 x3_1) < 97
    ·rw [if_pos c5] at H
     have c5b0 : decide ((bt a0 x3_1) < 97) = true := decide_eq_true c5
     clear c5
     by_cases c6 : (bt a0 x3_1) < 48
     ·rw [if_pos c6] at H
      have c6b0 : decide ((bt a0 x3_1) < 48) = true := decide_eq_true c6
      clear c6
      by_cases c7 : (bt a0 x3_1) = 45
      ·rw [if_pos c7] at H
       have c7b0 : ((bt a0 x3_1) == 45) = true := beq_iff_eq.mpr c7
       have c7b1 : ((bt a0 x3_1) != 45) = false := e1_ c7
       clear c7
       have H' := am_ H
       clear H
       have p4 : 0 ≤ (x3_1 : Int) := of_decide_eq_true (by first | (with_reducible assumption) | assumption)
       have q4 : x3_1 < (a0.size : Int) := of_decide_eq_true (by first | (with_reducible assumption) | assumption)
       have hx4 := bt_at a0 x3_1
       replace p4 := eq_true p4
       replace q4 := eq_true q4
       go_wp2
       go_roundg k1
       case measure => have := HK1.out; omega
       case rel => exact ⟨(wrap64 (x3_1 + 1)), (by first | rfl | (simp; done) | (simp [*]; done)), H', ⟨by have := HK1.out; omega⟩, by repeat (first | exact Drawn0.refl _ | apply Drawn0.step)⟩
      rw [if_neg c7] at H
      have c7b0 : ((bt a0 x3_1) == 45) = false := e2_ c7
      have c7b1 : ((bt a0 x3_1) != 45) = true := bne_iff_ne.mpr c7
      obtain rfl := e5_ H
      have p4 : 0 ≤ (x3_1 : Int) := of_decide_eq_true (by first | (with_reducible assumption) | assumption)
      have q4 : x3_1 < (a0.size : Int) := of_decide_eq_true (by first | (with_reducible assumption) | assumption)
      have hx4 := bt_at a0 x3_1
      replace p4 := eq_true p4
      replace q4 := eq_true q4
      go_wp2
      go_ret
      exact ⟨by first | rfl | (simp; done) | (simp [*]; done), by repeat (first | exact Drawn0.refl _ | apply Drawn0.step)⟩
     rw [if_neg c6] at H
     have c6b0 : decide ((bt a0 x3_1) < 48) = false := decide_eq_false c6
     clear c6
     by_cases c8 : (bt a0 x3_1) > 57
     ·rw [if_pos c8] at H
      have c8b0 : decide (57 < (bt a0 x3_1)) = true := decide_eq_true c8
      clear c8
      by_cases c9 : (bt a0 x3_1) = 45
      ·rw [if_pos c9] at H
       have c9b0 : ((bt a0 x3_1) == 45) = true := beq_iff_eq.mpr c9
       have c9b1 : ((bt a0 x3_1) != 45) = false := e1_ c9
       clear c9
       have H' := am_ H
       clear H
       have p4 : 0 ≤ (x3_1 : Int) := of_decide_eq_true (by first | (with_reducible assumption) | assumption)
       have q4 : x3_1 < (a0.size : Int) := of_decide_eq_true (by first | (with_reducible assumption) | assumption)
       have hx4 := bt_at a0 x3_1
       replace p4 := eq_true p4
       replace q4 := eq_true q4
       go_wp2
       go_roundg k1
       case measure => have := HK1.out; omega
       case rel => exact ⟨(wrap64 (x3_1 + 1)), (by first | rfl | (simp; done) | (simp [*]; done)), H', ⟨by have := HK1.out; omega⟩, by repeat (first | exact Drawn0.refl _ | apply Drawn0.step)⟩
      rw [if_neg c9] at H
      have c9b0 : ((bt a0 x3_1) == 45) = false := e2_ c9
      have c9b1 : ((bt a0 x3_1) != 45) = true := bne_iff_ne.mpr c9
      obtain rfl := e5_ H
      have p4 : 0 ≤ (x3_1 : Int) := of_decide_eq_true (by first | (with_reducible assumption) | assumption)
      have q4 : x3_1 < (a0.size : Int) := of_decide_eq_true (by first | (with_reducible assumption) | assumption)
      have hx4 := bt_at a0 x3_1
      replace p4 := eq_true p4
      replace q4 := eq_true q4
      go_wp2
      go_ret
      exact ⟨by first | rfl | (simp; done) | (simp [*]; done), by repeat (first | exact Drawn0.refl _ | apply Drawn0.step)⟩
     rw [if_neg c8] at H
     have c8b0 : decide (57 < (bt a0 x3_1)) = false := decide_eq_false c8
     clear c8
     have H' := am_ H
     clear H
     have p4 : 0 ≤ (x3_1 : Int) := of_decide_eq_true (by first | (with_reducible assumption) | assumption)
     have q4 : x3_1 < (a0.size : Int) := of_decide_eq_true (by first | (with_reducible assumption) | assumption)
     have hx4 := bt_at a0 x3_1
     replace p4 := eq_true p4
     replace q4 := eq_true q4
     go_wp2
     go_roundg k1
     case measure => have := HK1.out; omega
     case rel => exact ⟨(wrap64 (x3_1 + 1)), (by first | rfl | (simp; done) | (simp [*]; done)), H', ⟨by have := HK1.out; omega⟩, by repeat (first | exact Drawn0.refl _ | apply Drawn0.step)⟩
    rw [if_neg c5] at H
    have c5b0 : decide ((bt a0 x3_1) < 97) = false := decide_eq_false c5
    clear c5
    by_cases c10 : (bt a0 x3_1) > 122
    ·rw [if_pos c10] at H
     have c10b0 : decide (122 < (bt a0 x3_1)) = true := decide_eq_true c10
     clear c10
     by_cases c11 : (bt a0 x3_1) < 48
     ·rw [if_pos c11] at H
      have c11b0 : decide ((bt a0 x3_1) < 48) = true := decide_eq_true c11
      clear c11
      by_cases c12 : (bt a0 x3_1) = 45
      ·rw [if_pos c12] at H
       have c12b0 : ((bt a0 x3_1) == 45) = true := beq_iff_eq.mpr c12
       have c12b1 : ((bt a0 x3_1) != 45) = false := e1_ c12
       clear c12
       have H' := am_ H
       clear H
       have p4 : 0 ≤ (x3_1 : Int) := of_decide_eq_true (by first | (with_reducible assumption) | assumption)
       have q4 : x3_1 < (a0.size : Int) := of_decide_eq_true (by first | (with_reducible assumption) | assumption)
       have hx4 := bt_at a0 x3_1
       replace p4 := eq_true p4
       replace q4 := eq_true q4
       go_wp2
       go_roundg k1
       case measure => have := HK1.out; omega
       case rel => exact ⟨(wrap64 (x3_1 + 1)), (by first | rfl | (simp; done) | (simp [*]; done)), H', ⟨by have := HK1.out; omega⟩, by repeat (first | exact Drawn0.refl _ | apply Drawn0.step)⟩
      rw [if_neg c12] at H
      have c12b0 : ((bt a0 x3_1) == 45) = false := e2_ c12
      have c12b1 : ((bt a0 x3_1) != 45) = true := bne_iff_ne.mpr c12
      obtain rfl := e5_ H
      have p4 : 0 ≤ (x3_1 : Int) := of_decide_eq_true (by first | (with_reducible assumption) | assumption)
      have q4 : x3_1 < (a0.size : Int) := of_decide_eq_true (by first | (with_reducible assumption) | assumption)
      have hx4 := bt_at a0 x3_1
      replace p4 := eq_true p4
      replace q4 := eq_true q4
      go_wp2
      go_ret
      exact ⟨by first | rfl | (simp; done) | (simp [*]; done), by repeat (first | exact Drawn0.refl _ | apply Drawn0.step)⟩
     rw [if_neg c11] at H
     have c11b0 : decide ((bt a0 x3_1) < 48) = false := decide_eq_false c11
     clear c11
     by_cases c13 : (bt a0 x3_1) > 57
     ·rw [if_pos c13] at H
      have c13b0 : decide (57 < (bt a0 x3_1)) = true := decide_eq_true c13
      clear c13
      by_cases c14 : (bt a0 x3_1) = 45
      ·rw [if_pos c14] at H
       have c14b0 : ((bt a0 x3_1) == 45) = true := beq_iff_eq.mpr c14
       have c14b1 : ((bt a0 x3_1) != 45) = false := e1_ c14
       clear c14
       have H' := am_ H
       clear H
       have p4 : 0 ≤ (x3_1 : Int) := of_decide_eq_true (by first | (with_reducible assumption) | assumption)
       have q4 : x3_1 < (a0.size : Int) := of_decide_eq_true (by first | (with_reducible assumption) | assumption)
       have hx4 := bt_at a0 x3_1
       replace p4 := eq_true p4
       replace q4 := eq_true q4
       go_wp2
       go_roundg k1
       case measure => have := HK1.out; omega
       case rel => exact ⟨(wrap64 (x3_1 + 1)), (by first | rfl | (simp; done) | (simp [*]; done)), H', ⟨by have := HK1.out; omega⟩, by repeat (first | exact Drawn0.refl _ | apply Drawn0.step)⟩
      rw [if_neg c14] at H
      have c14b0 : ((bt a0 x3_1) == 45) = false := e2_ c14
      have c14b1 : ((bt a0 x3_1) != 45) = true := bne_iff_ne.mpr c14
      obtain rfl := e5_ H
      have p4 : 0 ≤ (x3_1 : Int) := of_decide_eq_true (by first | (with_reducible assumption) | assumption)
      have q4 : x3_1 < (a0.size : Int) := of_decide_eq_true (by first | (with_reducible assumption) | assumption)
      have hx4 := bt_at a0 x3_1
      replace p4 := eq_true p4
      replace q4 := eq_true q4
      go_wp2
      go_ret
      exact ⟨by first | rfl | (simp; done) | (simp [*]; done), by repeat (first | exact Drawn0.refl _ | apply Drawn0.step)⟩
     rw [if_neg c13] at H
     have c13b0 : decide (57 < (bt a0 x3_1)) = false := decide_eq_false c13
     clear c13
     have H' := am_ H
     clear H
     have p4 : 0 ≤ (x3_1 : Int) := of_decide_eq_true (by first | (with_reducible assumption) | assumption)
     have q4 : x3_1 < (a0.size : Int) := of_decide_eq_true (by first | (with_reducible assumption) | assumption)
     have hx4 := bt_at a0 x3_1
     replace p4 := eq_true p4
     replace q4 := eq_true q4
     go_wp2
     go_roundg k1
     case measure => have := HK1.out; omega
     case rel => exact ⟨(wrap64 (x3_1 + 1)), (by first | rfl | (simp; done) | (simp [*]; done)), H', ⟨by have := HK1.out; omega⟩, by repeat (first | exact Drawn0.refl _ | apply Drawn0.step)⟩
    rw [if_neg c10] at H
    have c10b0 : decide (122 < (bt a0 x3_1)) = false := decide_eq_false c10
    clear c10
    have H' := am_ H
    clear H
    have p4 : 0 ≤ (x3_1 : Int) := of_decide_eq_true (by first | (with_reducible assumption) | assumption)
    have q4 : x3_1 < (a0.size : Int) := of_decide_eq_true (by first | (with_reducible assumption) | assumption)
    have hx4 := bt_at a0 x3_1
    replace p4 := eq_true p4
    replace q4 := eq_true q4
    go_wp2
    go_roundg k1
    case measure => have := HK1.out; omega
    case rel => exact ⟨(wrap64 (x3_1 + 1)), (by first | rfl | (simp; done) | (simp [*]; done)), H', ⟨by have := HK1.out; omega⟩, by repeat (first | exact Drawn0.refl _ | apply Drawn0.step)⟩
   rw [if_neg c2] at H
   have c2b0 : decide (x3_1 < (a0.size : Int)) = false := decide_eq_false c2
   clear c2
   by_cases c15 : (a0.size : Int) ≥ 1
   ·rw [if_pos c15] at H
    have c15b0 : decide (1 ≤ (a0.size : Int)) = true := decide_eq_true c15
    have c15b1 : decide (1 ≤ a0.size) = true := decide_eq_true (by omega)
    clear c15
    obtain rfl := e5_ H
    go_wp2
    go_ret
    exact ⟨by first | rfl | (simp; done) | (simp [*]; done), by repeat (first | exact Drawn0.refl _ | apply Drawn0.step)⟩
   rw [if_neg c15] at H
   have c15b0 : decide (1 ≤ (a0.size : Int)) = false := decide_eq_false c15
   have c15b1 : decide (1 ≤ a0.size) = false := decide_eq_false (by omega)
   clear c15
   obtain rfl := e5_ H
   go_wp2
   go_ret
   exact ⟨by first | rfl | (simp; done) | (simp [*]; done), by repeat (first | exact Drawn0.refl _ | apply Drawn0.step)⟩

/-! ### pinfoldref1_NameMay: function 82 -/
def pinfoldref1_NameMay.l0 : Nat → List ByteArray → Int → Option (Bool)
 | 0, _, _ => none
 | k + 1, x3, x4 => if x4 < (x3.length : Int) then (if 0 ≤ x4 then ((pinfoldref1_labelMay.f k (rdOf ByteArray.empty x3 x4)).bind fun t207 => (if t207 = true then (pinfoldref1_NameMay.l0 k x3 (wrap64 (x4 + 1))) else (some false))) else (none)) else (some (decide ((x3.length : Int) ≤ 8)))
def pinfoldref1_NameMay.f (k : Nat) (a0 : ByteArray) : Option (Bool) := if a0.toList = ([] : List UInt8) then (some true) else ((pinfoldref1_parts.f k a0).bind fun t203 => (pinfoldref1_NameMay.l0 k t203 0))
theorem pinfoldref1_NameMay.mono_l : ∀ k, (∀ y0 y1, LeO (pinfoldref1_NameMay.l0 k y0 y1) (pinfoldref1_NameMay.l0 (k + 1) y0 y1))
 | 0 => fun _ _ r h => by simp [pinfoldref1_NameMay.l0] at h
 | k + 1 => by
  have ih0 := pinfoldref1_NameMay.mono_l k
  ·intro y0 y1
   unfold pinfoldref1_NameMay.l0
   repeat' first
   | (with_reducible exact ih0 _ _)
   | (with_reducible exact pinfoldref1_labelMay.mono _ _)
   | (with_reducible exact pinfoldref1_parts.mono _ _)
   | (with_reducible exact LeO.refl _)
   | (with_reducible exact LeO.none _)
   | (with_reducible refine LeO.ite ?_ ?_)
   | (with_reducible refine LeO.bind ?_ (fun _ => ?_))
   | exact ih0 _ _
   | exact pinfoldref1_labelMay.mono _ _
   | exact pinfoldref1_parts.mono _ _
   | exact LeO.none _
   | refine LeO.ite ?_ ?_
   | refine LeO.bind ?_ (fun _ => ?_)
theorem pinfoldref1_NameMay.mono : ∀ a0 k, LeO (pinfoldref1_NameMay.f k a0) (pinfoldref1_NameMay.f (k + 1) a0) := by
 intro a0 k
 have ih0 := pinfoldref1_NameMay.mono_l k
 unfold pinfoldref1_NameMay.f
 repeat' first
   | (with_reducible exact ih0 _ _)
   | (with_reducible exact pinfoldref1_labelMay.mono _ _)
   | (with_reducible exact pinfoldref1_parts.mono _ _)
   | (with_reducible exact LeO.refl _)
   | (with_reducible exact LeO.none _)
   | (with_reducible refine LeO.ite ?_ ?_)
   | (with_reducible refine LeO.bind ?_ (fun _ => ?_))
   | exact ih0 _ _
   | exact pinfoldref1_labelMay.mono _ _
   | exact pinfoldref1_parts.mono _ _
   | exact LeO.none _
   | refine LeO.ite ?_ ?_
   | refine LeO.bind ?_ (fun _ => ?_)
set_option maxHeartbeats 8000000 in
set_option maxRecDepth 100000 in
theorem pinfoldref1_NameMay.calls (k : Nat) (a0 : ByteArray) (r : Bool) (w : World) (h : pinfoldref1_NameMay.f k a0 = some r) :
  Calls Try.prog 82 #[.string a0] w fun e w' => e = .returned (.bool r) ∧ Below w.heap.size w w' := by
 have HB := am_ (Below.refl w.heap.size w)
 have H : (if a0.toList = ([] : List UInt8) then (some true) else ((pinfoldref1_parts.f k a0).bind fun t203 => (pinfoldref1_NameMay.l0 k t203 0))) = some r := h
 clear h
 by_cases c2 : a0.toList = ([] : List UInt8)
 ·rw [if_pos c2] at H
  have c2b0 : (a0.toList == ([] : List UInt8)) = true := beq_iff_eq.mpr c2
  have c2b1 : (a0.toList != ([] : List UInt8)) = false := e1_ c2
  clear c2
  obtain rfl := e5_ H
  go_enter Try.func82, Try.ntmps82
  go_wp2
  go_ret
  exact ⟨by first | rfl | (simp [errW_none, errW_some] <;> rfl) | (simp [*, errW_none, errW_some] <;> rfl) | (simp only [str_ne_]; rfl) | (simp only [str_eq_]; rfl), by repeat (with_reducible first | exact HB.out | apply p3_ | apply p1_ | apply p2_)⟩
 rw [if_neg c2] at H
 have c2b0 : (a0.toList == ([] : List UInt8)) = false := e2_ c2
 have c2b1 : (a0.toList != ([] : List UInt8)) = true := bne_iff_ne.mpr c2
 replace H := e4_ H
 obtain ⟨t203, A30, H⟩ := H
 replace H : (pinfoldref1_NameMay.l0 k t203 0) = some r := H
 have A3 := am_ A30
 clear A30
 have H' := am_ H
 clear H
 go_enter Try.func82, Try.ntmps82
 go_wp2_with (first | ((with_reducible refine gate_callee (f := 97) rfl ?_); refine goesL_ (some 8) rfl rfl Try.func97 (by kernel_rfl) rfl #[.string a0] rfl (by (try simp only [List.map_toArray, List.map_cons, List.map_nil]); first | done | rfl | (simp only [List.length_drop, List.length_take]; rfl)) ?_; (with_reducible refine (pinfoldref1_parts.calls k a0 t203 _ A3.out).mono ?_); rintro e w4 ⟨v204, rfl, ho0, hb⟩; refine ⟨_, rfl, ?_⟩; have n0_ := am_ (Kd.R_lower ho0 (bz_ (by repeat (with_reducible first | exact HB.out | apply p3_ | apply p1_ | apply p2_)))); have n1_ := am_ (bt_ (by repeat (with_reducible first | exact HB.out | apply p3_ | apply p1_ | apply p2_)) hb); clear HB; have HO205 := n0_; have HB := n1_; clear n0_ n1_; (try clear hb); (try clear ho0)))
 go_loopg [4] k (fun kq v4 w' => ∃ (x4_1 : Int), v4 = .int .i64 x4_1 ∧ Aside0 (pinfoldref1_NameMay.l0 kq t203 x4_1 = some r) ∧ Aside0 (kq ≤ k) ∧ Aside0 (Kd.R Kd.string 9 w' w.heap.size (fun _ => True) v204 t203) ∧ Aside0 (Below w.heap.size w w'))
 case atStart => exact ⟨(0), (by first | rfl | (simp; done) | (simp [*]; done) | (simp only [str_ne_]; rfl) | (simp only [str_eq_]; rfl)), H', ⟨Nat.le_refl _⟩, ⟨by (with_reducible repeat (first | apply r1_ | apply r2_ | apply r3_)); exact HO205.out⟩, ⟨by repeat (with_reducible first | exact HB.out | apply p3_ | apply p1_ | apply p2_)⟩⟩
 case round =>
  clear H'
  (try clear c2); (try clear c2b0); (try clear c2b1)
  obtain ⟨x4_1, rfl, HA, HK1, HO_3, HB⟩ := hrel
  cases gk with
  | zero => exact absurd HA.out (by simp [pinfoldref1_NameMay.l0])
  | succ k1 =>
   have H := HA.out
   clear HA
   simp only [pinfoldref1_NameMay.l0] at H
   by_cases c5 : x4_1 < (t203.length : Int)
   ·rw [if_pos c5] at H
    have c5b0 : decide (x4_1 < (t203.length : Int)) = true := decide_eq_true c5
    clear c5
    by_cases c6 : 0 ≤ x4_1
    rotate_left
    ·rw [if_neg c6] at H
     exact absurd H (by simp)
    rw [if_pos c6] at H
    have c6b0 : decide (0 ≤ x4_1) = true := decide_eq_true c6
    clear c6
    replace H := e4_ H
    obtain ⟨t207, A70, H⟩ := H
    replace H : (if t207 = true then (pinfoldref1_NameMay.l0 k1 t203 (wrap64 (x4_1 + 1))) else (some false)) = some r := H
    have A7 := am_ A70
    clear A70
    by_cases c8 : t207 = true
    ·subst c8
     have H1 : (pinfoldref1_NameMay.l0 k1 t203 (wrap64 (x4_1 + 1))) = some r := by rw [if_pos rfl] at H; exact H
     clear H
     have H := H1
     clear H1
     have H' := am_ H
     clear H
     obtain ⟨Ao9, co9, eo9⟩ := Kd.R_slice HO_3.out
     subst eo9
     have p206 : 0 ≤ (x4_1 : Int) := of_decide_eq_true (by first | (with_reducible assumption) | assumption)
     have q206 : x4_1 < (t203.length : Int) := of_decide_eq_true (by first | (with_reducible assumption) | assumption)
     obtain ⟨ad206, e206, hx206_0⟩ := Kd.at_string (Kd.R_reads' HO_3.out).2.2 x4_1 p206 q206
     cases e206
     replace p206 := eq_true p206
     replace q206 := eq_true q206
     go_wp2_with (first | ((with_reducible refine gate_callee (f := 98) rfl ?_); refine goesL_ (some 19) rfl rfl Try.func98 (by kernel_rfl) rfl #[.string (rdOf ByteArray.empty t203 x4_1)] rfl (by (try simp only [List.map_toArray, List.map_cons, List.map_nil]); first | done | rfl | (simp only [List.length_drop, List.length_take]; rfl)) ?_; (with_reducible refine (pinfoldref1_labelMay.calls k1 (rdOf ByteArray.empty t203 x4_1) true _ A7.out).mono ?_); rintro e w' ⟨rfl, ⟨nd, rfl⟩⟩; refine ⟨_, rfl, ?_⟩))
     go_roundg k1
     case measure => have := HK1.out; omega
     case rel => exact ⟨(wrap64 (x4_1 + 1)), (by first | rfl | (simp; done) | (simp [*]; done) | (simp only [str_ne_]; rfl) | (simp only [str_eq_]; rfl)), H', ⟨by have := HK1.out; omega⟩, ⟨by (with_reducible repeat (first | apply r1_ | apply r2_ | apply r3_)); exact HO_3.out⟩, ⟨by repeat (with_reducible first | exact HB.out | apply p3_ | apply p1_ | apply p2_)⟩⟩
    replace c8 := e3_ c8
    subst c8
    have H1 : (some false) = some r := by rw [if_neg (show ¬ (false = true) by decide)] at H; exact H
    clear H
    have H := H1
    clear H1
    obtain rfl := e5_ H
    obtain ⟨Ao10, co10, eo10⟩ := Kd.R_slice HO_3.out
    subst eo10
    have p206 : 0 ≤ (x4_1 : Int) := of_decide_eq_true (by first | (with_reducible assumption) | assumption)
    have q206 : x4_1 < (t203.length : Int) := of_decide_eq_true (by first | (with_reducible assumption) | assumption)
    obtain ⟨ad206, e206, hx206_0⟩ := Kd.at_string (Kd.R_reads' HO_3.out).2.2 x4_1 p206 q206
    cases e206
    replace p206 := eq_true p206
    replace q206 := eq_true q206
    go_wp2_with (first | ((with_reducible refine gate_callee (f := 98) rfl ?_); refine goesL_ (some 19) rfl rfl Try.func98 (by kernel_rfl) rfl #[.string (rdOf ByteArray.empty t203 x4_1)] rfl (by (try simp only [List.map_toArray, List.map_cons, List.map_nil]); first | done | rfl | (simp only [List.length_drop, List.length_take]; rfl)) ?_; (with_reducible refine (pinfoldref1_labelMay.calls k1 (rdOf ByteArray.empty t203 x4_1) false _ A7.out).mono ?_); rintro e w' ⟨rfl, ⟨nd, rfl⟩⟩; refine ⟨_, rfl, ?_⟩))
    go_ret
    exact ⟨by first | rfl | (simp [errW_none, errW_some] <;> rfl) | (simp [*, errW_none, errW_some] <;> rfl) | (simp only [str_ne_]; rfl) | (simp only [str_eq_]; rfl), by repeat (with_reducible first | exact HB.out | apply p3_ | apply p1_ | apply p2_)⟩
   rw [if_neg c5] at H
   have c5b0 : decide (x4_1 < (t203.length : Int)) = false := decide_eq_false c5
   clear c5
   obtain rfl := e5_ H
   obtain ⟨Ao11, co11, eo11⟩ := Kd.R_slice HO_3.out
   subst eo11
   go_wp2
   go_ret
   exact ⟨by first | rfl | (simp [errW_none, errW_some] <;> rfl) | (simp [*, errW_none, errW_some] <;> rfl) | (simp only [str_ne_]; rfl) | (simp only [str_eq_]; rfl), by repeat (with_reducible first | exact HB.out | apply p3_ | apply p1_ | apply p2_)⟩

/-! ### pinfoldref1_NameMay_c: function 82 -/
-- inc refname.inc
theorem cutL_len : ∀ l, (cutL l).length ≤ l.length + 1
 | [] => by simp [cutL]
 | b :: l => by
  have ih := cutL_len l
  have hn := cutL_ne l
  unfold cutL
  split
  ·simp only [List.length_cons]; omega
  ·cases hc : cutL l with
   | nil => exact absurd hc hn
   | cons q qs =>
    rw [hc] at ih
    simp only [glue, List.length_cons] at ih ⊢
    omega
theorem extract_end (s : ByteArray) (a b : Nat) (h : b ≤ a) : bytesOf (s.extract a b) = [] := by
 rw [bytesOf_extract, show b - a = 0 by omega, List.take_zero]
theorem extract_next (s : ByteArray) (a b : Nat) (h : a ≤ b) (hb : b < s.size) : bytesOf (s.extract a (b + 1)) = bytesOf (s.extract a b) ++ [bt s b] := by
 rw [bytesOf_extract, bytesOf_extract, show b + 1 - a = (b - a) + 1 by omega, List.take_succ_eq_append_getElem (by rw [List.length_drop, bytesOf_length]; omega)]
 congr 1
 have := drop_cons s b hb
 rw [show b = a + (b - a) by omega, ← List.drop_drop] at this
 rw [List.drop_eq_getElem_cons (by rw [List.length_drop, bytesOf_length]; omega)] at this
 rw [List.cons.injEq] at this
 rw [this.1, show a + (b - a) = b by omega]

theorem reflabel_loop (s : ByteArray) (hs : s.size ≤ 4611686018427387904) (d : Nat) : ∀ (k i : Nat), i + d = s.size → d < k →
  pinfoldref1_labelMay.l0 k s (i : Int) = some (((bytesOf s).drop i).all letterB && decide (1 ≤ s.size ∧ s.size ≤ 8)) := by
 have key : ∀ (x : Option Bool) (b : Int), (if b < 97 then (if b < 48 then (if b = 45 then x else some false) else (if b > 57 then (if b = 45 then x else some false) else x)) else (if b > 122 then (if b < 48 then (if b = 45 then x else some false) else (if b > 57 then (if b = 45 then x else some false) else x)) else x)) = if letterB b = true then x else some false := by
  intro x b
  unfold letterB
  simp only [decide_eq_true_eq]
  repeat' split
  all_goals first
   | rfl
   | (exfalso; omega)
 induction d with
 | zero =>
  intro k i hi hk
  obtain ⟨k, rfl⟩ : ∃ m, k = m + 1 := ⟨k - 1, by omega⟩
  rw [pinfoldref1_labelMay.l0, if_neg (by omega), drop_end s i (by omega)]
  simp only [List.all_nil, Bool.true_and]
  split
  ·congr 1
   rw [Bool.eq_iff_iff]
   simp only [decide_eq_true_eq]
   omega
  ·congr 1
   symm
   rw [decide_eq_false_iff_not]
   omega
 | succ d ih =>
  intro k i hi hk
  obtain ⟨k, rfl⟩ : ∃ m, k = m + 1 := ⟨k - 1, by omega⟩
  rw [pinfoldref1_labelMay.l0, if_pos (by omega), if_pos (by omega), key, drop_cons s i (by omega)]
  simp only [List.all_cons]
  cases letterB (bt s i) with
  | true =>
   rw [if_pos rfl, w64 (by omega)]
   have := ih k (i + 1) (by omega) (by omega)
   rw [show ((i : Int) + 1) = ((i + 1 : Nat) : Int) by omega, this]
   simp
  | false => simp
theorem reflabel_eq (k : Nat) (s : ByteArray) (hs : s.size ≤ 4611686018427387904) (hk : s.size < k) : pinfoldref1_labelMay.f k s = some (labelB (bytesOf s)) := by
 unfold pinfoldref1_labelMay.f
 have := reflabel_loop s hs s.size k 0 (by omega) hk
 rw [show ((0 : Nat) : Int) = 0 by rfl] at this
 rw [this]
 unfold labelB
 rw [List.drop_zero, bytesOf_length]

theorem parts_loop (s : ByteArray) (hs : s.size ≤ 140737488351232) (d : Nat) : ∀ (k i f : Nat) (out : List ByteArray), i + d = s.size → d + 2 ≤ k → f ≤ i → out.length + d + 1 ≤ 8796093022208 →
  ∃ r, pinfoldref1_parts.l0 k s out (f : Int) (i : Int) = some (out ++ r) ∧ r.map bytesOf = glue (bytesOf (s.extract f i)) (cutL ((bytesOf s).drop i)) ∧ ∀ x ∈ r, x.size ≤ s.size := by
 induction d with
 | zero =>
  intro k i f out hi hk hf ho
  obtain ⟨k, rfl⟩ : ∃ m, k = m + 2 := ⟨k - 2, by omega⟩
  refine ⟨[s.extract f i], ?_, ?_, ?_⟩
  ·rw [pinfoldref1_parts.l0, if_pos (by omega), if_pos (by omega), if_pos (by omega), if_pos (by omega), if_pos (by omega), w64 (by omega), pinfoldref1_parts.l0, if_neg (by omega), Int.toNat_natCast, Int.toNat_natCast]
  ·rw [drop_end s i (by omega)]
   simp [cutL, glue]
  ·intro x hx
   rw [List.mem_singleton.1 hx, ByteArray.size_extract]
   omega
 | succ d ih =>
  intro k i f out hi hk hf ho
  obtain ⟨k, rfl⟩ : ∃ m, k = m + 1 := ⟨k - 1, by omega⟩
  rw [pinfoldref1_parts.l0, if_pos (by omega), if_neg (by omega), if_pos (by omega), if_pos (by omega), drop_cons s i (by omega)]
  by_cases hp : bt s i = 46
  ·obtain ⟨r, h1, h2, h3⟩ := ih k (i + 1) (i + 1) (out ++ [s.extract f i]) (by omega) (by omega) (by omega) (by rw [List.length_append, List.length_singleton]; omega)
   refine ⟨s.extract f i :: r, ?_, ?_, ?_⟩
   ·rw [if_pos hp, if_pos (by omega), if_pos (by omega), if_pos (by omega), w64 (by omega), Int.toNat_natCast, Int.toNat_natCast, show ((i : Int) + 1) = ((i + 1 : Nat) : Int) by omega, h1, List.append_assoc]
    rfl
   ·rw [extract_end s (i + 1) (i + 1) (Nat.le_refl _), glue_nil _ (cutL_ne _)] at h2
    rw [List.map_cons, h2, hp, cutL_point]
    simp [glue]
   ·intro x hx
    rcases List.mem_cons.1 hx with rfl | hx
    ·rw [ByteArray.size_extract]
     omega
    ·exact h3 x hx
  ·obtain ⟨r, h1, h2, h3⟩ := ih k (i + 1) f out (by omega) (by omega) (by omega) (by omega)
   refine ⟨r, ?_, ?_, h3⟩
   ·rw [if_neg hp, w64 (by omega), show ((i : Int) + 1) = ((i + 1 : Nat) : Int) by omega, h1]
   ·rw [h2, cutL_other _ _ hp, extract_next s f i hf (by omega), glue_glue]
theorem parts_eq (k : Nat) (s : ByteArray) (hs : s.size ≤ 8796093022000) (hk : s.size + 2 ≤ k) :
  ∃ r, pinfoldref1_parts.f k s = some r ∧ r.map bytesOf = cutL (bytesOf s) ∧ ∀ x ∈ r, x.size ≤ s.size := by
 obtain ⟨r, h1, h2, h3⟩ := parts_loop s (by omega) s.size k 0 0 [] (by omega) hk (by omega) (by simp only [List.length_nil]; omega)
 refine ⟨r, ?_, ?_, h3⟩
 ·unfold pinfoldref1_parts.f
  rw [show ((0 : Nat) : Int) = 0 by rfl, List.nil_append] at h1
  exact h1
 ·rw [h2, extract_end s 0 0 (Nat.le_refl _), glue_nil _ (cutL_ne _), List.drop_zero]

theorem refname_loop (r : List ByteArray) (m : Nat) (hr : ∀ x ∈ r, x.size ≤ m) (hm : m ≤ 140737488351232) (hl : r.length ≤ 140737488351232) (d : Nat) : ∀ (k i : Nat), i + d = r.length → d + m + 2 ≤ k →
  pinfoldref1_NameMay.l0 k r (i : Int) = some (((r.map bytesOf).drop i).all labelB && decide (r.length ≤ 8)) := by
 induction d with
 | zero =>
  intro k i hi hk
  obtain ⟨k, rfl⟩ : ∃ j, k = j + 1 := ⟨k - 1, by omega⟩
  rw [pinfoldref1_NameMay.l0, if_neg (by omega), List.drop_eq_nil_of_le (by rw [List.length_map]; omega), List.all_nil, Bool.true_and]
  congr 1
  rw [Bool.eq_iff_iff]
  simp only [decide_eq_true_eq]
  omega
 | succ d ih =>
  intro k i hi hk
  obtain ⟨k, rfl⟩ : ∃ j, k = j + 1 := ⟨k - 1, by omega⟩
  have hil : i < r.length := by omega
  have e : rdOf ByteArray.empty r (i : Int) = r[i] := by
   unfold rdOf
   rw [Int.toNat_natCast, List.getD_eq_getElem?_getD, List.getElem?_eq_getElem hil]
   rfl
  have hx := hr r[i] (List.getElem_mem hil)
  rw [pinfoldref1_NameMay.l0, if_pos (by omega), if_pos (by omega), e, reflabel_eq k r[i] (by omega) (by omega), List.drop_eq_getElem_cons (by rw [List.length_map]; exact hil), List.all_cons, List.getElem_map]
  simp only [Option.bind_some]
  cases labelB (bytesOf r[i]) with
  | true =>
   rw [if_pos rfl, w64 (by omega), show ((i : Int) + 1) = ((i + 1 : Nat) : Int) by omega, ih k (i + 1) (by omega) (by omega), Bool.true_and]
  | false => rfl
/-- what the document says of a name. -/
theorem refname_eq (k : Nat) (s : ByteArray) (hs : s.size ≤ 8796093022000) (hk : 2 * s.size + 10 ≤ k) : pinfoldref1_NameMay.f k s = some (nameB (bytesOf s)) := by
 unfold pinfoldref1_NameMay.f nameB
 by_cases h : s.size = 0
 ·have hz : bytesOf s = [] := List.length_eq_zero_iff.1 (by rw [bytesOf_length]; omega)
  rw [if_pos ((toList_nil s).2 h), hz]
  rfl
 ·have hz : bytesOf s ≠ [] := fun e => h (by rw [← bytesOf_length, e]; rfl)
  obtain ⟨r, h1, h2, h3⟩ := parts_eq k s hs (by omega)
  have hl : r.length = (cutL (bytesOf s)).length := by rw [← h2, List.length_map]
  have hc := cutL_len (bytesOf s)
  rw [bytesOf_length] at hc
  have := refname_loop r s.size h3 (by omega) (by omega) r.length k 0 (by omega) (by omega)
  rw [show ((0 : Nat) : Int) = 0 by rfl] at this
  rw [if_neg (fun e => h ((toList_nil s).1 e)), h1, Option.bind_some, this, List.drop_zero, h2, decide_eq_false hz, Bool.false_or, hl]
def pinfoldref1_NameMay_c.f (a0 : ByteArray) : Option Bool := if a0.size ≤ 8796093022000 then some (nameB (bytesOf a0)) else none
theorem pinfoldref1_NameMay_c.calls (a0 : ByteArray) (r : Bool) (w : World) (h : pinfoldref1_NameMay_c.f a0 = some r) :
  Calls Try.prog 82 #[.string a0] w fun e w' => e = .returned (.bool r) ∧ Below w.heap.size w w' := by
 unfold pinfoldref1_NameMay_c.f at h
 by_cases hs : a0.size ≤ 8796093022000
 ·rw [if_pos hs] at h
  obtain rfl := e5_ h
  exact pinfoldref1_NameMay.calls (2 * a0.size + 10) a0 _ w (refname_eq _ a0 hs (Nat.le_refl _))
 ·rw [if_neg hs] at h
  cases h

end Go.Proofs.Ytibmakpghbinbaa.PT
