-- Made by wip/pr.py out of the translation (a turned copy of the kit's print; contracts by hand where said).
import Derived.Test.YtibalpbkmgegnaaDoorPJx0
import Derived.Test.YtibalpbkmgegnaaDoorPJx2
import Derived.Test.YtibalpbkmgegnaaDoorPJx5
import Derived.Test.YtibalpbkmgegnaaDoorPJx6
import Derived.Test.YtibalpbkmgegnaaDoorPJx7
namespace Go.Proofs.YtibalpbkmgegnaaDoor.PJ
open Go.RowKit Go.Proofs.YtibalpbkmgegnaaDoorW.PrintWords Go.Proofs.YtibalpbkmgegnaaDoorW.PrintLast Go.Proofs.YtibalpbkmgegnaaDoorW.PrintMore
-- shrunk
attribute [local go_sem] max2_int min2_int max_two min_two max_three min_three max_four min_four   -- for this text's walks alone
set_option linter.unusedVariables false
set_option linter.unusedSimpArgs false

/-! ### claim_kind: function 25 -/
-- BY HAND
-- 43 44 45
def claim_kind.T1 : Bool × List (List Nat × List Nat) := (true, [([], []), ([0], [0]), ([1], [1]), ([], []), ([2, 3], [2, 3]), ([], []), ([5], [5]), ([6], [6]), ([7], [7]), ([], []), ([8, 9], [8, 9]), ([4, 4, 0, 1, 2, 3, 4], [4]), ([10, 11, 0, 1, 2, 3, 4, 5, 6, 7, 8, 9, 10, 11], [10])])
def claim_kind.B1 : List Nat := [0, 1, 3, 0, 15, 0, 32, 96, 224, 0, 992, 31, 4095]
theorem claim_kind.tab1 : rtab .any (opsOf Tryd.f25 1) = claim_kind.T1 := by kernel_rfl
theorem claim_kind.bits1 : waitsOk claim_kind.T1.2 claim_kind.B1 = true := by kernel_rfl
def claim_kind.T2 : Bool × List (List Nat × List Nat) := (true, [([], []), ([0], [0]), ([1], [1]), ([2], [2]), ([3], [3]), ([4], [4]), ([5, 4], [4, 5]), ([6, 4], [4, 6]), ([7, 4], [4, 7]), ([8, 4], [4, 8]), ([4, 9], [4, 9]), ([10], [10]), ([], []), ([12], [12]), ([13], [13]), ([14], [14]), ([15, 4], [15]), ([16], [16]), ([16, 17], [16, 17]), ([18, 16], [18]), ([19], [19]), ([19], [19]), ([19], [19]), ([20, 21, 22, 19, 19], [19, 20, 21, 22]), ([19, 23], [19, 23]), ([24], [24]), ([], []), ([26], [26]), ([27], [27]), ([28], [28]), ([29], [29]), ([], []), ([31], [31]), ([32], [32]), ([], []), ([34], [34]), ([35], [35]), ([], []), ([37, 23], [37]), ([38], [38]), ([38], [38]), ([38], [38]), ([39, 40, 41, 38, 38], [38, 39, 40, 41]), ([38, 42], [38, 42]), ([43], [43]), ([], []), ([45], [45]), ([], []), ([47], [47]), ([11, 25, 30, 33, 36, 44, 46, 48], [11, 25, 30, 33, 36, 44, 46, 48]), ([49, 42, 0, 1, 2, 3, 4, 5, 6, 7, 8, 9, 10, 11, 12, 13, 14, 15, 16, 17, 18, 19, 20, 21, 22, 23, 24, 25, 26, 27, 28, 29, 30, 31, 32, 33, 34, 35, 36, 37, 38, 39, 40, 41, 42, 43, 44, 45, 46, 47, 48, 49], [49])])
def claim_kind.B2 : List Nat := [0, 1, 3, 7, 15, 31, 63, 127, 255, 511, 1023, 2047, 0, 4096, 12288, 28672, 61471, 127007, 258079, 520223, 1044511, 1044511, 1044511, 8384543, 16773151, 33550367, 0, 67108864, 201326592, 469762048, 1006632960, 0, 2147483648, 6442450944, 0, 17179869184, 51539607552, 0, 137455726623, 412333633567, 412333633567, 412333633567, 4260624330783, 8658670841887, 17454763864095, 0, 35184372088832, 0, 140737488355328, 562949953421311, 1125899906842623]
theorem claim_kind.tab2 : rtab .any (opsOf Tryd.f25 2) = claim_kind.T2 := by kernel_rfl
theorem claim_kind.bits2 : waitsOk claim_kind.T2.2 claim_kind.B2 = true := by kernel_rfl
def claim_kind.S (gq gl : Nat) (q0 : Bool) (q1 q2 q3 : Int) (q4 : ByteArray) (x0 x1 : Int) (x2 : ByteArray) (x3 : Int) (x4 : ByteArray) (x5 : Bool) (w' : World) : Prop := w'.cell? ⟨gq, 0, none⟩ = some (.bool q0) ∧ w'.cell? ⟨gq, 1, none⟩ = some (.int .i64 q1) ∧ w'.cell? ⟨gq, 2, none⟩ = some (.int .i64 q2) ∧ w'.cell? ⟨gq, 3, none⟩ = some (.int .i64 q3) ∧ w'.cell? ⟨gq, 4, none⟩ = some (.string q4) ∧ w'.cell? ⟨gl, 0, none⟩ = some (.int .i64 x0) ∧ w'.cell? ⟨gl, 1, none⟩ = some (.int .i64 x1) ∧ w'.cell? ⟨gl, 2, none⟩ = some (.string x2) ∧ w'.cell? ⟨gl, 3, none⟩ = some (.int .i64 x3) ∧ w'.cell? ⟨gl, 4, none⟩ = some (.string x4) ∧ w'.cell? ⟨gl, 5, none⟩ = some (.bool x5)
theorem claim_kind.S_below {w w2 : World} {gq gl : Nat} {q0 : Bool} {q1 q2 q3 : Int} {q4 : ByteArray} {x0 x1 : Int} {x2 : ByteArray} {x3 : Int} {x4 : ByteArray} {x5 : Bool} (h : claim_kind.S gq gl q0 q1 q2 q3 q4 x0 x1 x2 x3 x4 x5 w) (hb : Below w.heap.size w w2) : claim_kind.S gq gl q0 q1 q2 q3 q4 x0 x1 x2 x3 x4 x5 w2 := by
 obtain ⟨s0, s1, s2, s3, s4, s5, s6, s7, s8, s9, s10⟩ := h
 exact ⟨(hb.cell (wb_ _ _ s0)).trans s0, (hb.cell (wb_ _ _ s1)).trans s1, (hb.cell (wb_ _ _ s2)).trans s2, (hb.cell (wb_ _ _ s3)).trans s3, (hb.cell (wb_ _ _ s4)).trans s4, (hb.cell (wb_ _ _ s5)).trans s5, (hb.cell (wb_ _ _ s6)).trans s6, (hb.cell (wb_ _ _ s7)).trans s7, (hb.cell (wb_ _ _ s8)).trans s8, (hb.cell (wb_ _ _ s9)).trans s9, (hb.cell (wb_ _ _ s10)).trans s10⟩
set_option maxHeartbeats 8000000 in
set_option maxRecDepth 100000 in
theorem claim_kind.calls (gq : Nat) (q0 : Bool) (q1 q2 q3 : Int) (q4 : ByteArray) (hto : Int) (lent : Bool) (gl : Nat) (x0 x1 : Int) (x2 : ByteArray) (x3 : Int) (x4 : ByteArray) (x5 : Bool) (client : ByteArray) (now : Int) (r : Int) (w : World) (bq : w.heap[gq]? = some (.cells #[.bool q0, .int .i64 q1, .int .i64 q2, .int .i64 q3, .string q4] 29)) (bx : w.heap[gl]? = some (.cells #[.int .i64 x0, .int .i64 x1, .string x2, .int .i64 x3, .string x4, .bool x5] 36)) (hs : x4.size ≤ 140737488351232) (h : kindV q0 q1 hto lent ⟨x0, x1, x2, x3, x4, x5⟩ client now = r) :
  Calls Tryd.prog 25 #[.pointer (some ⟨gq, 0, none⟩), .int .i64 hto, .bool lent, .pointer (some ⟨gl, 0, none⟩), .string client, .int .i64 now] w fun e w' => e = .returned (.int .i64 r) ∧ Below w.heap.size w w' := by
 obtain ⟨lv, hlv⟩ : ∃ b, liveB x0 x1 x2 x3 x4 x5 now = b := ⟨_, rfl⟩
 obtain ⟨bh, hbh⟩ : ∃ b, holdsB x0 x1 x2 x3 x4 x5 client now = b := ⟨_, rfl⟩
 obtain ⟨bb, hbb⟩ : ∃ b, boundB x0 x1 x2 x3 x4 x5 client now = b := ⟨_, rfl⟩
 obtain ⟨ow, how⟩ : ∃ b, (x2.toList == client.toList) = b := ⟨_, rfl⟩
 have HR := am_ (show (if q0 = true then (if q1 = 167772161 then (if (lent && bh) = true then (1 : Int) else 2) else 0) else if hto = 0 then 0 else if lent = false then 2 else if lv = true then (if bb = true then 1 else 2) else if ow = true then 1 else 0) = r from by
  rw [← h, ← hlv, ← hbh, ← hbb, ← how]
  unfold kindV
  simp only [beq_iff_eq]
  rfl)
 have CL := am_ (fun W => lease_Live.calls x0 x1 x2 x3 x4 x5 now lv W (by unfold lease_Live.f; rw [if_pos hs, hlv]))
 have CH := am_ (fun W (hx : W.heap[gl]? = some (.cells #[.int .i64 x0, .int .i64 x1, .string x2, .int .i64 x3, .string x4, .bool x5] 36)) => lease_Holds.calls gl x0 x1 x2 x3 x4 x5 client now bh W hx hs hbh)
 have CB := am_ (fun W (hx : W.heap[gl]? = some (.cells #[.int .i64 x0, .int .i64 x1, .string x2, .int .i64 x3, .string x4, .bool x5] 36)) => lease_Bound.calls gl x0 x1 x2 x3 x4 x5 client now bb W hx hs hbb)
 have HB := am_ (Below.refl w.heap.size w)
 have BQ := am_ bq
 have BX := am_ bx
 have v0 := bc_ BQ.out 0; have v1 := bc_ BQ.out 1; have v2 := bc_ BQ.out 2; have v3 := bc_ BQ.out 3; have v4 := bc_ BQ.out 4
 have z0 := bc_ BX.out 0; have z1 := bc_ BX.out 1; have z2 := bc_ BX.out 2; have z3 := bc_ BX.out 3; have z4 := bc_ BX.out 4; have z5 := bc_ BX.out 5
 clear h hs hlv hbh hbb bq bx
 go_enter Tryd.func25, Tryd.ntmps25
 go_wp2_with (fail)
 refine ordS (S := claim_kind.S gq gl q0 q1 q2 q3 q4 x0 x1 x2 x3 x4 x5) 13 (by kernel_rfl) rfl rfl (by unfold claim_kind.S; go_simp) ?_
 intro hHeld
 refine with_tabW claim_kind.tab1 claim_kind.bits1 (fun HT_ HW_ => ?_)
 have HB0 := HB
 replace HB := am_ (p2_ HB.out)
 replace BX := am_ (k3_ BX.out)
 replace BQ := am_ (k3_ BQ.out)
 (refine ordP HT_ 0 (v := ?_) (a' := ?_) rfl rfl (by kernel_rfl) (fun _ _ _ h => h) (Or.inl ⟨by kernel_rfl, ?_⟩) ?_ ?_; rotate_left; (intro w'; go_simp; with_reducible rfl); rotate_left; (simp only [Act.put, sa_, sb_, sc_, i64_w, i32_w]; rfl))
 (refine ordP HT_ 1 (v := ?_) (a' := ?_) rfl rfl (by kernel_rfl) (fun _ _ _ h => h) (Or.inl ⟨by kernel_rfl, ?_⟩) ?_ ?_; rotate_left; (intro w'; go_simp; with_reducible rfl); rotate_left; (simp only [Act.put, sa_, sb_, sc_, i64_w, i32_w]; rfl))
 (refine ordL HT_ HW_ 2 (v := ?_) (a' := ?_) rfl rfl (by kernel_rfl) (fun _ _ _ h => h) (Or.inl ⟨by kernel_rfl, ?_⟩) hHeld ?_ ?_; rotate_left; (rintro w' ⟨s0, s1, s2, s3, s4, s5, s6, s7, s8, s9, s10⟩; go_simp; with_reducible rfl); rotate_left; (simp only [Act.put, sa_, sb_, sc_, i64_w, i32_w]; rfl))
 (refine ordP HT_ 3 (v := ?_) (a' := ?_) rfl rfl (by kernel_rfl) (fun _ _ _ h => h) (Or.inl ⟨by kernel_rfl, ?_⟩) ?_ ?_; rotate_left; (intro w'; go_simp; with_reducible rfl); rotate_left; (simp only [Act.put, sa_, sb_, sc_, i64_w, i32_w]; rfl))
 (refine ordP HT_ 5 (v := ?_) (a' := ?_) rfl rfl (by kernel_rfl) (fun _ _ _ h => h) (Or.inl ⟨by kernel_rfl, ?_⟩) ?_ ?_; rotate_left; (intro w'; go_simp; with_reducible rfl); rotate_left; (simp only [Act.put, sa_, sb_, sc_, i64_w, i32_w]; rfl))
 (refine ordP HT_ 6 (v := ?_) (a' := ?_) rfl rfl (by kernel_rfl) (fun _ _ _ h => h) (Or.inl ⟨by kernel_rfl, ?_⟩) ?_ ?_; rotate_left; (intro w'; go_simp; with_reducible rfl); rotate_left; (simp only [Act.put, sa_, sb_, sc_, i64_w, i32_w]; rfl))
 (refine ordP HT_ 7 (v := ?_) (a' := ?_) rfl rfl (by kernel_rfl) (fun _ _ _ h => h) (Or.inl ⟨by kernel_rfl, ?_⟩) ?_ ?_; rotate_left; (intro w'; go_simp; with_reducible rfl); rotate_left; (simp only [Act.put, sa_, sb_, sc_, i64_w, i32_w]; rfl))
 (refine ordL HT_ HW_ 8 (v := ?_) (a' := ?_) rfl rfl (by kernel_rfl) (fun _ _ _ h => h) (Or.inl ⟨by kernel_rfl, ?_⟩) hHeld ?_ ?_; rotate_left; (rintro w' ⟨s0, s1, s2, s3, s4, s5, s6, s7, s8, s9, s10⟩; go_simp; with_reducible rfl); rotate_left; (simp only [Act.put, sa_, sb_, sc_, i64_w, i32_w]; rfl))
 (refine ordP HT_ 9 (v := ?_) (a' := ?_) rfl rfl (by kernel_rfl) (fun _ _ _ h => h) (Or.inl ⟨by kernel_rfl, ?_⟩) ?_ ?_; rotate_left; (intro w'; go_simp; with_reducible rfl); rotate_left; (simp only [Act.put, sa_, sb_, sc_, i64_w, i32_w]; rfl))
 (refine ordP HT_ 10 (v := ?_) (a' := ?_) rfl rfl (by kernel_rfl) (fun _ _ _ h => h) (Or.inl ⟨by kernel_rfl, ?_⟩) ?_ ?_; rotate_left; (intro w'; go_simp; with_reducible rfl); rotate_left; (simp only [Act.put, sa_, sb_, sc_, i64_w, i32_w]; rfl))
 refine ordG (fn := Tryd.f43) HT_ 4 rfl rfl (by kernel_rfl) rfl Tryd.func43 (by kernel_rfl) (by kernel_rfl) #[.agg #[.int .i64 x0, .int .i64 x1, .string x2, .int .i64 x3, .string x4, .bool x5], .int .i64 now] (by kernel_rfl) (by (try simp only [List.map_toArray, List.map_cons, List.map_nil]); first | done | rfl) ?_
 with_reducible refine (CL.out _).mono ?_
 rintro e wg ⟨rfl, hb2⟩
 replace HB := am_ (bt_ HB.out hb2)
 replace BX := am_ (kb_ BX.out hb2)
 replace BQ := am_ (kb_ BQ.out hb2)
 refine ⟨_, rfl, (claim_kind.S_below hHeld hb2), fun hHeld => ⟨?_, ?_, ?_⟩⟩
 rotate_left
 ·simp only [Act.put, sa_, sb_, sc_, i64_w, i32_w]
  rfl
 (refine ordP HT_ 11 (v := ?_) (a' := ?_) rfl rfl (by kernel_rfl) (fun _ _ _ h => h) (Or.inl ⟨by kernel_rfl, ?_⟩) ?_ ?_; rotate_left; (intro w'; go_simp; with_reducible rfl); rotate_left; (simp only [Act.put, sa_, sb_, sc_, i64_w, i32_w]; rfl))
 (refine ordP HT_ 12 (v := ?_) (a' := ?_) rfl rfl (by kernel_rfl) (fun _ _ _ h => h) (Or.inl ⟨by kernel_rfl, ?_⟩) ?_ ?_; rotate_left; (intro w'; go_simp; with_reducible rfl); rotate_left; (simp only [Act.put, sa_, sb_, sc_, i64_w, i32_w]; rfl))
 refine ordE HT_ (by kernel_rfl) ?_
 have HS := am_ hHeld
 clear hHeld HT_ HW_
 clear v0 v1 v2 v3 v4 z0 z1 z2 z3 z4 z5
 clear how CL
 go_wp2_with (fail)
 cases q0 with
 | true =>
  cases lent with
  | true =>
   cases lv with
   | true =>
    refine ordS (S := claim_kind.S gq gl true q1 q2 q3 q4 x0 x1 x2 x3 x4 x5) 51 (by kernel_rfl) rfl rfl (by exact claim_kind.S_below HS.out (by repeat (first | exact Below.refl _ _ | apply p2_))) ?_
    intro hHeld
    refine with_tabW claim_kind.tab2 claim_kind.bits2 (fun HT_ HW_ => ?_)
    have HB0 := HB
    replace HB := am_ (p2_ HB.out)
    replace BX := am_ (k3_ BX.out)
    replace BQ := am_ (k3_ BQ.out)
    (refine ordP HT_ 0 (v := ?_) (a' := ?_) rfl rfl (by kernel_rfl) (fun _ _ _ h => h) (Or.inl ⟨by kernel_rfl, ?_⟩) ?_ ?_; rotate_left; (intro w'; go_simp; with_reducible rfl); rotate_left; (simp only [Act.put, sa_, sb_, sc_, i64_w, i32_w]; rfl))
    (refine ordP HT_ 1 (v := ?_) (a' := ?_) rfl rfl (by kernel_rfl) (fun _ _ _ h => h) (Or.inl ⟨by kernel_rfl, ?_⟩) ?_ ?_; rotate_left; (intro w'; go_simp; with_reducible rfl); rotate_left; (simp only [Act.put, sa_, sb_, sc_, i64_w, i32_w]; rfl))
    (refine ordP HT_ 2 (v := ?_) (a' := ?_) rfl rfl (by kernel_rfl) (fun _ _ _ h => h) (Or.inl ⟨by kernel_rfl, ?_⟩) ?_ ?_; rotate_left; (intro w'; go_simp; with_reducible rfl); rotate_left; (simp only [Act.put, sa_, sb_, sc_, i64_w, i32_w]; rfl))
    (refine ordL HT_ HW_ 3 (v := ?_) (a' := ?_) rfl rfl (by kernel_rfl) (fun _ _ _ h => h) (Or.inl ⟨by kernel_rfl, ?_⟩) hHeld ?_ ?_; rotate_left; (rintro w' ⟨s0, s1, s2, s3, s4, s5, s6, s7, s8, s9, s10⟩; go_simp; with_reducible rfl); rotate_left; (simp only [Act.put, sa_, sb_, sc_, i64_w, i32_w]; rfl))
    (refine ordP HT_ 4 (v := ?_) (a' := ?_) rfl rfl (by kernel_rfl) (fun _ _ _ h => h) (Or.inl ⟨by kernel_rfl, ?_⟩) ?_ ?_; rotate_left; (intro w'; go_simp; with_reducible rfl); rotate_left; (simp only [Act.put, sa_, sb_, sc_, i64_w, i32_w]; rfl))
    (refine ordP HT_ 5 (v := ?_) (a' := ?_) rfl rfl (by kernel_rfl) (fun _ _ _ h => h) (Or.inl ⟨by kernel_rfl, ?_⟩) ?_ ?_; rotate_left; (intro w'; go_simp; with_reducible rfl); rotate_left; (simp only [Act.put, sa_, sb_, sc_, i64_w, i32_w]; rfl))
    (refine ordP HT_ 6 (v := ?_) (a' := ?_) rfl rfl (by kernel_rfl) (fun _ _ _ h => h) (Or.inl ⟨by kernel_rfl, ?_⟩) ?_ ?_; rotate_left; (intro w'; go_simp; with_reducible rfl); rotate_left; (simp only [Act.put, sa_, sb_, sc_, i64_w, i32_w]; rfl))
    (refine ordP HT_ 7 (v := ?_) (a' := ?_) rfl rfl (by kernel_rfl) (fun _ _ _ h => h) (Or.inl ⟨by kernel_rfl, ?_⟩) ?_ ?_; rotate_left; (intro w'; go_simp; with_reducible rfl); rotate_left; (simp only [Act.put, sa_, sb_, sc_, i64_w, i32_w]; rfl))
    (refine ordL HT_ HW_ 8 (v := ?_) (a' := ?_) rfl rfl (by kernel_rfl) (fun _ _ _ h => h) (Or.inl ⟨by kernel_rfl, ?_⟩) hHeld ?_ ?_; rotate_left; (rintro w' ⟨s0, s1, s2, s3, s4, s5, s6, s7, s8, s9, s10⟩; go_simp; with_reducible rfl); rotate_left; (simp only [Act.put, sa_, sb_, sc_, i64_w, i32_w]; rfl))
    (refine ordP HT_ 9 (v := ?_) (a' := ?_) rfl rfl (by kernel_rfl) (fun _ _ _ h => h) (Or.inl ⟨by kernel_rfl, ?_⟩) ?_ ?_; rotate_left; (intro w'; go_simp; with_reducible rfl); rotate_left; (simp only [Act.put, sa_, sb_, sc_, i64_w, i32_w]; rfl))
    (refine ordP HT_ 10 (v := ?_) (a' := ?_) rfl rfl (by kernel_rfl) (fun _ _ _ h => h) (Or.inl ⟨by kernel_rfl, ?_⟩) ?_ ?_; rotate_left; (intro w'; go_simp; with_reducible rfl); rotate_left; (simp only [Act.put, sa_, sb_, sc_, i64_w, i32_w]; rfl))
    (refine ordP HT_ 11 (v := ?_) (a' := ?_) rfl rfl (by kernel_rfl) (fun _ _ _ h => h) (Or.inl ⟨by kernel_rfl, ?_⟩) ?_ ?_; rotate_left; (intro w'; go_simp; with_reducible rfl); rotate_left; (simp only [Act.put, sa_, sb_, sc_, i64_w, i32_w]; rfl))
    (refine ordP HT_ 12 (v := ?_) (a' := ?_) rfl rfl (by kernel_rfl) (fun _ _ _ h => h) (Or.inl ⟨by kernel_rfl, ?_⟩) ?_ ?_; rotate_left; (intro w'; go_simp; with_reducible rfl); rotate_left; (simp only [Act.put, sa_, sb_, sc_, i64_w, i32_w]; rfl))
    (refine ordP HT_ 13 (v := ?_) (a' := ?_) rfl rfl (by kernel_rfl) (fun _ _ _ h => h) (Or.inl ⟨by kernel_rfl, ?_⟩) ?_ ?_; rotate_left; (intro w'; go_simp; with_reducible rfl); rotate_left; (simp only [Act.put, sa_, sb_, sc_, i64_w, i32_w]; rfl))
    (refine ordP HT_ 14 (v := ?_) (a' := ?_) rfl rfl (by kernel_rfl) (fun _ _ _ h => h) (Or.inl ⟨by kernel_rfl, ?_⟩) ?_ ?_; rotate_left; (intro w'; go_simp; with_reducible rfl); rotate_left; (simp only [Act.put, sa_, sb_, sc_, i64_w, i32_w]; rfl))
    (refine ordL HT_ HW_ 15 (v := ?_) (a' := ?_) rfl rfl (by kernel_rfl) (fun _ _ _ h => h) (Or.inl ⟨by kernel_rfl, ?_⟩) hHeld ?_ ?_; rotate_left; (rintro w' ⟨s0, s1, s2, s3, s4, s5, s6, s7, s8, s9, s10⟩; go_simp; with_reducible rfl); rotate_left; (simp only [Act.put, sa_, sb_, sc_, i64_w, i32_w]; rfl))
    (refine ordP HT_ 16 (v := ?_) (a' := ?_) rfl rfl (by kernel_rfl) (fun _ _ _ h => h) (Or.inl ⟨by kernel_rfl, ?_⟩) ?_ ?_; rotate_left; (intro w'; go_simp; with_reducible rfl); rotate_left; (simp only [Act.put, sa_, sb_, sc_, i64_w, i32_w]; rfl))
    (refine ordP HT_ 17 (v := ?_) (a' := ?_) rfl rfl (by kernel_rfl) (fun _ _ _ h => h) (Or.inl ⟨by kernel_rfl, ?_⟩) ?_ ?_; rotate_left; (intro w'; go_simp; with_reducible rfl); rotate_left; (simp only [Act.put, sa_, sb_, sc_, i64_w, i32_w]; rfl))
    (refine ordP HT_ 18 (v := ?_) (a' := ?_) rfl rfl (by kernel_rfl) (fun _ _ _ h => h) (Or.inl ⟨by kernel_rfl, ?_⟩) ?_ ?_; rotate_left; (intro w'; go_simp; with_reducible rfl); rotate_left; (simp only [Act.put, sa_, sb_, sc_, i64_w, i32_w]; rfl))
    (refine ordP HT_ 19 (v := ?_) (a' := ?_) rfl rfl (by kernel_rfl) (fun _ _ _ h => h) (Or.inl ⟨by kernel_rfl, ?_⟩) ?_ ?_; rotate_left; (intro w'; go_simp; with_reducible rfl); rotate_left; (simp only [Act.put, sa_, sb_, sc_, i64_w, i32_w]; rfl))
    (refine ordP HT_ 20 (v := ?_) (a' := ?_) rfl rfl (by kernel_rfl) (fun _ _ _ h => h) (Or.inl ⟨by kernel_rfl, ?_⟩) ?_ ?_; rotate_left; (intro w'; go_simp; with_reducible rfl); rotate_left; (simp only [Act.put, sa_, sb_, sc_, i64_w, i32_w]; rfl))
    (refine ordP HT_ 21 (v := ?_) (a' := ?_) rfl rfl (by kernel_rfl) (fun _ _ _ h => h) (Or.inl ⟨by kernel_rfl, ?_⟩) ?_ ?_; rotate_left; (intro w'; go_simp; with_reducible rfl); rotate_left; (simp only [Act.put, sa_, sb_, sc_, i64_w, i32_w]; rfl))
    (refine ordP HT_ 22 (v := ?_) (a' := ?_) rfl rfl (by kernel_rfl) (fun _ _ _ h => h) (Or.inl ⟨by kernel_rfl, ?_⟩) ?_ ?_; rotate_left; (intro w'; go_simp; with_reducible rfl); rotate_left; (simp only [Act.put, sa_, sb_, sc_, i64_w, i32_w]; rfl))
    (refine ordP HT_ 26 (v := ?_) (a' := ?_) rfl rfl (by kernel_rfl) (fun _ _ _ h => h) (Or.inl ⟨by kernel_rfl, ?_⟩) ?_ ?_; rotate_left; (intro w'; go_simp; with_reducible rfl); rotate_left; (simp only [Act.put, sa_, sb_, sc_, i64_w, i32_w]; rfl))
    (refine ordP HT_ 27 (v := ?_) (a' := ?_) rfl rfl (by kernel_rfl) (fun _ _ _ h => h) (Or.inl ⟨by kernel_rfl, ?_⟩) ?_ ?_; rotate_left; (intro w'; go_simp; with_reducible rfl); rotate_left; (simp only [Act.put, sa_, sb_, sc_, i64_w, i32_w]; rfl))
    (refine ordP HT_ 28 (v := ?_) (a' := ?_) rfl rfl (by kernel_rfl) (fun _ _ _ h => h) (Or.inl ⟨by kernel_rfl, ?_⟩) ?_ ?_; rotate_left; (intro w'; go_simp; with_reducible rfl); rotate_left; (simp only [Act.put, sa_, sb_, sc_, i64_w, i32_w]; rfl))
    (refine ordL HT_ HW_ 29 (v := ?_) (a' := ?_) rfl rfl (by kernel_rfl) (fun _ _ _ h => h) (Or.inl ⟨by kernel_rfl, ?_⟩) hHeld ?_ ?_; rotate_left; (rintro w' ⟨s0, s1, s2, s3, s4, s5, s6, s7, s8, s9, s10⟩; go_simp; with_reducible rfl); rotate_left; (simp only [Act.put, sa_, sb_, sc_, i64_w, i32_w]; rfl))
    (refine ordP HT_ 30 (v := ?_) (a' := ?_) rfl rfl (by kernel_rfl) (fun _ _ _ h => h) (Or.inl ⟨by kernel_rfl, ?_⟩) ?_ ?_; rotate_left; (intro w'; go_simp; with_reducible rfl); rotate_left; (simp only [Act.put, sa_, sb_, sc_, i64_w, i32_w]; rfl))
    (refine ordP HT_ 31 (v := ?_) (a' := ?_) rfl rfl (by kernel_rfl) (fun _ _ _ h => h) (Or.inl ⟨by kernel_rfl, ?_⟩) ?_ ?_; rotate_left; (intro w'; go_simp; with_reducible rfl); rotate_left; (simp only [Act.put, sa_, sb_, sc_, i64_w, i32_w]; rfl))
    (refine ordP HT_ 32 (v := ?_) (a' := ?_) rfl rfl (by kernel_rfl) (fun _ _ _ h => h) (Or.inl ⟨by kernel_rfl, ?_⟩) ?_ ?_; rotate_left; (intro w'; go_simp; with_reducible rfl); rotate_left; (simp only [Act.put, sa_, sb_, sc_, i64_w, i32_w]; rfl))
    (refine ordP HT_ 33 (v := ?_) (a' := ?_) rfl rfl (by kernel_rfl) (fun _ _ _ h => h) (Or.inl ⟨by kernel_rfl, ?_⟩) ?_ ?_; rotate_left; (intro w'; go_simp; with_reducible rfl); rotate_left; (simp only [Act.put, sa_, sb_, sc_, i64_w, i32_w]; rfl))
    (refine ordP HT_ 34 (v := ?_) (a' := ?_) rfl rfl (by kernel_rfl) (fun _ _ _ h => h) (Or.inl ⟨by kernel_rfl, ?_⟩) ?_ ?_; rotate_left; (intro w'; go_simp; with_reducible rfl); rotate_left; (simp only [Act.put, sa_, sb_, sc_, i64_w, i32_w]; rfl))
    (refine ordP HT_ 35 (v := ?_) (a' := ?_) rfl rfl (by kernel_rfl) (fun _ _ _ h => h) (Or.inl ⟨by kernel_rfl, ?_⟩) ?_ ?_; rotate_left; (intro w'; go_simp; with_reducible rfl); rotate_left; (simp only [Act.put, sa_, sb_, sc_, i64_w, i32_w]; rfl))
    (refine ordP HT_ 36 (v := ?_) (a' := ?_) rfl rfl (by kernel_rfl) (fun _ _ _ h => h) (Or.inl ⟨by kernel_rfl, ?_⟩) ?_ ?_; rotate_left; (intro w'; go_simp; with_reducible rfl); rotate_left; (simp only [Act.put, sa_, sb_, sc_, i64_w, i32_w]; rfl))
    (refine ordP HT_ 37 (v := ?_) (a' := ?_) rfl rfl (by kernel_rfl) (fun _ _ _ h => h) (Or.inl ⟨by kernel_rfl, ?_⟩) ?_ ?_; rotate_left; (intro w'; go_simp; with_reducible rfl); rotate_left; (simp only [Act.put, sa_, sb_, sc_, i64_w, i32_w]; rfl))
    (refine ordP HT_ 45 (v := ?_) (a' := ?_) rfl rfl (by kernel_rfl) (fun _ _ _ h => h) (Or.inl ⟨by kernel_rfl, ?_⟩) ?_ ?_; rotate_left; (intro w'; go_simp; with_reducible rfl); rotate_left; (simp only [Act.put, sa_, sb_, sc_, i64_w, i32_w]; rfl))
    (refine ordP HT_ 46 (v := ?_) (a' := ?_) rfl rfl (by kernel_rfl) (fun _ _ _ h => h) (Or.inl ⟨by kernel_rfl, ?_⟩) ?_ ?_; rotate_left; (intro w'; go_simp; with_reducible rfl); rotate_left; (simp only [Act.put, sa_, sb_, sc_, i64_w, i32_w]; rfl))
    (refine ordP HT_ 47 (v := ?_) (a' := ?_) rfl rfl (by kernel_rfl) (fun _ _ _ h => h) (Or.inl ⟨by kernel_rfl, ?_⟩) ?_ ?_; rotate_left; (intro w'; go_simp; with_reducible rfl); rotate_left; (simp only [Act.put, sa_, sb_, sc_, i64_w, i32_w]; rfl))
    (refine ordP HT_ 48 (v := ?_) (a' := ?_) rfl rfl (by kernel_rfl) (fun _ _ _ h => h) (Or.inl ⟨by kernel_rfl, ?_⟩) ?_ ?_; rotate_left; (intro w'; go_simp; with_reducible rfl); rotate_left; (simp only [Act.put, sa_, sb_, sc_, i64_w, i32_w]; rfl))
    refine ordG (fn := Tryd.f44) HT_ 23 rfl rfl (by kernel_rfl) rfl Tryd.func44 (by kernel_rfl) (by kernel_rfl) #[.pointer (some ⟨gl, 0, none⟩), .string client, .int .i64 now] (by kernel_rfl) (by (try simp only [List.map_toArray, List.map_cons, List.map_nil]); first | done | rfl) ?_
    with_reducible refine (CH.out _ BX.out).mono ?_
    rintro e wg ⟨rfl, hb2⟩
    replace HB := am_ (bt_ HB.out hb2)
    replace BX := am_ (kb_ BX.out hb2)
    replace BQ := am_ (kb_ BQ.out hb2)
    refine ⟨_, rfl, (claim_kind.S_below hHeld hb2), fun hHeld => ⟨?_, ?_, ?_⟩⟩
    rotate_left
    ·simp only [Act.put, sa_, sb_, sc_, i64_w, i32_w]
     rfl
    (refine ordP HT_ 24 (v := ?_) (a' := ?_) rfl rfl (by kernel_rfl) (fun _ _ _ h => h) (Or.inl ⟨by kernel_rfl, ?_⟩) ?_ ?_; rotate_left; (intro w'; go_simp; with_reducible rfl); rotate_left; (simp only [Act.put, sa_, sb_, sc_, i64_w, i32_w]; rfl))
    (refine ordP HT_ 25 (v := ?_) (a' := ?_) rfl rfl (by kernel_rfl) (fun _ _ _ h => h) (Or.inl ⟨by kernel_rfl, ?_⟩) ?_ ?_; rotate_left; (intro w'; go_simp; with_reducible rfl); rotate_left; (simp only [Act.put, sa_, sb_, sc_, i64_w, i32_w]; rfl))
    (refine ordP HT_ 38 (v := ?_) (a' := ?_) rfl rfl (by kernel_rfl) (fun _ _ _ h => h) (Or.inl ⟨by kernel_rfl, ?_⟩) ?_ ?_; rotate_left; (intro w'; go_simp; with_reducible rfl); rotate_left; (simp only [Act.put, sa_, sb_, sc_, i64_w, i32_w]; rfl))
    (refine ordP HT_ 39 (v := ?_) (a' := ?_) rfl rfl (by kernel_rfl) (fun _ _ _ h => h) (Or.inl ⟨by kernel_rfl, ?_⟩) ?_ ?_; rotate_left; (intro w'; go_simp; with_reducible rfl); rotate_left; (simp only [Act.put, sa_, sb_, sc_, i64_w, i32_w]; rfl))
    (refine ordP HT_ 40 (v := ?_) (a' := ?_) rfl rfl (by kernel_rfl) (fun _ _ _ h => h) (Or.inl ⟨by kernel_rfl, ?_⟩) ?_ ?_; rotate_left; (intro w'; go_simp; with_reducible rfl); rotate_left; (simp only [Act.put, sa_, sb_, sc_, i64_w, i32_w]; rfl))
    (refine ordP HT_ 41 (v := ?_) (a' := ?_) rfl rfl (by kernel_rfl) (fun _ _ _ h => h) (Or.inl ⟨by kernel_rfl, ?_⟩) ?_ ?_; rotate_left; (intro w'; go_simp; with_reducible rfl); rotate_left; (simp only [Act.put, sa_, sb_, sc_, i64_w, i32_w]; rfl))
    refine ordG (fn := Tryd.f45) HT_ 42 rfl rfl (by kernel_rfl) rfl Tryd.func45 (by kernel_rfl) (by kernel_rfl) #[.pointer (some ⟨gl, 0, none⟩), .string client, .int .i64 now] (by kernel_rfl) (by (try simp only [List.map_toArray, List.map_cons, List.map_nil]); first | done | rfl) ?_
    with_reducible refine (CB.out _ BX.out).mono ?_
    rintro e wg ⟨rfl, hb2⟩
    replace HB := am_ (bt_ HB.out hb2)
    replace BX := am_ (kb_ BX.out hb2)
    replace BQ := am_ (kb_ BQ.out hb2)
    refine ⟨_, rfl, (claim_kind.S_below hHeld hb2), fun hHeld => ⟨?_, ?_, ?_⟩⟩
    rotate_left
    ·simp only [Act.put, sa_, sb_, sc_, i64_w, i32_w]
     rfl
    (refine ordP HT_ 43 (v := ?_) (a' := ?_) rfl rfl (by kernel_rfl) (fun _ _ _ h => h) (Or.inl ⟨by kernel_rfl, ?_⟩) ?_ ?_; rotate_left; (intro w'; go_simp; with_reducible rfl); rotate_left; (simp only [Act.put, sa_, sb_, sc_, i64_w, i32_w]; rfl))
    (refine ordP HT_ 44 (v := ?_) (a' := ?_) rfl rfl (by kernel_rfl) (fun _ _ _ h => h) (Or.inl ⟨by kernel_rfl, ?_⟩) ?_ ?_; rotate_left; (intro w'; go_simp; with_reducible rfl); rotate_left; (simp only [Act.put, sa_, sb_, sc_, i64_w, i32_w]; rfl))
    refine ordC HT_ 49 rfl rfl (by kernel_rfl) (fun K hK => ?_)
    rw [if_pos (by kernel_rfl)]
    go_simp
    refine hK.out _ _ (claim_kind.S_below hHeld (p3_ (Below.refl _ _) _)) (fun hHeld => ?_)
    clear hK K
    (refine ordP HT_ 50 (v := ?_) (a' := ?_) rfl rfl (by kernel_rfl) (fun _ _ _ h => h) (Or.inl ⟨by kernel_rfl, ?_⟩) ?_ ?_; rotate_left; (intro w'; go_simp; with_reducible rfl); rotate_left; (simp only [Act.put, sa_, sb_, sc_, i64_w, i32_w]; rfl))
    refine ordE HT_ (by kernel_rfl) ?_
    clear hHeld HT_ HW_ BX BQ CH CB HS
    go_wp2
    refine wp_loop_rounds 9 ?_
    repeat any_goals (rw [rounds_succ]; go_wp2)
    all_goals (try go_ret)
    all_goals refine ⟨?_, by repeat (with_reducible first | exact HB.out | exact HB0.out | apply p3_ | apply p1_ | apply p2_)⟩
    all_goals first | (rw [← HR.out]; clear HR HB HB0; rfl) | (rw [← HR.out]; clear HR HB HB0; (simp_all; done)) | (rw [← HR.out]; clear HR HB HB0; simp_all <;> omega)
   | false =>
    refine ordS (S := claim_kind.S gq gl true q1 q2 q3 q4 x0 x1 x2 x3 x4 x5) 51 (by kernel_rfl) rfl rfl (by exact claim_kind.S_below HS.out (by repeat (first | exact Below.refl _ _ | apply p2_))) ?_
    intro hHeld
    refine with_tabW claim_kind.tab2 claim_kind.bits2 (fun HT_ HW_ => ?_)
    have HB0 := HB
    replace HB := am_ (p2_ HB.out)
    replace BX := am_ (k3_ BX.out)
    replace BQ := am_ (k3_ BQ.out)
    (refine ordP HT_ 0 (v := ?_) (a' := ?_) rfl rfl (by kernel_rfl) (fun _ _ _ h => h) (Or.inl ⟨by kernel_rfl, ?_⟩) ?_ ?_; rotate_left; (intro w'; go_simp; with_reducible rfl); rotate_left; (simp only [Act.put, sa_, sb_, sc_, i64_w, i32_w]; rfl))
    (refine ordP HT_ 1 (v := ?_) (a' := ?_) rfl rfl (by kernel_rfl) (fun _ _ _ h => h) (Or.inl ⟨by kernel_rfl, ?_⟩) ?_ ?_; rotate_left; (intro w'; go_simp; with_reducible rfl); rotate_left; (simp only [Act.put, sa_, sb_, sc_, i64_w, i32_w]; rfl))
    (refine ordP HT_ 2 (v := ?_) (a' := ?_) rfl rfl (by kernel_rfl) (fun _ _ _ h => h) (Or.inl ⟨by kernel_rfl, ?_⟩) ?_ ?_; rotate_left; (intro w'; go_simp; with_reducible rfl); rotate_left; (simp only [Act.put, sa_, sb_, sc_, i64_w, i32_w]; rfl))
    (refine ordL HT_ HW_ 3 (v := ?_) (a' := ?_) rfl rfl (by kernel_rfl) (fun _ _ _ h => h) (Or.inl ⟨by kernel_rfl, ?_⟩) hHeld ?_ ?_; rotate_left; (rintro w' ⟨s0, s1, s2, s3, s4, s5, s6, s7, s8, s9, s10⟩; go_simp; with_reducible rfl); rotate_left; (simp only [Act.put, sa_, sb_, sc_, i64_w, i32_w]; rfl))
    (refine ordP HT_ 4 (v := ?_) (a' := ?_) rfl rfl (by kernel_rfl) (fun _ _ _ h => h) (Or.inl ⟨by kernel_rfl, ?_⟩) ?_ ?_; rotate_left; (intro w'; go_simp; with_reducible rfl); rotate_left; (simp only [Act.put, sa_, sb_, sc_, i64_w, i32_w]; rfl))
    (refine ordP HT_ 5 (v := ?_) (a' := ?_) rfl rfl (by kernel_rfl) (fun _ _ _ h => h) (Or.inl ⟨by kernel_rfl, ?_⟩) ?_ ?_; rotate_left; (intro w'; go_simp; with_reducible rfl); rotate_left; (simp only [Act.put, sa_, sb_, sc_, i64_w, i32_w]; rfl))
    (refine ordP HT_ 6 (v := ?_) (a' := ?_) rfl rfl (by kernel_rfl) (fun _ _ _ h => h) (Or.inl ⟨by kernel_rfl, ?_⟩) ?_ ?_; rotate_left; (intro w'; go_simp; with_reducible rfl); rotate_left; (simp only [Act.put, sa_, sb_, sc_, i64_w, i32_w]; rfl))
    (refine ordP HT_ 7 (v := ?_) (a' := ?_) rfl rfl (by kernel_rfl) (fun _ _ _ h => h) (Or.inl ⟨by kernel_rfl, ?_⟩) ?_ ?_; rotate_left; (intro w'; go_simp; with_reducible rfl); rotate_left; (simp only [Act.put, sa_, sb_, sc_, i64_w, i32_w]; rfl))
    (refine ordL HT_ HW_ 8 (v := ?_) (a' := ?_) rfl rfl (by kernel_rfl) (fun _ _ _ h => h) (Or.inl ⟨by kernel_rfl, ?_⟩) hHeld ?_ ?_; rotate_left; (rintro w' ⟨s0, s1, s2, s3, s4, s5, s6, s7, s8, s9, s10⟩; go_simp; with_reducible rfl); rotate_left; (simp only [Act.put, sa_, sb_, sc_, i64_w, i32_w]; rfl))
    (refine ordP HT_ 9 (v := ?_) (a' := ?_) rfl rfl (by kernel_rfl) (fun _ _ _ h => h) (Or.inl ⟨by kernel_rfl, ?_⟩) ?_ ?_; rotate_left; (intro w'; go_simp; with_reducible rfl); rotate_left; (simp only [Act.put, sa_, sb_, sc_, i64_w, i32_w]; rfl))
    (refine ordP HT_ 10 (v := ?_) (a' := ?_) rfl rfl (by kernel_rfl) (fun _ _ _ h => h) (Or.inl ⟨by kernel_rfl, ?_⟩) ?_ ?_; rotate_left; (intro w'; go_simp; with_reducible rfl); rotate_left; (simp only [Act.put, sa_, sb_, sc_, i64_w, i32_w]; rfl))
    (refine ordP HT_ 11 (v := ?_) (a' := ?_) rfl rfl (by kernel_rfl) (fun _ _ _ h => h) (Or.inl ⟨by kernel_rfl, ?_⟩) ?_ ?_; rotate_left; (intro w'; go_simp; with_reducible rfl); rotate_left; (simp only [Act.put, sa_, sb_, sc_, i64_w, i32_w]; rfl))
    (refine ordP HT_ 12 (v := ?_) (a' := ?_) rfl rfl (by kernel_rfl) (fun _ _ _ h => h) (Or.inl ⟨by kernel_rfl, ?_⟩) ?_ ?_; rotate_left; (intro w'; go_simp; with_reducible rfl); rotate_left; (simp only [Act.put, sa_, sb_, sc_, i64_w, i32_w]; rfl))
    (refine ordP HT_ 13 (v := ?_) (a' := ?_) rfl rfl (by kernel_rfl) (fun _ _ _ h => h) (Or.inl ⟨by kernel_rfl, ?_⟩) ?_ ?_; rotate_left; (intro w'; go_simp; with_reducible rfl); rotate_left; (simp only [Act.put, sa_, sb_, sc_, i64_w, i32_w]; rfl))
    (refine ordP HT_ 14 (v := ?_) (a' := ?_) rfl rfl (by kernel_rfl) (fun _ _ _ h => h) (Or.inl ⟨by kernel_rfl, ?_⟩) ?_ ?_; rotate_left; (intro w'; go_simp; with_reducible rfl); rotate_left; (simp only [Act.put, sa_, sb_, sc_, i64_w, i32_w]; rfl))
    (refine ordL HT_ HW_ 15 (v := ?_) (a' := ?_) rfl rfl (by kernel_rfl) (fun _ _ _ h => h) (Or.inl ⟨by kernel_rfl, ?_⟩) hHeld ?_ ?_; rotate_left; (rintro w' ⟨s0, s1, s2, s3, s4, s5, s6, s7, s8, s9, s10⟩; go_simp; with_reducible rfl); rotate_left; (simp only [Act.put, sa_, sb_, sc_, i64_w, i32_w]; rfl))
    (refine ordP HT_ 16 (v := ?_) (a' := ?_) rfl rfl (by kernel_rfl) (fun _ _ _ h => h) (Or.inl ⟨by kernel_rfl, ?_⟩) ?_ ?_; rotate_left; (intro w'; go_simp; with_reducible rfl); rotate_left; (simp only [Act.put, sa_, sb_, sc_, i64_w, i32_w]; rfl))
    (refine ordP HT_ 17 (v := ?_) (a' := ?_) rfl rfl (by kernel_rfl) (fun _ _ _ h => h) (Or.inl ⟨by kernel_rfl, ?_⟩) ?_ ?_; rotate_left; (intro w'; go_simp; with_reducible rfl); rotate_left; (simp only [Act.put, sa_, sb_, sc_, i64_w, i32_w]; rfl))
    (refine ordP HT_ 18 (v := ?_) (a' := ?_) rfl rfl (by kernel_rfl) (fun _ _ _ h => h) (Or.inl ⟨by kernel_rfl, ?_⟩) ?_ ?_; rotate_left; (intro w'; go_simp; with_reducible rfl); rotate_left; (simp only [Act.put, sa_, sb_, sc_, i64_w, i32_w]; rfl))
    (refine ordP HT_ 19 (v := ?_) (a' := ?_) rfl rfl (by kernel_rfl) (fun _ _ _ h => h) (Or.inl ⟨by kernel_rfl, ?_⟩) ?_ ?_; rotate_left; (intro w'; go_simp; with_reducible rfl); rotate_left; (simp only [Act.put, sa_, sb_, sc_, i64_w, i32_w]; rfl))
    (refine ordP HT_ 20 (v := ?_) (a' := ?_) rfl rfl (by kernel_rfl) (fun _ _ _ h => h) (Or.inl ⟨by kernel_rfl, ?_⟩) ?_ ?_; rotate_left; (intro w'; go_simp; with_reducible rfl); rotate_left; (simp only [Act.put, sa_, sb_, sc_, i64_w, i32_w]; rfl))
    (refine ordP HT_ 21 (v := ?_) (a' := ?_) rfl rfl (by kernel_rfl) (fun _ _ _ h => h) (Or.inl ⟨by kernel_rfl, ?_⟩) ?_ ?_; rotate_left; (intro w'; go_simp; with_reducible rfl); rotate_left; (simp only [Act.put, sa_, sb_, sc_, i64_w, i32_w]; rfl))
    (refine ordP HT_ 22 (v := ?_) (a' := ?_) rfl rfl (by kernel_rfl) (fun _ _ _ h => h) (Or.inl ⟨by kernel_rfl, ?_⟩) ?_ ?_; rotate_left; (intro w'; go_simp; with_reducible rfl); rotate_left; (simp only [Act.put, sa_, sb_, sc_, i64_w, i32_w]; rfl))
    (refine ordP HT_ 26 (v := ?_) (a' := ?_) rfl rfl (by kernel_rfl) (fun _ _ _ h => h) (Or.inl ⟨by kernel_rfl, ?_⟩) ?_ ?_; rotate_left; (intro w'; go_simp; with_reducible rfl); rotate_left; (simp only [Act.put, sa_, sb_, sc_, i64_w, i32_w]; rfl))
    (refine ordP HT_ 27 (v := ?_) (a' := ?_) rfl rfl (by kernel_rfl) (fun _ _ _ h => h) (Or.inl ⟨by kernel_rfl, ?_⟩) ?_ ?_; rotate_left; (intro w'; go_simp; with_reducible rfl); rotate_left; (simp only [Act.put, sa_, sb_, sc_, i64_w, i32_w]; rfl))
    (refine ordP HT_ 28 (v := ?_) (a' := ?_) rfl rfl (by kernel_rfl) (fun _ _ _ h => h) (Or.inl ⟨by kernel_rfl, ?_⟩) ?_ ?_; rotate_left; (intro w'; go_simp; with_reducible rfl); rotate_left; (simp only [Act.put, sa_, sb_, sc_, i64_w, i32_w]; rfl))
    (refine ordL HT_ HW_ 29 (v := ?_) (a' := ?_) rfl rfl (by kernel_rfl) (fun _ _ _ h => h) (Or.inl ⟨by kernel_rfl, ?_⟩) hHeld ?_ ?_; rotate_left; (rintro w' ⟨s0, s1, s2, s3, s4, s5, s6, s7, s8, s9, s10⟩; go_simp; with_reducible rfl); rotate_left; (simp only [Act.put, sa_, sb_, sc_, i64_w, i32_w]; rfl))
    (refine ordP HT_ 30 (v := ?_) (a' := ?_) rfl rfl (by kernel_rfl) (fun _ _ _ h => h) (Or.inl ⟨by kernel_rfl, ?_⟩) ?_ ?_; rotate_left; (intro w'; go_simp; with_reducible rfl); rotate_left; (simp only [Act.put, sa_, sb_, sc_, i64_w, i32_w]; rfl))
    (refine ordP HT_ 31 (v := ?_) (a' := ?_) rfl rfl (by kernel_rfl) (fun _ _ _ h => h) (Or.inl ⟨by kernel_rfl, ?_⟩) ?_ ?_; rotate_left; (intro w'; go_simp; with_reducible rfl); rotate_left; (simp only [Act.put, sa_, sb_, sc_, i64_w, i32_w]; rfl))
    (refine ordP HT_ 32 (v := ?_) (a' := ?_) rfl rfl (by kernel_rfl) (fun _ _ _ h => h) (Or.inl ⟨by kernel_rfl, ?_⟩) ?_ ?_; rotate_left; (intro w'; go_simp; with_reducible rfl); rotate_left; (simp only [Act.put, sa_, sb_, sc_, i64_w, i32_w]; rfl))
    (refine ordP HT_ 33 (v := ?_) (a' := ?_) rfl rfl (by kernel_rfl) (fun _ _ _ h => h) (Or.inl ⟨by kernel_rfl, ?_⟩) ?_ ?_; rotate_left; (intro w'; go_simp; with_reducible rfl); rotate_left; (simp only [Act.put, sa_, sb_, sc_, i64_w, i32_w]; rfl))
    (refine ordP HT_ 34 (v := ?_) (a' := ?_) rfl rfl (by kernel_rfl) (fun _ _ _ h => h) (Or.inl ⟨by kernel_rfl, ?_⟩) ?_ ?_; rotate_left; (intro w'; go_simp; with_reducible rfl); rotate_left; (simp only [Act.put, sa_, sb_, sc_, i64_w, i32_w]; rfl))
    (refine ordP HT_ 35 (v := ?_) (a' := ?_) rfl rfl (by kernel_rfl) (fun _ _ _ h => h) (Or.inl ⟨by kernel_rfl, ?_⟩) ?_ ?_; rotate_left; (intro w'; go_simp; with_reducible rfl); rotate_left; (simp only [Act.put, sa_, sb_, sc_, i64_w, i32_w]; rfl))
    (refine ordP HT_ 36 (v := ?_) (a' := ?_) rfl rfl (by kernel_rfl) (fun _ _ _ h => h) (Or.inl ⟨by kernel_rfl, ?_⟩) ?_ ?_; rotate_left; (intro w'; go_simp; with_reducible rfl); rotate_left; (simp only [Act.put, sa_, sb_, sc_, i64_w, i32_w]; rfl))
    (refine ordP HT_ 37 (v := ?_) (a' := ?_) rfl rfl (by kernel_rfl) (fun _ _ _ h => h) (Or.inl ⟨by kernel_rfl, ?_⟩) ?_ ?_; rotate_left; (intro w'; go_simp; with_reducible rfl); rotate_left; (simp only [Act.put, sa_, sb_, sc_, i64_w, i32_w]; rfl))
    (refine ordP HT_ 45 (v := ?_) (a' := ?_) rfl rfl (by kernel_rfl) (fun _ _ _ h => h) (Or.inl ⟨by kernel_rfl, ?_⟩) ?_ ?_; rotate_left; (intro w'; go_simp; with_reducible rfl); rotate_left; (simp only [Act.put, sa_, sb_, sc_, i64_w, i32_w]; rfl))
    (refine ordP HT_ 46 (v := ?_) (a' := ?_) rfl rfl (by kernel_rfl) (fun _ _ _ h => h) (Or.inl ⟨by kernel_rfl, ?_⟩) ?_ ?_; rotate_left; (intro w'; go_simp; with_reducible rfl); rotate_left; (simp only [Act.put, sa_, sb_, sc_, i64_w, i32_w]; rfl))
    (refine ordP HT_ 47 (v := ?_) (a' := ?_) rfl rfl (by kernel_rfl) (fun _ _ _ h => h) (Or.inl ⟨by kernel_rfl, ?_⟩) ?_ ?_; rotate_left; (intro w'; go_simp; with_reducible rfl); rotate_left; (simp only [Act.put, sa_, sb_, sc_, i64_w, i32_w]; rfl))
    (refine ordP HT_ 48 (v := ?_) (a' := ?_) rfl rfl (by kernel_rfl) (fun _ _ _ h => h) (Or.inl ⟨by kernel_rfl, ?_⟩) ?_ ?_; rotate_left; (intro w'; go_simp; with_reducible rfl); rotate_left; (simp only [Act.put, sa_, sb_, sc_, i64_w, i32_w]; rfl))
    refine ordG (fn := Tryd.f44) HT_ 23 rfl rfl (by kernel_rfl) rfl Tryd.func44 (by kernel_rfl) (by kernel_rfl) #[.pointer (some ⟨gl, 0, none⟩), .string client, .int .i64 now] (by kernel_rfl) (by (try simp only [List.map_toArray, List.map_cons, List.map_nil]); first | done | rfl) ?_
    with_reducible refine (CH.out _ BX.out).mono ?_
    rintro e wg ⟨rfl, hb2⟩
    replace HB := am_ (bt_ HB.out hb2)
    replace BX := am_ (kb_ BX.out hb2)
    replace BQ := am_ (kb_ BQ.out hb2)
    refine ⟨_, rfl, (claim_kind.S_below hHeld hb2), fun hHeld => ⟨?_, ?_, ?_⟩⟩
    rotate_left
    ·simp only [Act.put, sa_, sb_, sc_, i64_w, i32_w]
     rfl
    (refine ordP HT_ 24 (v := ?_) (a' := ?_) rfl rfl (by kernel_rfl) (fun _ _ _ h => h) (Or.inl ⟨by kernel_rfl, ?_⟩) ?_ ?_; rotate_left; (intro w'; go_simp; with_reducible rfl); rotate_left; (simp only [Act.put, sa_, sb_, sc_, i64_w, i32_w]; rfl))
    (refine ordP HT_ 25 (v := ?_) (a' := ?_) rfl rfl (by kernel_rfl) (fun _ _ _ h => h) (Or.inl ⟨by kernel_rfl, ?_⟩) ?_ ?_; rotate_left; (intro w'; go_simp; with_reducible rfl); rotate_left; (simp only [Act.put, sa_, sb_, sc_, i64_w, i32_w]; rfl))
    (refine ordP HT_ 38 (v := ?_) (a' := ?_) rfl rfl (by kernel_rfl) (fun _ _ _ h => h) (Or.inl ⟨by kernel_rfl, ?_⟩) ?_ ?_; rotate_left; (intro w'; go_simp; with_reducible rfl); rotate_left; (simp only [Act.put, sa_, sb_, sc_, i64_w, i32_w]; rfl))
    (refine ordP HT_ 39 (v := undef) (a' := ?_) rfl rfl (by kernel_rfl) (fun _ _ _ h => h) (Or.inr ⟨by kernel_rfl, rfl⟩) ?_ ?_; rotate_left; (simp only [Act.put, sa_, sb_, sc_, i64_w, i32_w]; rfl))
    (refine ordP HT_ 40 (v := undef) (a' := ?_) rfl rfl (by kernel_rfl) (fun _ _ _ h => h) (Or.inr ⟨by kernel_rfl, rfl⟩) ?_ ?_; rotate_left; (simp only [Act.put, sa_, sb_, sc_, i64_w, i32_w]; rfl))
    (refine ordP HT_ 41 (v := undef) (a' := ?_) rfl rfl (by kernel_rfl) (fun _ _ _ h => h) (Or.inr ⟨by kernel_rfl, rfl⟩) ?_ ?_; rotate_left; (simp only [Act.put, sa_, sb_, sc_, i64_w, i32_w]; rfl))
    (refine ordP HT_ 42 (v := undef) (a' := ?_) rfl rfl (by kernel_rfl) (fun _ _ _ h => h) (Or.inr ⟨by kernel_rfl, rfl⟩) ?_ ?_; rotate_left; (simp only [Act.put, sa_, sb_, sc_, i64_w, i32_w]; rfl))
    (refine ordP HT_ 43 (v := ?_) (a' := ?_) rfl rfl (by kernel_rfl) (fun _ _ _ h => h) (Or.inl ⟨by kernel_rfl, ?_⟩) ?_ ?_; rotate_left; (intro w'; go_simp; with_reducible rfl); rotate_left; (simp only [Act.put, sa_, sb_, sc_, i64_w, i32_w]; rfl))
    (refine ordP HT_ 44 (v := ?_) (a' := ?_) rfl rfl (by kernel_rfl) (fun _ _ _ h => h) (Or.inl ⟨by kernel_rfl, ?_⟩) ?_ ?_; rotate_left; (intro w'; go_simp; with_reducible rfl); rotate_left; (simp only [Act.put, sa_, sb_, sc_, i64_w, i32_w]; rfl))
    refine ordC HT_ 49 rfl rfl (by kernel_rfl) (fun K hK => ?_)
    rw [if_pos (by kernel_rfl)]
    go_simp
    refine hK.out _ _ (claim_kind.S_below hHeld (p3_ (Below.refl _ _) _)) (fun hHeld => ?_)
    clear hK K
    (refine ordP HT_ 50 (v := ?_) (a' := ?_) rfl rfl (by kernel_rfl) (fun _ _ _ h => h) (Or.inl ⟨by kernel_rfl, ?_⟩) ?_ ?_; rotate_left; (intro w'; go_simp; with_reducible rfl); rotate_left; (simp only [Act.put, sa_, sb_, sc_, i64_w, i32_w]; rfl))
    refine ordE HT_ (by kernel_rfl) ?_
    clear hHeld HT_ HW_ BX BQ CH CB HS
    go_wp2
    refine wp_loop_rounds 9 ?_
    repeat any_goals (rw [rounds_succ]; go_wp2)
    all_goals (try go_ret)
    all_goals refine ⟨?_, by repeat (with_reducible first | exact HB.out | exact HB0.out | apply p3_ | apply p1_ | apply p2_)⟩
    all_goals first | (rw [← HR.out]; clear HR HB HB0; rfl) | (rw [← HR.out]; clear HR HB HB0; (simp_all; done)) | (rw [← HR.out]; clear HR HB HB0; simp_all <;> omega)
  | false =>
   cases lv with
   | true =>
    refine ordS (S := claim_kind.S gq gl true q1 q2 q3 q4 x0 x1 x2 x3 x4 x5) 51 (by kernel_rfl) rfl rfl (by exact claim_kind.S_below HS.out (by repeat (first | exact Below.refl _ _ | apply p2_))) ?_
    intro hHeld
    refine with_tabW claim_kind.tab2 claim_kind.bits2 (fun HT_ HW_ => ?_)
    have HB0 := HB
    replace HB := am_ (p2_ HB.out)
    replace BX := am_ (k3_ BX.out)
    replace BQ := am_ (k3_ BQ.out)
    (refine ordP HT_ 0 (v := ?_) (a' := ?_) rfl rfl (by kernel_rfl) (fun _ _ _ h => h) (Or.inl ⟨by kernel_rfl, ?_⟩) ?_ ?_; rotate_left; (intro w'; go_simp; with_reducible rfl); rotate_left; (simp only [Act.put, sa_, sb_, sc_, i64_w, i32_w]; rfl))
    (refine ordP HT_ 1 (v := ?_) (a' := ?_) rfl rfl (by kernel_rfl) (fun _ _ _ h => h) (Or.inl ⟨by kernel_rfl, ?_⟩) ?_ ?_; rotate_left; (intro w'; go_simp; with_reducible rfl); rotate_left; (simp only [Act.put, sa_, sb_, sc_, i64_w, i32_w]; rfl))
    (refine ordP HT_ 2 (v := ?_) (a' := ?_) rfl rfl (by kernel_rfl) (fun _ _ _ h => h) (Or.inl ⟨by kernel_rfl, ?_⟩) ?_ ?_; rotate_left; (intro w'; go_simp; with_reducible rfl); rotate_left; (simp only [Act.put, sa_, sb_, sc_, i64_w, i32_w]; rfl))
    (refine ordL HT_ HW_ 3 (v := ?_) (a' := ?_) rfl rfl (by kernel_rfl) (fun _ _ _ h => h) (Or.inl ⟨by kernel_rfl, ?_⟩) hHeld ?_ ?_; rotate_left; (rintro w' ⟨s0, s1, s2, s3, s4, s5, s6, s7, s8, s9, s10⟩; go_simp; with_reducible rfl); rotate_left; (simp only [Act.put, sa_, sb_, sc_, i64_w, i32_w]; rfl))
    (refine ordP HT_ 4 (v := ?_) (a' := ?_) rfl rfl (by kernel_rfl) (fun _ _ _ h => h) (Or.inl ⟨by kernel_rfl, ?_⟩) ?_ ?_; rotate_left; (intro w'; go_simp; with_reducible rfl); rotate_left; (simp only [Act.put, sa_, sb_, sc_, i64_w, i32_w]; rfl))
    (refine ordP HT_ 5 (v := ?_) (a' := ?_) rfl rfl (by kernel_rfl) (fun _ _ _ h => h) (Or.inl ⟨by kernel_rfl, ?_⟩) ?_ ?_; rotate_left; (intro w'; go_simp; with_reducible rfl); rotate_left; (simp only [Act.put, sa_, sb_, sc_, i64_w, i32_w]; rfl))
    (refine ordP HT_ 6 (v := ?_) (a' := ?_) rfl rfl (by kernel_rfl) (fun _ _ _ h => h) (Or.inl ⟨by kernel_rfl, ?_⟩) ?_ ?_; rotate_left; (intro w'; go_simp; with_reducible rfl); rotate_left; (simp only [Act.put, sa_, sb_, sc_, i64_w, i32_w]; rfl))
    (refine ordP HT_ 7 (v := ?_) (a' := ?_) rfl rfl (by kernel_rfl) (fun _ _ _ h => h) (Or.inl ⟨by kernel_rfl, ?_⟩) ?_ ?_; rotate_left; (intro w'; go_simp; with_reducible rfl); rotate_left; (simp only [Act.put, sa_, sb_, sc_, i64_w, i32_w]; rfl))
    (refine ordL HT_ HW_ 8 (v := ?_) (a' := ?_) rfl rfl (by kernel_rfl) (fun _ _ _ h => h) (Or.inl ⟨by kernel_rfl, ?_⟩) hHeld ?_ ?_; rotate_left; (rintro w' ⟨s0, s1, s2, s3, s4, s5, s6, s7, s8, s9, s10⟩; go_simp; with_reducible rfl); rotate_left; (simp only [Act.put, sa_, sb_, sc_, i64_w, i32_w]; rfl))
    (refine ordP HT_ 9 (v := ?_) (a' := ?_) rfl rfl (by kernel_rfl) (fun _ _ _ h => h) (Or.inl ⟨by kernel_rfl, ?_⟩) ?_ ?_; rotate_left; (intro w'; go_simp; with_reducible rfl); rotate_left; (simp only [Act.put, sa_, sb_, sc_, i64_w, i32_w]; rfl))
    (refine ordP HT_ 10 (v := ?_) (a' := ?_) rfl rfl (by kernel_rfl) (fun _ _ _ h => h) (Or.inl ⟨by kernel_rfl, ?_⟩) ?_ ?_; rotate_left; (intro w'; go_simp; with_reducible rfl); rotate_left; (simp only [Act.put, sa_, sb_, sc_, i64_w, i32_w]; rfl))
    (refine ordP HT_ 11 (v := ?_) (a' := ?_) rfl rfl (by kernel_rfl) (fun _ _ _ h => h) (Or.inl ⟨by kernel_rfl, ?_⟩) ?_ ?_; rotate_left; (intro w'; go_simp; with_reducible rfl); rotate_left; (simp only [Act.put, sa_, sb_, sc_, i64_w, i32_w]; rfl))
    (refine ordP HT_ 12 (v := ?_) (a' := ?_) rfl rfl (by kernel_rfl) (fun _ _ _ h => h) (Or.inl ⟨by kernel_rfl, ?_⟩) ?_ ?_; rotate_left; (intro w'; go_simp; with_reducible rfl); rotate_left; (simp only [Act.put, sa_, sb_, sc_, i64_w, i32_w]; rfl))
    (refine ordP HT_ 13 (v := ?_) (a' := ?_) rfl rfl (by kernel_rfl) (fun _ _ _ h => h) (Or.inl ⟨by kernel_rfl, ?_⟩) ?_ ?_; rotate_left; (intro w'; go_simp; with_reducible rfl); rotate_left; (simp only [Act.put, sa_, sb_, sc_, i64_w, i32_w]; rfl))
    (refine ordP HT_ 14 (v := ?_) (a' := ?_) rfl rfl (by kernel_rfl) (fun _ _ _ h => h) (Or.inl ⟨by kernel_rfl, ?_⟩) ?_ ?_; rotate_left; (intro w'; go_simp; with_reducible rfl); rotate_left; (simp only [Act.put, sa_, sb_, sc_, i64_w, i32_w]; rfl))
    (refine ordL HT_ HW_ 15 (v := ?_) (a' := ?_) rfl rfl (by kernel_rfl) (fun _ _ _ h => h) (Or.inl ⟨by kernel_rfl, ?_⟩) hHeld ?_ ?_; rotate_left; (rintro w' ⟨s0, s1, s2, s3, s4, s5, s6, s7, s8, s9, s10⟩; go_simp; with_reducible rfl); rotate_left; (simp only [Act.put, sa_, sb_, sc_, i64_w, i32_w]; rfl))
    (refine ordP HT_ 16 (v := ?_) (a' := ?_) rfl rfl (by kernel_rfl) (fun _ _ _ h => h) (Or.inl ⟨by kernel_rfl, ?_⟩) ?_ ?_; rotate_left; (intro w'; go_simp; with_reducible rfl); rotate_left; (simp only [Act.put, sa_, sb_, sc_, i64_w, i32_w]; rfl))
    (refine ordP HT_ 17 (v := ?_) (a' := ?_) rfl rfl (by kernel_rfl) (fun _ _ _ h => h) (Or.inl ⟨by kernel_rfl, ?_⟩) ?_ ?_; rotate_left; (intro w'; go_simp; with_reducible rfl); rotate_left; (simp only [Act.put, sa_, sb_, sc_, i64_w, i32_w]; rfl))
    (refine ordP HT_ 18 (v := ?_) (a' := ?_) rfl rfl (by kernel_rfl) (fun _ _ _ h => h) (Or.inl ⟨by kernel_rfl, ?_⟩) ?_ ?_; rotate_left; (intro w'; go_simp; with_reducible rfl); rotate_left; (simp only [Act.put, sa_, sb_, sc_, i64_w, i32_w]; rfl))
    (refine ordP HT_ 19 (v := ?_) (a' := ?_) rfl rfl (by kernel_rfl) (fun _ _ _ h => h) (Or.inl ⟨by kernel_rfl, ?_⟩) ?_ ?_; rotate_left; (intro w'; go_simp; with_reducible rfl); rotate_left; (simp only [Act.put, sa_, sb_, sc_, i64_w, i32_w]; rfl))
    (refine ordP HT_ 20 (v := undef) (a' := ?_) rfl rfl (by kernel_rfl) (fun _ _ _ h => h) (Or.inr ⟨by kernel_rfl, rfl⟩) ?_ ?_; rotate_left; (simp only [Act.put, sa_, sb_, sc_, i64_w, i32_w]; rfl))
    (refine ordP HT_ 21 (v := undef) (a' := ?_) rfl rfl (by kernel_rfl) (fun _ _ _ h => h) (Or.inr ⟨by kernel_rfl, rfl⟩) ?_ ?_; rotate_left; (simp only [Act.put, sa_, sb_, sc_, i64_w, i32_w]; rfl))
    (refine ordP HT_ 22 (v := undef) (a' := ?_) rfl rfl (by kernel_rfl) (fun _ _ _ h => h) (Or.inr ⟨by kernel_rfl, rfl⟩) ?_ ?_; rotate_left; (simp only [Act.put, sa_, sb_, sc_, i64_w, i32_w]; rfl))
    (refine ordP HT_ 23 (v := undef) (a' := ?_) rfl rfl (by kernel_rfl) (fun _ _ _ h => h) (Or.inr ⟨by kernel_rfl, rfl⟩) ?_ ?_; rotate_left; (simp only [Act.put, sa_, sb_, sc_, i64_w, i32_w]; rfl))
    (refine ordP HT_ 24 (v := ?_) (a' := ?_) rfl rfl (by kernel_rfl) (fun _ _ _ h => h) (Or.inl ⟨by kernel_rfl, ?_⟩) ?_ ?_; rotate_left; (intro w'; go_simp; with_reducible rfl); rotate_left; (simp only [Act.put, sa_, sb_, sc_, i64_w, i32_w]; rfl))
    (refine ordP HT_ 25 (v := ?_) (a' := ?_) rfl rfl (by kernel_rfl) (fun _ _ _ h => h) (Or.inl ⟨by kernel_rfl, ?_⟩) ?_ ?_; rotate_left; (intro w'; go_simp; with_reducible rfl); rotate_left; (simp only [Act.put, sa_, sb_, sc_, i64_w, i32_w]; rfl))
    (refine ordP HT_ 26 (v := ?_) (a' := ?_) rfl rfl (by kernel_rfl) (fun _ _ _ h => h) (Or.inl ⟨by kernel_rfl, ?_⟩) ?_ ?_; rotate_left; (intro w'; go_simp; with_reducible rfl); rotate_left; (simp only [Act.put, sa_, sb_, sc_, i64_w, i32_w]; rfl))
    (refine ordP HT_ 27 (v := ?_) (a' := ?_) rfl rfl (by kernel_rfl) (fun _ _ _ h => h) (Or.inl ⟨by kernel_rfl, ?_⟩) ?_ ?_; rotate_left; (intro w'; go_simp; with_reducible rfl); rotate_left; (simp only [Act.put, sa_, sb_, sc_, i64_w, i32_w]; rfl))
    (refine ordP HT_ 28 (v := ?_) (a' := ?_) rfl rfl (by kernel_rfl) (fun _ _ _ h => h) (Or.inl ⟨by kernel_rfl, ?_⟩) ?_ ?_; rotate_left; (intro w'; go_simp; with_reducible rfl); rotate_left; (simp only [Act.put, sa_, sb_, sc_, i64_w, i32_w]; rfl))
    (refine ordL HT_ HW_ 29 (v := ?_) (a' := ?_) rfl rfl (by kernel_rfl) (fun _ _ _ h => h) (Or.inl ⟨by kernel_rfl, ?_⟩) hHeld ?_ ?_; rotate_left; (rintro w' ⟨s0, s1, s2, s3, s4, s5, s6, s7, s8, s9, s10⟩; go_simp; with_reducible rfl); rotate_left; (simp only [Act.put, sa_, sb_, sc_, i64_w, i32_w]; rfl))
    (refine ordP HT_ 30 (v := ?_) (a' := ?_) rfl rfl (by kernel_rfl) (fun _ _ _ h => h) (Or.inl ⟨by kernel_rfl, ?_⟩) ?_ ?_; rotate_left; (intro w'; go_simp; with_reducible rfl); rotate_left; (simp only [Act.put, sa_, sb_, sc_, i64_w, i32_w]; rfl))
    (refine ordP HT_ 31 (v := ?_) (a' := ?_) rfl rfl (by kernel_rfl) (fun _ _ _ h => h) (Or.inl ⟨by kernel_rfl, ?_⟩) ?_ ?_; rotate_left; (intro w'; go_simp; with_reducible rfl); rotate_left; (simp only [Act.put, sa_, sb_, sc_, i64_w, i32_w]; rfl))
    (refine ordP HT_ 32 (v := ?_) (a' := ?_) rfl rfl (by kernel_rfl) (fun _ _ _ h => h) (Or.inl ⟨by kernel_rfl, ?_⟩) ?_ ?_; rotate_left; (intro w'; go_simp; with_reducible rfl); rotate_left; (simp only [Act.put, sa_, sb_, sc_, i64_w, i32_w]; rfl))
    (refine ordP HT_ 33 (v := ?_) (a' := ?_) rfl rfl (by kernel_rfl) (fun _ _ _ h => h) (Or.inl ⟨by kernel_rfl, ?_⟩) ?_ ?_; rotate_left; (intro w'; go_simp; with_reducible rfl); rotate_left; (simp only [Act.put, sa_, sb_, sc_, i64_w, i32_w]; rfl))
    (refine ordP HT_ 34 (v := ?_) (a' := ?_) rfl rfl (by kernel_rfl) (fun _ _ _ h => h) (Or.inl ⟨by kernel_rfl, ?_⟩) ?_ ?_; rotate_left; (intro w'; go_simp; with_reducible rfl); rotate_left; (simp only [Act.put, sa_, sb_, sc_, i64_w, i32_w]; rfl))
    (refine ordP HT_ 35 (v := ?_) (a' := ?_) rfl rfl (by kernel_rfl) (fun _ _ _ h => h) (Or.inl ⟨by kernel_rfl, ?_⟩) ?_ ?_; rotate_left; (intro w'; go_simp; with_reducible rfl); rotate_left; (simp only [Act.put, sa_, sb_, sc_, i64_w, i32_w]; rfl))
    (refine ordP HT_ 36 (v := ?_) (a' := ?_) rfl rfl (by kernel_rfl) (fun _ _ _ h => h) (Or.inl ⟨by kernel_rfl, ?_⟩) ?_ ?_; rotate_left; (intro w'; go_simp; with_reducible rfl); rotate_left; (simp only [Act.put, sa_, sb_, sc_, i64_w, i32_w]; rfl))
    (refine ordP HT_ 37 (v := ?_) (a' := ?_) rfl rfl (by kernel_rfl) (fun _ _ _ h => h) (Or.inl ⟨by kernel_rfl, ?_⟩) ?_ ?_; rotate_left; (intro w'; go_simp; with_reducible rfl); rotate_left; (simp only [Act.put, sa_, sb_, sc_, i64_w, i32_w]; rfl))
    (refine ordP HT_ 38 (v := ?_) (a' := ?_) rfl rfl (by kernel_rfl) (fun _ _ _ h => h) (Or.inl ⟨by kernel_rfl, ?_⟩) ?_ ?_; rotate_left; (intro w'; go_simp; with_reducible rfl); rotate_left; (simp only [Act.put, sa_, sb_, sc_, i64_w, i32_w]; rfl))
    (refine ordP HT_ 39 (v := ?_) (a' := ?_) rfl rfl (by kernel_rfl) (fun _ _ _ h => h) (Or.inl ⟨by kernel_rfl, ?_⟩) ?_ ?_; rotate_left; (intro w'; go_simp; with_reducible rfl); rotate_left; (simp only [Act.put, sa_, sb_, sc_, i64_w, i32_w]; rfl))
    (refine ordP HT_ 40 (v := ?_) (a' := ?_) rfl rfl (by kernel_rfl) (fun _ _ _ h => h) (Or.inl ⟨by kernel_rfl, ?_⟩) ?_ ?_; rotate_left; (intro w'; go_simp; with_reducible rfl); rotate_left; (simp only [Act.put, sa_, sb_, sc_, i64_w, i32_w]; rfl))
    (refine ordP HT_ 41 (v := ?_) (a' := ?_) rfl rfl (by kernel_rfl) (fun _ _ _ h => h) (Or.inl ⟨by kernel_rfl, ?_⟩) ?_ ?_; rotate_left; (intro w'; go_simp; with_reducible rfl); rotate_left; (simp only [Act.put, sa_, sb_, sc_, i64_w, i32_w]; rfl))
    (refine ordP HT_ 45 (v := ?_) (a' := ?_) rfl rfl (by kernel_rfl) (fun _ _ _ h => h) (Or.inl ⟨by kernel_rfl, ?_⟩) ?_ ?_; rotate_left; (intro w'; go_simp; with_reducible rfl); rotate_left; (simp only [Act.put, sa_, sb_, sc_, i64_w, i32_w]; rfl))
    (refine ordP HT_ 46 (v := ?_) (a' := ?_) rfl rfl (by kernel_rfl) (fun _ _ _ h => h) (Or.inl ⟨by kernel_rfl, ?_⟩) ?_ ?_; rotate_left; (intro w'; go_simp; with_reducible rfl); rotate_left; (simp only [Act.put, sa_, sb_, sc_, i64_w, i32_w]; rfl))
    (refine ordP HT_ 47 (v := ?_) (a' := ?_) rfl rfl (by kernel_rfl) (fun _ _ _ h => h) (Or.inl ⟨by kernel_rfl, ?_⟩) ?_ ?_; rotate_left; (intro w'; go_simp; with_reducible rfl); rotate_left; (simp only [Act.put, sa_, sb_, sc_, i64_w, i32_w]; rfl))
    (refine ordP HT_ 48 (v := ?_) (a' := ?_) rfl rfl (by kernel_rfl) (fun _ _ _ h => h) (Or.inl ⟨by kernel_rfl, ?_⟩) ?_ ?_; rotate_left; (intro w'; go_simp; with_reducible rfl); rotate_left; (simp only [Act.put, sa_, sb_, sc_, i64_w, i32_w]; rfl))
    refine ordG (fn := Tryd.f45) HT_ 42 rfl rfl (by kernel_rfl) rfl Tryd.func45 (by kernel_rfl) (by kernel_rfl) #[.pointer (some ⟨gl, 0, none⟩), .string client, .int .i64 now] (by kernel_rfl) (by (try simp only [List.map_toArray, List.map_cons, List.map_nil]); first | done | rfl) ?_
    with_reducible refine (CB.out _ BX.out).mono ?_
    rintro e wg ⟨rfl, hb2⟩
    replace HB := am_ (bt_ HB.out hb2)
    replace BX := am_ (kb_ BX.out hb2)
    replace BQ := am_ (kb_ BQ.out hb2)
    refine ⟨_, rfl, (claim_kind.S_below hHeld hb2), fun hHeld => ⟨?_, ?_, ?_⟩⟩
    rotate_left
    ·simp only [Act.put, sa_, sb_, sc_, i64_w, i32_w]
     rfl
    (refine ordP HT_ 43 (v := ?_) (a' := ?_) rfl rfl (by kernel_rfl) (fun _ _ _ h => h) (Or.inl ⟨by kernel_rfl, ?_⟩) ?_ ?_; rotate_left; (intro w'; go_simp; with_reducible rfl); rotate_left; (simp only [Act.put, sa_, sb_, sc_, i64_w, i32_w]; rfl))
    (refine ordP HT_ 44 (v := ?_) (a' := ?_) rfl rfl (by kernel_rfl) (fun _ _ _ h => h) (Or.inl ⟨by kernel_rfl, ?_⟩) ?_ ?_; rotate_left; (intro w'; go_simp; with_reducible rfl); rotate_left; (simp only [Act.put, sa_, sb_, sc_, i64_w, i32_w]; rfl))
    refine ordC HT_ 49 rfl rfl (by kernel_rfl) (fun K hK => ?_)
    rw [if_pos (by kernel_rfl)]
    go_simp
    refine hK.out _ _ (claim_kind.S_below hHeld (p3_ (Below.refl _ _) _)) (fun hHeld => ?_)
    clear hK K
    (refine ordP HT_ 50 (v := ?_) (a' := ?_) rfl rfl (by kernel_rfl) (fun _ _ _ h => h) (Or.inl ⟨by kernel_rfl, ?_⟩) ?_ ?_; rotate_left; (intro w'; go_simp; with_reducible rfl); rotate_left; (simp only [Act.put, sa_, sb_, sc_, i64_w, i32_w]; rfl))
    refine ordE HT_ (by kernel_rfl) ?_
    clear hHeld HT_ HW_ BX BQ CH CB HS
    go_wp2
    refine wp_loop_rounds 9 ?_
    repeat any_goals (rw [rounds_succ]; go_wp2)
    all_goals (try go_ret)
    all_goals refine ⟨?_, by repeat (with_reducible first | exact HB.out | exact HB0.out | apply p3_ | apply p1_ | apply p2_)⟩
    all_goals first | (rw [← HR.out]; clear HR HB HB0; rfl) | (rw [← HR.out]; clear HR HB HB0; (simp_all; done)) | (rw [← HR.out]; clear HR HB HB0; simp_all <;> omega)
   | false =>
    refine ordS (S := claim_kind.S gq gl true q1 q2 q3 q4 x0 x1 x2 x3 x4 x5) 51 (by kernel_rfl) rfl rfl (by exact claim_kind.S_below HS.out (by repeat (first | exact Below.refl _ _ | apply p2_))) ?_
    intro hHeld
    refine with_tabW claim_kind.tab2 claim_kind.bits2 (fun HT_ HW_ => ?_)
    have HB0 := HB
    replace HB := am_ (p2_ HB.out)
    replace BX := am_ (k3_ BX.out)
    replace BQ := am_ (k3_ BQ.out)
    (refine ordP HT_ 0 (v := ?_) (a' := ?_) rfl rfl (by kernel_rfl) (fun _ _ _ h => h) (Or.inl ⟨by kernel_rfl, ?_⟩) ?_ ?_; rotate_left; (intro w'; go_simp; with_reducible rfl); rotate_left; (simp only [Act.put, sa_, sb_, sc_, i64_w, i32_w]; rfl))
    (refine ordP HT_ 1 (v := ?_) (a' := ?_) rfl rfl (by kernel_rfl) (fun _ _ _ h => h) (Or.inl ⟨by kernel_rfl, ?_⟩) ?_ ?_; rotate_left; (intro w'; go_simp; with_reducible rfl); rotate_left; (simp only [Act.put, sa_, sb_, sc_, i64_w, i32_w]; rfl))
    (refine ordP HT_ 2 (v := ?_) (a' := ?_) rfl rfl (by kernel_rfl) (fun _ _ _ h => h) (Or.inl ⟨by kernel_rfl, ?_⟩) ?_ ?_; rotate_left; (intro w'; go_simp; with_reducible rfl); rotate_left; (simp only [Act.put, sa_, sb_, sc_, i64_w, i32_w]; rfl))
    (refine ordL HT_ HW_ 3 (v := ?_) (a' := ?_) rfl rfl (by kernel_rfl) (fun _ _ _ h => h) (Or.inl ⟨by kernel_rfl, ?_⟩) hHeld ?_ ?_; rotate_left; (rintro w' ⟨s0, s1, s2, s3, s4, s5, s6, s7, s8, s9, s10⟩; go_simp; with_reducible rfl); rotate_left; (simp only [Act.put, sa_, sb_, sc_, i64_w, i32_w]; rfl))
    (refine ordP HT_ 4 (v := ?_) (a' := ?_) rfl rfl (by kernel_rfl) (fun _ _ _ h => h) (Or.inl ⟨by kernel_rfl, ?_⟩) ?_ ?_; rotate_left; (intro w'; go_simp; with_reducible rfl); rotate_left; (simp only [Act.put, sa_, sb_, sc_, i64_w, i32_w]; rfl))
    (refine ordP HT_ 5 (v := ?_) (a' := ?_) rfl rfl (by kernel_rfl) (fun _ _ _ h => h) (Or.inl ⟨by kernel_rfl, ?_⟩) ?_ ?_; rotate_left; (intro w'; go_simp; with_reducible rfl); rotate_left; (simp only [Act.put, sa_, sb_, sc_, i64_w, i32_w]; rfl))
    (refine ordP HT_ 6 (v := ?_) (a' := ?_) rfl rfl (by kernel_rfl) (fun _ _ _ h => h) (Or.inl ⟨by kernel_rfl, ?_⟩) ?_ ?_; rotate_left; (intro w'; go_simp; with_reducible rfl); rotate_left; (simp only [Act.put, sa_, sb_, sc_, i64_w, i32_w]; rfl))
    (refine ordP HT_ 7 (v := ?_) (a' := ?_) rfl rfl (by kernel_rfl) (fun _ _ _ h => h) (Or.inl ⟨by kernel_rfl, ?_⟩) ?_ ?_; rotate_left; (intro w'; go_simp; with_reducible rfl); rotate_left; (simp only [Act.put, sa_, sb_, sc_, i64_w, i32_w]; rfl))
    (refine ordL HT_ HW_ 8 (v := ?_) (a' := ?_) rfl rfl (by kernel_rfl) (fun _ _ _ h => h) (Or.inl ⟨by kernel_rfl, ?_⟩) hHeld ?_ ?_; rotate_left; (rintro w' ⟨s0, s1, s2, s3, s4, s5, s6, s7, s8, s9, s10⟩; go_simp; with_reducible rfl); rotate_left; (simp only [Act.put, sa_, sb_, sc_, i64_w, i32_w]; rfl))
    (refine ordP HT_ 9 (v := ?_) (a' := ?_) rfl rfl (by kernel_rfl) (fun _ _ _ h => h) (Or.inl ⟨by kernel_rfl, ?_⟩) ?_ ?_; rotate_left; (intro w'; go_simp; with_reducible rfl); rotate_left; (simp only [Act.put, sa_, sb_, sc_, i64_w, i32_w]; rfl))
    (refine ordP HT_ 10 (v := ?_) (a' := ?_) rfl rfl (by kernel_rfl) (fun _ _ _ h => h) (Or.inl ⟨by kernel_rfl, ?_⟩) ?_ ?_; rotate_left; (intro w'; go_simp; with_reducible rfl); rotate_left; (simp only [Act.put, sa_, sb_, sc_, i64_w, i32_w]; rfl))
    (refine ordP HT_ 11 (v := ?_) (a' := ?_) rfl rfl (by kernel_rfl) (fun _ _ _ h => h) (Or.inl ⟨by kernel_rfl, ?_⟩) ?_ ?_; rotate_left; (intro w'; go_simp; with_reducible rfl); rotate_left; (simp only [Act.put, sa_, sb_, sc_, i64_w, i32_w]; rfl))
    (refine ordP HT_ 12 (v := ?_) (a' := ?_) rfl rfl (by kernel_rfl) (fun _ _ _ h => h) (Or.inl ⟨by kernel_rfl, ?_⟩) ?_ ?_; rotate_left; (intro w'; go_simp; with_reducible rfl); rotate_left; (simp only [Act.put, sa_, sb_, sc_, i64_w, i32_w]; rfl))
    (refine ordP HT_ 13 (v := ?_) (a' := ?_) rfl rfl (by kernel_rfl) (fun _ _ _ h => h) (Or.inl ⟨by kernel_rfl, ?_⟩) ?_ ?_; rotate_left; (intro w'; go_simp; with_reducible rfl); rotate_left; (simp only [Act.put, sa_, sb_, sc_, i64_w, i32_w]; rfl))
    (refine ordP HT_ 14 (v := ?_) (a' := ?_) rfl rfl (by kernel_rfl) (fun _ _ _ h => h) (Or.inl ⟨by kernel_rfl, ?_⟩) ?_ ?_; rotate_left; (intro w'; go_simp; with_reducible rfl); rotate_left; (simp only [Act.put, sa_, sb_, sc_, i64_w, i32_w]; rfl))
    (refine ordL HT_ HW_ 15 (v := ?_) (a' := ?_) rfl rfl (by kernel_rfl) (fun _ _ _ h => h) (Or.inl ⟨by kernel_rfl, ?_⟩) hHeld ?_ ?_; rotate_left; (rintro w' ⟨s0, s1, s2, s3, s4, s5, s6, s7, s8, s9, s10⟩; go_simp; with_reducible rfl); rotate_left; (simp only [Act.put, sa_, sb_, sc_, i64_w, i32_w]; rfl))
    (refine ordP HT_ 16 (v := ?_) (a' := ?_) rfl rfl (by kernel_rfl) (fun _ _ _ h => h) (Or.inl ⟨by kernel_rfl, ?_⟩) ?_ ?_; rotate_left; (intro w'; go_simp; with_reducible rfl); rotate_left; (simp only [Act.put, sa_, sb_, sc_, i64_w, i32_w]; rfl))
    (refine ordP HT_ 17 (v := ?_) (a' := ?_) rfl rfl (by kernel_rfl) (fun _ _ _ h => h) (Or.inl ⟨by kernel_rfl, ?_⟩) ?_ ?_; rotate_left; (intro w'; go_simp; with_reducible rfl); rotate_left; (simp only [Act.put, sa_, sb_, sc_, i64_w, i32_w]; rfl))
    (refine ordP HT_ 18 (v := ?_) (a' := ?_) rfl rfl (by kernel_rfl) (fun _ _ _ h => h) (Or.inl ⟨by kernel_rfl, ?_⟩) ?_ ?_; rotate_left; (intro w'; go_simp; with_reducible rfl); rotate_left; (simp only [Act.put, sa_, sb_, sc_, i64_w, i32_w]; rfl))
    (refine ordP HT_ 19 (v := ?_) (a' := ?_) rfl rfl (by kernel_rfl) (fun _ _ _ h => h) (Or.inl ⟨by kernel_rfl, ?_⟩) ?_ ?_; rotate_left; (intro w'; go_simp; with_reducible rfl); rotate_left; (simp only [Act.put, sa_, sb_, sc_, i64_w, i32_w]; rfl))
    (refine ordP HT_ 20 (v := undef) (a' := ?_) rfl rfl (by kernel_rfl) (fun _ _ _ h => h) (Or.inr ⟨by kernel_rfl, rfl⟩) ?_ ?_; rotate_left; (simp only [Act.put, sa_, sb_, sc_, i64_w, i32_w]; rfl))
    (refine ordP HT_ 21 (v := undef) (a' := ?_) rfl rfl (by kernel_rfl) (fun _ _ _ h => h) (Or.inr ⟨by kernel_rfl, rfl⟩) ?_ ?_; rotate_left; (simp only [Act.put, sa_, sb_, sc_, i64_w, i32_w]; rfl))
    (refine ordP HT_ 22 (v := undef) (a' := ?_) rfl rfl (by kernel_rfl) (fun _ _ _ h => h) (Or.inr ⟨by kernel_rfl, rfl⟩) ?_ ?_; rotate_left; (simp only [Act.put, sa_, sb_, sc_, i64_w, i32_w]; rfl))
    (refine ordP HT_ 23 (v := undef) (a' := ?_) rfl rfl (by kernel_rfl) (fun _ _ _ h => h) (Or.inr ⟨by kernel_rfl, rfl⟩) ?_ ?_; rotate_left; (simp only [Act.put, sa_, sb_, sc_, i64_w, i32_w]; rfl))
    (refine ordP HT_ 24 (v := ?_) (a' := ?_) rfl rfl (by kernel_rfl) (fun _ _ _ h => h) (Or.inl ⟨by kernel_rfl, ?_⟩) ?_ ?_; rotate_left; (intro w'; go_simp; with_reducible rfl); rotate_left; (simp only [Act.put, sa_, sb_, sc_, i64_w, i32_w]; rfl))
    (refine ordP HT_ 25 (v := ?_) (a' := ?_) rfl rfl (by kernel_rfl) (fun _ _ _ h => h) (Or.inl ⟨by kernel_rfl, ?_⟩) ?_ ?_; rotate_left; (intro w'; go_simp; with_reducible rfl); rotate_left; (simp only [Act.put, sa_, sb_, sc_, i64_w, i32_w]; rfl))
    (refine ordP HT_ 26 (v := ?_) (a' := ?_) rfl rfl (by kernel_rfl) (fun _ _ _ h => h) (Or.inl ⟨by kernel_rfl, ?_⟩) ?_ ?_; rotate_left; (intro w'; go_simp; with_reducible rfl); rotate_left; (simp only [Act.put, sa_, sb_, sc_, i64_w, i32_w]; rfl))
    (refine ordP HT_ 27 (v := ?_) (a' := ?_) rfl rfl (by kernel_rfl) (fun _ _ _ h => h) (Or.inl ⟨by kernel_rfl, ?_⟩) ?_ ?_; rotate_left; (intro w'; go_simp; with_reducible rfl); rotate_left; (simp only [Act.put, sa_, sb_, sc_, i64_w, i32_w]; rfl))
    (refine ordP HT_ 28 (v := ?_) (a' := ?_) rfl rfl (by kernel_rfl) (fun _ _ _ h => h) (Or.inl ⟨by kernel_rfl, ?_⟩) ?_ ?_; rotate_left; (intro w'; go_simp; with_reducible rfl); rotate_left; (simp only [Act.put, sa_, sb_, sc_, i64_w, i32_w]; rfl))
    (refine ordL HT_ HW_ 29 (v := ?_) (a' := ?_) rfl rfl (by kernel_rfl) (fun _ _ _ h => h) (Or.inl ⟨by kernel_rfl, ?_⟩) hHeld ?_ ?_; rotate_left; (rintro w' ⟨s0, s1, s2, s3, s4, s5, s6, s7, s8, s9, s10⟩; go_simp; with_reducible rfl); rotate_left; (simp only [Act.put, sa_, sb_, sc_, i64_w, i32_w]; rfl))
    (refine ordP HT_ 30 (v := ?_) (a' := ?_) rfl rfl (by kernel_rfl) (fun _ _ _ h => h) (Or.inl ⟨by kernel_rfl, ?_⟩) ?_ ?_; rotate_left; (intro w'; go_simp; with_reducible rfl); rotate_left; (simp only [Act.put, sa_, sb_, sc_, i64_w, i32_w]; rfl))
    (refine ordP HT_ 31 (v := ?_) (a' := ?_) rfl rfl (by kernel_rfl) (fun _ _ _ h => h) (Or.inl ⟨by kernel_rfl, ?_⟩) ?_ ?_; rotate_left; (intro w'; go_simp; with_reducible rfl); rotate_left; (simp only [Act.put, sa_, sb_, sc_, i64_w, i32_w]; rfl))
    (refine ordP HT_ 32 (v := ?_) (a' := ?_) rfl rfl (by kernel_rfl) (fun _ _ _ h => h) (Or.inl ⟨by kernel_rfl, ?_⟩) ?_ ?_; rotate_left; (intro w'; go_simp; with_reducible rfl); rotate_left; (simp only [Act.put, sa_, sb_, sc_, i64_w, i32_w]; rfl))
    (refine ordP HT_ 33 (v := ?_) (a' := ?_) rfl rfl (by kernel_rfl) (fun _ _ _ h => h) (Or.inl ⟨by kernel_rfl, ?_⟩) ?_ ?_; rotate_left; (intro w'; go_simp; with_reducible rfl); rotate_left; (simp only [Act.put, sa_, sb_, sc_, i64_w, i32_w]; rfl))
    (refine ordP HT_ 34 (v := ?_) (a' := ?_) rfl rfl (by kernel_rfl) (fun _ _ _ h => h) (Or.inl ⟨by kernel_rfl, ?_⟩) ?_ ?_; rotate_left; (intro w'; go_simp; with_reducible rfl); rotate_left; (simp only [Act.put, sa_, sb_, sc_, i64_w, i32_w]; rfl))
    (refine ordP HT_ 35 (v := ?_) (a' := ?_) rfl rfl (by kernel_rfl) (fun _ _ _ h => h) (Or.inl ⟨by kernel_rfl, ?_⟩) ?_ ?_; rotate_left; (intro w'; go_simp; with_reducible rfl); rotate_left; (simp only [Act.put, sa_, sb_, sc_, i64_w, i32_w]; rfl))
    (refine ordP HT_ 36 (v := ?_) (a' := ?_) rfl rfl (by kernel_rfl) (fun _ _ _ h => h) (Or.inl ⟨by kernel_rfl, ?_⟩) ?_ ?_; rotate_left; (intro w'; go_simp; with_reducible rfl); rotate_left; (simp only [Act.put, sa_, sb_, sc_, i64_w, i32_w]; rfl))
    (refine ordP HT_ 37 (v := ?_) (a' := ?_) rfl rfl (by kernel_rfl) (fun _ _ _ h => h) (Or.inl ⟨by kernel_rfl, ?_⟩) ?_ ?_; rotate_left; (intro w'; go_simp; with_reducible rfl); rotate_left; (simp only [Act.put, sa_, sb_, sc_, i64_w, i32_w]; rfl))
    (refine ordP HT_ 38 (v := ?_) (a' := ?_) rfl rfl (by kernel_rfl) (fun _ _ _ h => h) (Or.inl ⟨by kernel_rfl, ?_⟩) ?_ ?_; rotate_left; (intro w'; go_simp; with_reducible rfl); rotate_left; (simp only [Act.put, sa_, sb_, sc_, i64_w, i32_w]; rfl))
    (refine ordP HT_ 39 (v := undef) (a' := ?_) rfl rfl (by kernel_rfl) (fun _ _ _ h => h) (Or.inr ⟨by kernel_rfl, rfl⟩) ?_ ?_; rotate_left; (simp only [Act.put, sa_, sb_, sc_, i64_w, i32_w]; rfl))
    (refine ordP HT_ 40 (v := undef) (a' := ?_) rfl rfl (by kernel_rfl) (fun _ _ _ h => h) (Or.inr ⟨by kernel_rfl, rfl⟩) ?_ ?_; rotate_left; (simp only [Act.put, sa_, sb_, sc_, i64_w, i32_w]; rfl))
    (refine ordP HT_ 41 (v := undef) (a' := ?_) rfl rfl (by kernel_rfl) (fun _ _ _ h => h) (Or.inr ⟨by kernel_rfl, rfl⟩) ?_ ?_; rotate_left; (simp only [Act.put, sa_, sb_, sc_, i64_w, i32_w]; rfl))
    (refine ordP HT_ 42 (v := undef) (a' := ?_) rfl rfl (by kernel_rfl) (fun _ _ _ h => h) (Or.inr ⟨by kernel_rfl, rfl⟩) ?_ ?_; rotate_left; (simp only [Act.put, sa_, sb_, sc_, i64_w, i32_w]; rfl))
    (refine ordP HT_ 43 (v := ?_) (a' := ?_) rfl rfl (by kernel_rfl) (fun _ _ _ h => h) (Or.inl ⟨by kernel_rfl, ?_⟩) ?_ ?_; rotate_left; (intro w'; go_simp; with_reducible rfl); rotate_left; (simp only [Act.put, sa_, sb_, sc_, i64_w, i32_w]; rfl))
    (refine ordP HT_ 44 (v := ?_) (a' := ?_) rfl rfl (by kernel_rfl) (fun _ _ _ h => h) (Or.inl ⟨by kernel_rfl, ?_⟩) ?_ ?_; rotate_left; (intro w'; go_simp; with_reducible rfl); rotate_left; (simp only [Act.put, sa_, sb_, sc_, i64_w, i32_w]; rfl))
    (refine ordP HT_ 45 (v := ?_) (a' := ?_) rfl rfl (by kernel_rfl) (fun _ _ _ h => h) (Or.inl ⟨by kernel_rfl, ?_⟩) ?_ ?_; rotate_left; (intro w'; go_simp; with_reducible rfl); rotate_left; (simp only [Act.put, sa_, sb_, sc_, i64_w, i32_w]; rfl))
    (refine ordP HT_ 46 (v := ?_) (a' := ?_) rfl rfl (by kernel_rfl) (fun _ _ _ h => h) (Or.inl ⟨by kernel_rfl, ?_⟩) ?_ ?_; rotate_left; (intro w'; go_simp; with_reducible rfl); rotate_left; (simp only [Act.put, sa_, sb_, sc_, i64_w, i32_w]; rfl))
    (refine ordP HT_ 47 (v := ?_) (a' := ?_) rfl rfl (by kernel_rfl) (fun _ _ _ h => h) (Or.inl ⟨by kernel_rfl, ?_⟩) ?_ ?_; rotate_left; (intro w'; go_simp; with_reducible rfl); rotate_left; (simp only [Act.put, sa_, sb_, sc_, i64_w, i32_w]; rfl))
    (refine ordP HT_ 48 (v := ?_) (a' := ?_) rfl rfl (by kernel_rfl) (fun _ _ _ h => h) (Or.inl ⟨by kernel_rfl, ?_⟩) ?_ ?_; rotate_left; (intro w'; go_simp; with_reducible rfl); rotate_left; (simp only [Act.put, sa_, sb_, sc_, i64_w, i32_w]; rfl))
    refine ordC HT_ 49 rfl rfl (by kernel_rfl) (fun K hK => ?_)
    rw [if_pos (by kernel_rfl)]
    go_simp
    refine hK.out _ _ (claim_kind.S_below hHeld (p3_ (Below.refl _ _) _)) (fun hHeld => ?_)
    clear hK K
    (refine ordP HT_ 50 (v := ?_) (a' := ?_) rfl rfl (by kernel_rfl) (fun _ _ _ h => h) (Or.inl ⟨by kernel_rfl, ?_⟩) ?_ ?_; rotate_left; (intro w'; go_simp; with_reducible rfl); rotate_left; (simp only [Act.put, sa_, sb_, sc_, i64_w, i32_w]; rfl))
    refine ordE HT_ (by kernel_rfl) ?_
    clear hHeld HT_ HW_ BX BQ CH CB HS
    go_wp2
    refine wp_loop_rounds 9 ?_
    repeat any_goals (rw [rounds_succ]; go_wp2)
    all_goals (try go_ret)
    all_goals refine ⟨?_, by repeat (with_reducible first | exact HB.out | exact HB0.out | apply p3_ | apply p1_ | apply p2_)⟩
    all_goals first | (rw [← HR.out]; clear HR HB HB0; rfl) | (rw [← HR.out]; clear HR HB HB0; (simp_all; done)) | (rw [← HR.out]; clear HR HB HB0; simp_all <;> omega)
 | false =>
  cases lv with
  | true =>
   refine ordS (S := claim_kind.S gq gl false q1 q2 q3 q4 x0 x1 x2 x3 x4 x5) 51 (by kernel_rfl) rfl rfl (by exact claim_kind.S_below HS.out (by repeat (first | exact Below.refl _ _ | apply p2_))) ?_
   intro hHeld
   refine with_tabW claim_kind.tab2 claim_kind.bits2 (fun HT_ HW_ => ?_)
   have HB0 := HB
   replace HB := am_ (p2_ HB.out)
   replace BX := am_ (k3_ BX.out)
   replace BQ := am_ (k3_ BQ.out)
   (refine ordP HT_ 0 (v := ?_) (a' := ?_) rfl rfl (by kernel_rfl) (fun _ _ _ h => h) (Or.inl ⟨by kernel_rfl, ?_⟩) ?_ ?_; rotate_left; (intro w'; go_simp; with_reducible rfl); rotate_left; (simp only [Act.put, sa_, sb_, sc_, i64_w, i32_w]; rfl))
   (refine ordP HT_ 1 (v := ?_) (a' := ?_) rfl rfl (by kernel_rfl) (fun _ _ _ h => h) (Or.inl ⟨by kernel_rfl, ?_⟩) ?_ ?_; rotate_left; (intro w'; go_simp; with_reducible rfl); rotate_left; (simp only [Act.put, sa_, sb_, sc_, i64_w, i32_w]; rfl))
   (refine ordP HT_ 2 (v := ?_) (a' := ?_) rfl rfl (by kernel_rfl) (fun _ _ _ h => h) (Or.inl ⟨by kernel_rfl, ?_⟩) ?_ ?_; rotate_left; (intro w'; go_simp; with_reducible rfl); rotate_left; (simp only [Act.put, sa_, sb_, sc_, i64_w, i32_w]; rfl))
   (refine ordL HT_ HW_ 3 (v := ?_) (a' := ?_) rfl rfl (by kernel_rfl) (fun _ _ _ h => h) (Or.inl ⟨by kernel_rfl, ?_⟩) hHeld ?_ ?_; rotate_left; (rintro w' ⟨s0, s1, s2, s3, s4, s5, s6, s7, s8, s9, s10⟩; go_simp; with_reducible rfl); rotate_left; (simp only [Act.put, sa_, sb_, sc_, i64_w, i32_w]; rfl))
   (refine ordP HT_ 4 (v := ?_) (a' := ?_) rfl rfl (by kernel_rfl) (fun _ _ _ h => h) (Or.inl ⟨by kernel_rfl, ?_⟩) ?_ ?_; rotate_left; (intro w'; go_simp; with_reducible rfl); rotate_left; (simp only [Act.put, sa_, sb_, sc_, i64_w, i32_w]; rfl))
   (refine ordP HT_ 5 (v := undef) (a' := ?_) rfl rfl (by kernel_rfl) (fun _ _ _ h => h) (Or.inr ⟨by kernel_rfl, rfl⟩) ?_ ?_; rotate_left; (simp only [Act.put, sa_, sb_, sc_, i64_w, i32_w]; rfl))
   (refine ordP HT_ 6 (v := undef) (a' := ?_) rfl rfl (by kernel_rfl) (fun _ _ _ h => h) (Or.inr ⟨by kernel_rfl, rfl⟩) ?_ ?_; rotate_left; (simp only [Act.put, sa_, sb_, sc_, i64_w, i32_w]; rfl))
   (refine ordP HT_ 7 (v := undef) (a' := ?_) rfl rfl (by kernel_rfl) (fun _ _ _ h => h) (Or.inr ⟨by kernel_rfl, rfl⟩) ?_ ?_; rotate_left; (simp only [Act.put, sa_, sb_, sc_, i64_w, i32_w]; rfl))
   (refine ordP HT_ 8 (v := undef) (a' := ?_) rfl rfl (by kernel_rfl) (fun _ _ _ h => h) (Or.inr ⟨by kernel_rfl, rfl⟩) ?_ ?_; rotate_left; (simp only [Act.put, sa_, sb_, sc_, i64_w, i32_w]; rfl))
   (refine ordP HT_ 9 (v := undef) (a' := ?_) rfl rfl (by kernel_rfl) (fun _ _ _ h => h) (Or.inr ⟨by kernel_rfl, rfl⟩) ?_ ?_; rotate_left; (simp only [Act.put, sa_, sb_, sc_, i64_w, i32_w]; rfl))
   (refine ordP HT_ 10 (v := ?_) (a' := ?_) rfl rfl (by kernel_rfl) (fun _ _ _ h => h) (Or.inl ⟨by kernel_rfl, ?_⟩) ?_ ?_; rotate_left; (intro w'; go_simp; with_reducible rfl); rotate_left; (simp only [Act.put, sa_, sb_, sc_, i64_w, i32_w]; rfl))
   (refine ordP HT_ 11 (v := ?_) (a' := ?_) rfl rfl (by kernel_rfl) (fun _ _ _ h => h) (Or.inl ⟨by kernel_rfl, ?_⟩) ?_ ?_; rotate_left; (intro w'; go_simp; with_reducible rfl); rotate_left; (simp only [Act.put, sa_, sb_, sc_, i64_w, i32_w]; rfl))
   (refine ordP HT_ 12 (v := ?_) (a' := ?_) rfl rfl (by kernel_rfl) (fun _ _ _ h => h) (Or.inl ⟨by kernel_rfl, ?_⟩) ?_ ?_; rotate_left; (intro w'; go_simp; with_reducible rfl); rotate_left; (simp only [Act.put, sa_, sb_, sc_, i64_w, i32_w]; rfl))
   (refine ordP HT_ 13 (v := ?_) (a' := ?_) rfl rfl (by kernel_rfl) (fun _ _ _ h => h) (Or.inl ⟨by kernel_rfl, ?_⟩) ?_ ?_; rotate_left; (intro w'; go_simp; with_reducible rfl); rotate_left; (simp only [Act.put, sa_, sb_, sc_, i64_w, i32_w]; rfl))
   (refine ordP HT_ 14 (v := ?_) (a' := ?_) rfl rfl (by kernel_rfl) (fun _ _ _ h => h) (Or.inl ⟨by kernel_rfl, ?_⟩) ?_ ?_; rotate_left; (intro w'; go_simp; with_reducible rfl); rotate_left; (simp only [Act.put, sa_, sb_, sc_, i64_w, i32_w]; rfl))
   (refine ordL HT_ HW_ 15 (v := ?_) (a' := ?_) rfl rfl (by kernel_rfl) (fun _ _ _ h => h) (Or.inl ⟨by kernel_rfl, ?_⟩) hHeld ?_ ?_; rotate_left; (rintro w' ⟨s0, s1, s2, s3, s4, s5, s6, s7, s8, s9, s10⟩; go_simp; with_reducible rfl); rotate_left; (simp only [Act.put, sa_, sb_, sc_, i64_w, i32_w]; rfl))
   (refine ordP HT_ 16 (v := ?_) (a' := ?_) rfl rfl (by kernel_rfl) (fun _ _ _ h => h) (Or.inl ⟨by kernel_rfl, ?_⟩) ?_ ?_; rotate_left; (intro w'; go_simp; with_reducible rfl); rotate_left; (simp only [Act.put, sa_, sb_, sc_, i64_w, i32_w]; rfl))
   (refine ordP HT_ 17 (v := undef) (a' := ?_) rfl rfl (by kernel_rfl) (fun _ _ _ h => h) (Or.inr ⟨by kernel_rfl, rfl⟩) ?_ ?_; rotate_left; (simp only [Act.put, sa_, sb_, sc_, i64_w, i32_w]; rfl))
   (refine ordP HT_ 18 (v := ?_) (a' := ?_) rfl rfl (by kernel_rfl) (fun _ _ _ h => h) (Or.inl ⟨by kernel_rfl, ?_⟩) ?_ ?_; rotate_left; (intro w'; go_simp; with_reducible rfl); rotate_left; (simp only [Act.put, sa_, sb_, sc_, i64_w, i32_w]; rfl))
   (refine ordP HT_ 19 (v := ?_) (a' := ?_) rfl rfl (by kernel_rfl) (fun _ _ _ h => h) (Or.inl ⟨by kernel_rfl, ?_⟩) ?_ ?_; rotate_left; (intro w'; go_simp; with_reducible rfl); rotate_left; (simp only [Act.put, sa_, sb_, sc_, i64_w, i32_w]; rfl))
   (refine ordP HT_ 20 (v := undef) (a' := ?_) rfl rfl (by kernel_rfl) (fun _ _ _ h => h) (Or.inr ⟨by kernel_rfl, rfl⟩) ?_ ?_; rotate_left; (simp only [Act.put, sa_, sb_, sc_, i64_w, i32_w]; rfl))
   (refine ordP HT_ 21 (v := undef) (a' := ?_) rfl rfl (by kernel_rfl) (fun _ _ _ h => h) (Or.inr ⟨by kernel_rfl, rfl⟩) ?_ ?_; rotate_left; (simp only [Act.put, sa_, sb_, sc_, i64_w, i32_w]; rfl))
   (refine ordP HT_ 22 (v := undef) (a' := ?_) rfl rfl (by kernel_rfl) (fun _ _ _ h => h) (Or.inr ⟨by kernel_rfl, rfl⟩) ?_ ?_; rotate_left; (simp only [Act.put, sa_, sb_, sc_, i64_w, i32_w]; rfl))
   (refine ordP HT_ 23 (v := undef) (a' := ?_) rfl rfl (by kernel_rfl) (fun _ _ _ h => h) (Or.inr ⟨by kernel_rfl, rfl⟩) ?_ ?_; rotate_left; (simp only [Act.put, sa_, sb_, sc_, i64_w, i32_w]; rfl))
   (refine ordP HT_ 24 (v := ?_) (a' := ?_) rfl rfl (by kernel_rfl) (fun _ _ _ h => h) (Or.inl ⟨by kernel_rfl, ?_⟩) ?_ ?_; rotate_left; (intro w'; go_simp; with_reducible rfl); rotate_left; (simp only [Act.put, sa_, sb_, sc_, i64_w, i32_w]; rfl))
   (refine ordP HT_ 25 (v := ?_) (a' := ?_) rfl rfl (by kernel_rfl) (fun _ _ _ h => h) (Or.inl ⟨by kernel_rfl, ?_⟩) ?_ ?_; rotate_left; (intro w'; go_simp; with_reducible rfl); rotate_left; (simp only [Act.put, sa_, sb_, sc_, i64_w, i32_w]; rfl))
   (refine ordP HT_ 26 (v := ?_) (a' := ?_) rfl rfl (by kernel_rfl) (fun _ _ _ h => h) (Or.inl ⟨by kernel_rfl, ?_⟩) ?_ ?_; rotate_left; (intro w'; go_simp; with_reducible rfl); rotate_left; (simp only [Act.put, sa_, sb_, sc_, i64_w, i32_w]; rfl))
   (refine ordP HT_ 27 (v := ?_) (a' := ?_) rfl rfl (by kernel_rfl) (fun _ _ _ h => h) (Or.inl ⟨by kernel_rfl, ?_⟩) ?_ ?_; rotate_left; (intro w'; go_simp; with_reducible rfl); rotate_left; (simp only [Act.put, sa_, sb_, sc_, i64_w, i32_w]; rfl))
   (refine ordP HT_ 28 (v := ?_) (a' := ?_) rfl rfl (by kernel_rfl) (fun _ _ _ h => h) (Or.inl ⟨by kernel_rfl, ?_⟩) ?_ ?_; rotate_left; (intro w'; go_simp; with_reducible rfl); rotate_left; (simp only [Act.put, sa_, sb_, sc_, i64_w, i32_w]; rfl))
   (refine ordL HT_ HW_ 29 (v := ?_) (a' := ?_) rfl rfl (by kernel_rfl) (fun _ _ _ h => h) (Or.inl ⟨by kernel_rfl, ?_⟩) hHeld ?_ ?_; rotate_left; (rintro w' ⟨s0, s1, s2, s3, s4, s5, s6, s7, s8, s9, s10⟩; go_simp; with_reducible rfl); rotate_left; (simp only [Act.put, sa_, sb_, sc_, i64_w, i32_w]; rfl))
   (refine ordP HT_ 30 (v := ?_) (a' := ?_) rfl rfl (by kernel_rfl) (fun _ _ _ h => h) (Or.inl ⟨by kernel_rfl, ?_⟩) ?_ ?_; rotate_left; (intro w'; go_simp; with_reducible rfl); rotate_left; (simp only [Act.put, sa_, sb_, sc_, i64_w, i32_w]; rfl))
   (refine ordP HT_ 31 (v := ?_) (a' := ?_) rfl rfl (by kernel_rfl) (fun _ _ _ h => h) (Or.inl ⟨by kernel_rfl, ?_⟩) ?_ ?_; rotate_left; (intro w'; go_simp; with_reducible rfl); rotate_left; (simp only [Act.put, sa_, sb_, sc_, i64_w, i32_w]; rfl))
   (refine ordP HT_ 32 (v := ?_) (a' := ?_) rfl rfl (by kernel_rfl) (fun _ _ _ h => h) (Or.inl ⟨by kernel_rfl, ?_⟩) ?_ ?_; rotate_left; (intro w'; go_simp; with_reducible rfl); rotate_left; (simp only [Act.put, sa_, sb_, sc_, i64_w, i32_w]; rfl))
   (refine ordP HT_ 33 (v := ?_) (a' := ?_) rfl rfl (by kernel_rfl) (fun _ _ _ h => h) (Or.inl ⟨by kernel_rfl, ?_⟩) ?_ ?_; rotate_left; (intro w'; go_simp; with_reducible rfl); rotate_left; (simp only [Act.put, sa_, sb_, sc_, i64_w, i32_w]; rfl))
   (refine ordP HT_ 34 (v := ?_) (a' := ?_) rfl rfl (by kernel_rfl) (fun _ _ _ h => h) (Or.inl ⟨by kernel_rfl, ?_⟩) ?_ ?_; rotate_left; (intro w'; go_simp; with_reducible rfl); rotate_left; (simp only [Act.put, sa_, sb_, sc_, i64_w, i32_w]; rfl))
   (refine ordP HT_ 35 (v := ?_) (a' := ?_) rfl rfl (by kernel_rfl) (fun _ _ _ h => h) (Or.inl ⟨by kernel_rfl, ?_⟩) ?_ ?_; rotate_left; (intro w'; go_simp; with_reducible rfl); rotate_left; (simp only [Act.put, sa_, sb_, sc_, i64_w, i32_w]; rfl))
   (refine ordP HT_ 36 (v := ?_) (a' := ?_) rfl rfl (by kernel_rfl) (fun _ _ _ h => h) (Or.inl ⟨by kernel_rfl, ?_⟩) ?_ ?_; rotate_left; (intro w'; go_simp; with_reducible rfl); rotate_left; (simp only [Act.put, sa_, sb_, sc_, i64_w, i32_w]; rfl))
   (refine ordP HT_ 37 (v := ?_) (a' := ?_) rfl rfl (by kernel_rfl) (fun _ _ _ h => h) (Or.inl ⟨by kernel_rfl, ?_⟩) ?_ ?_; rotate_left; (intro w'; go_simp; with_reducible rfl); rotate_left; (simp only [Act.put, sa_, sb_, sc_, i64_w, i32_w]; rfl))
   (refine ordP HT_ 38 (v := ?_) (a' := ?_) rfl rfl (by kernel_rfl) (fun _ _ _ h => h) (Or.inl ⟨by kernel_rfl, ?_⟩) ?_ ?_; rotate_left; (intro w'; go_simp; with_reducible rfl); rotate_left; (simp only [Act.put, sa_, sb_, sc_, i64_w, i32_w]; rfl))
   (refine ordP HT_ 39 (v := ?_) (a' := ?_) rfl rfl (by kernel_rfl) (fun _ _ _ h => h) (Or.inl ⟨by kernel_rfl, ?_⟩) ?_ ?_; rotate_left; (intro w'; go_simp; with_reducible rfl); rotate_left; (simp only [Act.put, sa_, sb_, sc_, i64_w, i32_w]; rfl))
   (refine ordP HT_ 40 (v := ?_) (a' := ?_) rfl rfl (by kernel_rfl) (fun _ _ _ h => h) (Or.inl ⟨by kernel_rfl, ?_⟩) ?_ ?_; rotate_left; (intro w'; go_simp; with_reducible rfl); rotate_left; (simp only [Act.put, sa_, sb_, sc_, i64_w, i32_w]; rfl))
   (refine ordP HT_ 41 (v := ?_) (a' := ?_) rfl rfl (by kernel_rfl) (fun _ _ _ h => h) (Or.inl ⟨by kernel_rfl, ?_⟩) ?_ ?_; rotate_left; (intro w'; go_simp; with_reducible rfl); rotate_left; (simp only [Act.put, sa_, sb_, sc_, i64_w, i32_w]; rfl))
   (refine ordP HT_ 45 (v := ?_) (a' := ?_) rfl rfl (by kernel_rfl) (fun _ _ _ h => h) (Or.inl ⟨by kernel_rfl, ?_⟩) ?_ ?_; rotate_left; (intro w'; go_simp; with_reducible rfl); rotate_left; (simp only [Act.put, sa_, sb_, sc_, i64_w, i32_w]; rfl))
   (refine ordP HT_ 46 (v := ?_) (a' := ?_) rfl rfl (by kernel_rfl) (fun _ _ _ h => h) (Or.inl ⟨by kernel_rfl, ?_⟩) ?_ ?_; rotate_left; (intro w'; go_simp; with_reducible rfl); rotate_left; (simp only [Act.put, sa_, sb_, sc_, i64_w, i32_w]; rfl))
   (refine ordP HT_ 47 (v := ?_) (a' := ?_) rfl rfl (by kernel_rfl) (fun _ _ _ h => h) (Or.inl ⟨by kernel_rfl, ?_⟩) ?_ ?_; rotate_left; (intro w'; go_simp; with_reducible rfl); rotate_left; (simp only [Act.put, sa_, sb_, sc_, i64_w, i32_w]; rfl))
   (refine ordP HT_ 48 (v := ?_) (a' := ?_) rfl rfl (by kernel_rfl) (fun _ _ _ h => h) (Or.inl ⟨by kernel_rfl, ?_⟩) ?_ ?_; rotate_left; (intro w'; go_simp; with_reducible rfl); rotate_left; (simp only [Act.put, sa_, sb_, sc_, i64_w, i32_w]; rfl))
   refine ordG (fn := Tryd.f45) HT_ 42 rfl rfl (by kernel_rfl) rfl Tryd.func45 (by kernel_rfl) (by kernel_rfl) #[.pointer (some ⟨gl, 0, none⟩), .string client, .int .i64 now] (by kernel_rfl) (by (try simp only [List.map_toArray, List.map_cons, List.map_nil]); first | done | rfl) ?_
   with_reducible refine (CB.out _ BX.out).mono ?_
   rintro e wg ⟨rfl, hb2⟩
   replace HB := am_ (bt_ HB.out hb2)
   replace BX := am_ (kb_ BX.out hb2)
   replace BQ := am_ (kb_ BQ.out hb2)
   refine ⟨_, rfl, (claim_kind.S_below hHeld hb2), fun hHeld => ⟨?_, ?_, ?_⟩⟩
   rotate_left
   ·simp only [Act.put, sa_, sb_, sc_, i64_w, i32_w]
    rfl
   (refine ordP HT_ 43 (v := ?_) (a' := ?_) rfl rfl (by kernel_rfl) (fun _ _ _ h => h) (Or.inl ⟨by kernel_rfl, ?_⟩) ?_ ?_; rotate_left; (intro w'; go_simp; with_reducible rfl); rotate_left; (simp only [Act.put, sa_, sb_, sc_, i64_w, i32_w]; rfl))
   (refine ordP HT_ 44 (v := ?_) (a' := ?_) rfl rfl (by kernel_rfl) (fun _ _ _ h => h) (Or.inl ⟨by kernel_rfl, ?_⟩) ?_ ?_; rotate_left; (intro w'; go_simp; with_reducible rfl); rotate_left; (simp only [Act.put, sa_, sb_, sc_, i64_w, i32_w]; rfl))
   refine ordC HT_ 49 rfl rfl (by kernel_rfl) (fun K hK => ?_)
   rw [if_pos (by kernel_rfl)]
   go_simp
   refine hK.out _ _ (claim_kind.S_below hHeld (p3_ (Below.refl _ _) _)) (fun hHeld => ?_)
   clear hK K
   (refine ordP HT_ 50 (v := ?_) (a' := ?_) rfl rfl (by kernel_rfl) (fun _ _ _ h => h) (Or.inl ⟨by kernel_rfl, ?_⟩) ?_ ?_; rotate_left; (intro w'; go_simp; with_reducible rfl); rotate_left; (simp only [Act.put, sa_, sb_, sc_, i64_w, i32_w]; rfl))
   refine ordE HT_ (by kernel_rfl) ?_
   clear hHeld HT_ HW_ BX BQ CH CB HS
   go_wp2
   refine wp_loop_rounds 9 ?_
   repeat any_goals (rw [rounds_succ]; go_wp2)
   all_goals (try go_ret)
   all_goals refine ⟨?_, by repeat (with_reducible first | exact HB.out | exact HB0.out | apply p3_ | apply p1_ | apply p2_)⟩
   all_goals first | (rw [← HR.out]; clear HR HB HB0; rfl) | (rw [← HR.out]; clear HR HB HB0; (simp_all; done)) | (rw [← HR.out]; clear HR HB HB0; simp_all <;> omega)
  | false =>
   refine ordS (S := claim_kind.S gq gl false q1 q2 q3 q4 x0 x1 x2 x3 x4 x5) 51 (by kernel_rfl) rfl rfl (by exact claim_kind.S_below HS.out (by repeat (first | exact Below.refl _ _ | apply p2_))) ?_
   intro hHeld
   refine with_tabW claim_kind.tab2 claim_kind.bits2 (fun HT_ HW_ => ?_)
   have HB0 := HB
   replace HB := am_ (p2_ HB.out)
   replace BX := am_ (k3_ BX.out)
   replace BQ := am_ (k3_ BQ.out)
   (refine ordP HT_ 0 (v := ?_) (a' := ?_) rfl rfl (by kernel_rfl) (fun _ _ _ h => h) (Or.inl ⟨by kernel_rfl, ?_⟩) ?_ ?_; rotate_left; (intro w'; go_simp; with_reducible rfl); rotate_left; (simp only [Act.put, sa_, sb_, sc_, i64_w, i32_w]; rfl))
   (refine ordP HT_ 1 (v := ?_) (a' := ?_) rfl rfl (by kernel_rfl) (fun _ _ _ h => h) (Or.inl ⟨by kernel_rfl, ?_⟩) ?_ ?_; rotate_left; (intro w'; go_simp; with_reducible rfl); rotate_left; (simp only [Act.put, sa_, sb_, sc_, i64_w, i32_w]; rfl))
   (refine ordP HT_ 2 (v := ?_) (a' := ?_) rfl rfl (by kernel_rfl) (fun _ _ _ h => h) (Or.inl ⟨by kernel_rfl, ?_⟩) ?_ ?_; rotate_left; (intro w'; go_simp; with_reducible rfl); rotate_left; (simp only [Act.put, sa_, sb_, sc_, i64_w, i32_w]; rfl))
   (refine ordL HT_ HW_ 3 (v := ?_) (a' := ?_) rfl rfl (by kernel_rfl) (fun _ _ _ h => h) (Or.inl ⟨by kernel_rfl, ?_⟩) hHeld ?_ ?_; rotate_left; (rintro w' ⟨s0, s1, s2, s3, s4, s5, s6, s7, s8, s9, s10⟩; go_simp; with_reducible rfl); rotate_left; (simp only [Act.put, sa_, sb_, sc_, i64_w, i32_w]; rfl))
   (refine ordP HT_ 4 (v := ?_) (a' := ?_) rfl rfl (by kernel_rfl) (fun _ _ _ h => h) (Or.inl ⟨by kernel_rfl, ?_⟩) ?_ ?_; rotate_left; (intro w'; go_simp; with_reducible rfl); rotate_left; (simp only [Act.put, sa_, sb_, sc_, i64_w, i32_w]; rfl))
   (refine ordP HT_ 5 (v := undef) (a' := ?_) rfl rfl (by kernel_rfl) (fun _ _ _ h => h) (Or.inr ⟨by kernel_rfl, rfl⟩) ?_ ?_; rotate_left; (simp only [Act.put, sa_, sb_, sc_, i64_w, i32_w]; rfl))
   (refine ordP HT_ 6 (v := undef) (a' := ?_) rfl rfl (by kernel_rfl) (fun _ _ _ h => h) (Or.inr ⟨by kernel_rfl, rfl⟩) ?_ ?_; rotate_left; (simp only [Act.put, sa_, sb_, sc_, i64_w, i32_w]; rfl))
   (refine ordP HT_ 7 (v := undef) (a' := ?_) rfl rfl (by kernel_rfl) (fun _ _ _ h => h) (Or.inr ⟨by kernel_rfl, rfl⟩) ?_ ?_; rotate_left; (simp only [Act.put, sa_, sb_, sc_, i64_w, i32_w]; rfl))
   (refine ordP HT_ 8 (v := undef) (a' := ?_) rfl rfl (by kernel_rfl) (fun _ _ _ h => h) (Or.inr ⟨by kernel_rfl, rfl⟩) ?_ ?_; rotate_left; (simp only [Act.put, sa_, sb_, sc_, i64_w, i32_w]; rfl))
   (refine ordP HT_ 9 (v := undef) (a' := ?_) rfl rfl (by kernel_rfl) (fun _ _ _ h => h) (Or.inr ⟨by kernel_rfl, rfl⟩) ?_ ?_; rotate_left; (simp only [Act.put, sa_, sb_, sc_, i64_w, i32_w]; rfl))
   (refine ordP HT_ 10 (v := ?_) (a' := ?_) rfl rfl (by kernel_rfl) (fun _ _ _ h => h) (Or.inl ⟨by kernel_rfl, ?_⟩) ?_ ?_; rotate_left; (intro w'; go_simp; with_reducible rfl); rotate_left; (simp only [Act.put, sa_, sb_, sc_, i64_w, i32_w]; rfl))
   (refine ordP HT_ 11 (v := ?_) (a' := ?_) rfl rfl (by kernel_rfl) (fun _ _ _ h => h) (Or.inl ⟨by kernel_rfl, ?_⟩) ?_ ?_; rotate_left; (intro w'; go_simp; with_reducible rfl); rotate_left; (simp only [Act.put, sa_, sb_, sc_, i64_w, i32_w]; rfl))
   (refine ordP HT_ 12 (v := ?_) (a' := ?_) rfl rfl (by kernel_rfl) (fun _ _ _ h => h) (Or.inl ⟨by kernel_rfl, ?_⟩) ?_ ?_; rotate_left; (intro w'; go_simp; with_reducible rfl); rotate_left; (simp only [Act.put, sa_, sb_, sc_, i64_w, i32_w]; rfl))
   (refine ordP HT_ 13 (v := ?_) (a' := ?_) rfl rfl (by kernel_rfl) (fun _ _ _ h => h) (Or.inl ⟨by kernel_rfl, ?_⟩) ?_ ?_; rotate_left; (intro w'; go_simp; with_reducible rfl); rotate_left; (simp only [Act.put, sa_, sb_, sc_, i64_w, i32_w]; rfl))
   (refine ordP HT_ 14 (v := ?_) (a' := ?_) rfl rfl (by kernel_rfl) (fun _ _ _ h => h) (Or.inl ⟨by kernel_rfl, ?_⟩) ?_ ?_; rotate_left; (intro w'; go_simp; with_reducible rfl); rotate_left; (simp only [Act.put, sa_, sb_, sc_, i64_w, i32_w]; rfl))
   (refine ordL HT_ HW_ 15 (v := ?_) (a' := ?_) rfl rfl (by kernel_rfl) (fun _ _ _ h => h) (Or.inl ⟨by kernel_rfl, ?_⟩) hHeld ?_ ?_; rotate_left; (rintro w' ⟨s0, s1, s2, s3, s4, s5, s6, s7, s8, s9, s10⟩; go_simp; with_reducible rfl); rotate_left; (simp only [Act.put, sa_, sb_, sc_, i64_w, i32_w]; rfl))
   (refine ordP HT_ 16 (v := ?_) (a' := ?_) rfl rfl (by kernel_rfl) (fun _ _ _ h => h) (Or.inl ⟨by kernel_rfl, ?_⟩) ?_ ?_; rotate_left; (intro w'; go_simp; with_reducible rfl); rotate_left; (simp only [Act.put, sa_, sb_, sc_, i64_w, i32_w]; rfl))
   (refine ordP HT_ 17 (v := undef) (a' := ?_) rfl rfl (by kernel_rfl) (fun _ _ _ h => h) (Or.inr ⟨by kernel_rfl, rfl⟩) ?_ ?_; rotate_left; (simp only [Act.put, sa_, sb_, sc_, i64_w, i32_w]; rfl))
   (refine ordP HT_ 18 (v := ?_) (a' := ?_) rfl rfl (by kernel_rfl) (fun _ _ _ h => h) (Or.inl ⟨by kernel_rfl, ?_⟩) ?_ ?_; rotate_left; (intro w'; go_simp; with_reducible rfl); rotate_left; (simp only [Act.put, sa_, sb_, sc_, i64_w, i32_w]; rfl))
   (refine ordP HT_ 19 (v := ?_) (a' := ?_) rfl rfl (by kernel_rfl) (fun _ _ _ h => h) (Or.inl ⟨by kernel_rfl, ?_⟩) ?_ ?_; rotate_left; (intro w'; go_simp; with_reducible rfl); rotate_left; (simp only [Act.put, sa_, sb_, sc_, i64_w, i32_w]; rfl))
   (refine ordP HT_ 20 (v := undef) (a' := ?_) rfl rfl (by kernel_rfl) (fun _ _ _ h => h) (Or.inr ⟨by kernel_rfl, rfl⟩) ?_ ?_; rotate_left; (simp only [Act.put, sa_, sb_, sc_, i64_w, i32_w]; rfl))
   (refine ordP HT_ 21 (v := undef) (a' := ?_) rfl rfl (by kernel_rfl) (fun _ _ _ h => h) (Or.inr ⟨by kernel_rfl, rfl⟩) ?_ ?_; rotate_left; (simp only [Act.put, sa_, sb_, sc_, i64_w, i32_w]; rfl))
   (refine ordP HT_ 22 (v := undef) (a' := ?_) rfl rfl (by kernel_rfl) (fun _ _ _ h => h) (Or.inr ⟨by kernel_rfl, rfl⟩) ?_ ?_; rotate_left; (simp only [Act.put, sa_, sb_, sc_, i64_w, i32_w]; rfl))
   (refine ordP HT_ 23 (v := undef) (a' := ?_) rfl rfl (by kernel_rfl) (fun _ _ _ h => h) (Or.inr ⟨by kernel_rfl, rfl⟩) ?_ ?_; rotate_left; (simp only [Act.put, sa_, sb_, sc_, i64_w, i32_w]; rfl))
   (refine ordP HT_ 24 (v := ?_) (a' := ?_) rfl rfl (by kernel_rfl) (fun _ _ _ h => h) (Or.inl ⟨by kernel_rfl, ?_⟩) ?_ ?_; rotate_left; (intro w'; go_simp; with_reducible rfl); rotate_left; (simp only [Act.put, sa_, sb_, sc_, i64_w, i32_w]; rfl))
   (refine ordP HT_ 25 (v := ?_) (a' := ?_) rfl rfl (by kernel_rfl) (fun _ _ _ h => h) (Or.inl ⟨by kernel_rfl, ?_⟩) ?_ ?_; rotate_left; (intro w'; go_simp; with_reducible rfl); rotate_left; (simp only [Act.put, sa_, sb_, sc_, i64_w, i32_w]; rfl))
   (refine ordP HT_ 26 (v := ?_) (a' := ?_) rfl rfl (by kernel_rfl) (fun _ _ _ h => h) (Or.inl ⟨by kernel_rfl, ?_⟩) ?_ ?_; rotate_left; (intro w'; go_simp; with_reducible rfl); rotate_left; (simp only [Act.put, sa_, sb_, sc_, i64_w, i32_w]; rfl))
   (refine ordP HT_ 27 (v := ?_) (a' := ?_) rfl rfl (by kernel_rfl) (fun _ _ _ h => h) (Or.inl ⟨by kernel_rfl, ?_⟩) ?_ ?_; rotate_left; (intro w'; go_simp; with_reducible rfl); rotate_left; (simp only [Act.put, sa_, sb_, sc_, i64_w, i32_w]; rfl))
   (refine ordP HT_ 28 (v := ?_) (a' := ?_) rfl rfl (by kernel_rfl) (fun _ _ _ h => h) (Or.inl ⟨by kernel_rfl, ?_⟩) ?_ ?_; rotate_left; (intro w'; go_simp; with_reducible rfl); rotate_left; (simp only [Act.put, sa_, sb_, sc_, i64_w, i32_w]; rfl))
   (refine ordL HT_ HW_ 29 (v := ?_) (a' := ?_) rfl rfl (by kernel_rfl) (fun _ _ _ h => h) (Or.inl ⟨by kernel_rfl, ?_⟩) hHeld ?_ ?_; rotate_left; (rintro w' ⟨s0, s1, s2, s3, s4, s5, s6, s7, s8, s9, s10⟩; go_simp; with_reducible rfl); rotate_left; (simp only [Act.put, sa_, sb_, sc_, i64_w, i32_w]; rfl))
   (refine ordP HT_ 30 (v := ?_) (a' := ?_) rfl rfl (by kernel_rfl) (fun _ _ _ h => h) (Or.inl ⟨by kernel_rfl, ?_⟩) ?_ ?_; rotate_left; (intro w'; go_simp; with_reducible rfl); rotate_left; (simp only [Act.put, sa_, sb_, sc_, i64_w, i32_w]; rfl))
   (refine ordP HT_ 31 (v := ?_) (a' := ?_) rfl rfl (by kernel_rfl) (fun _ _ _ h => h) (Or.inl ⟨by kernel_rfl, ?_⟩) ?_ ?_; rotate_left; (intro w'; go_simp; with_reducible rfl); rotate_left; (simp only [Act.put, sa_, sb_, sc_, i64_w, i32_w]; rfl))
   (refine ordP HT_ 32 (v := ?_) (a' := ?_) rfl rfl (by kernel_rfl) (fun _ _ _ h => h) (Or.inl ⟨by kernel_rfl, ?_⟩) ?_ ?_; rotate_left; (intro w'; go_simp; with_reducible rfl); rotate_left; (simp only [Act.put, sa_, sb_, sc_, i64_w, i32_w]; rfl))
   (refine ordP HT_ 33 (v := ?_) (a' := ?_) rfl rfl (by kernel_rfl) (fun _ _ _ h => h) (Or.inl ⟨by kernel_rfl, ?_⟩) ?_ ?_; rotate_left; (intro w'; go_simp; with_reducible rfl); rotate_left; (simp only [Act.put, sa_, sb_, sc_, i64_w, i32_w]; rfl))
   (refine ordP HT_ 34 (v := ?_) (a' := ?_) rfl rfl (by kernel_rfl) (fun _ _ _ h => h) (Or.inl ⟨by kernel_rfl, ?_⟩) ?_ ?_; rotate_left; (intro w'; go_simp; with_reducible rfl); rotate_left; (simp only [Act.put, sa_, sb_, sc_, i64_w, i32_w]; rfl))
   (refine ordP HT_ 35 (v := ?_) (a' := ?_) rfl rfl (by kernel_rfl) (fun _ _ _ h => h) (Or.inl ⟨by kernel_rfl, ?_⟩) ?_ ?_; rotate_left; (intro w'; go_simp; with_reducible rfl); rotate_left; (simp only [Act.put, sa_, sb_, sc_, i64_w, i32_w]; rfl))
   (refine ordP HT_ 36 (v := ?_) (a' := ?_) rfl rfl (by kernel_rfl) (fun _ _ _ h => h) (Or.inl ⟨by kernel_rfl, ?_⟩) ?_ ?_; rotate_left; (intro w'; go_simp; with_reducible rfl); rotate_left; (simp only [Act.put, sa_, sb_, sc_, i64_w, i32_w]; rfl))
   (refine ordP HT_ 37 (v := ?_) (a' := ?_) rfl rfl (by kernel_rfl) (fun _ _ _ h => h) (Or.inl ⟨by kernel_rfl, ?_⟩) ?_ ?_; rotate_left; (intro w'; go_simp; with_reducible rfl); rotate_left; (simp only [Act.put, sa_, sb_, sc_, i64_w, i32_w]; rfl))
   (refine ordP HT_ 38 (v := ?_) (a' := ?_) rfl rfl (by kernel_rfl) (fun _ _ _ h => h) (Or.inl ⟨by kernel_rfl, ?_⟩) ?_ ?_; rotate_left; (intro w'; go_simp; with_reducible rfl); rotate_left; (simp only [Act.put, sa_, sb_, sc_, i64_w, i32_w]; rfl))
   (refine ordP HT_ 39 (v := undef) (a' := ?_) rfl rfl (by kernel_rfl) (fun _ _ _ h => h) (Or.inr ⟨by kernel_rfl, rfl⟩) ?_ ?_; rotate_left; (simp only [Act.put, sa_, sb_, sc_, i64_w, i32_w]; rfl))
   (refine ordP HT_ 40 (v := undef) (a' := ?_) rfl rfl (by kernel_rfl) (fun _ _ _ h => h) (Or.inr ⟨by kernel_rfl, rfl⟩) ?_ ?_; rotate_left; (simp only [Act.put, sa_, sb_, sc_, i64_w, i32_w]; rfl))
   (refine ordP HT_ 41 (v := undef) (a' := ?_) rfl rfl (by kernel_rfl) (fun _ _ _ h => h) (Or.inr ⟨by kernel_rfl, rfl⟩) ?_ ?_; rotate_left; (simp only [Act.put, sa_, sb_, sc_, i64_w, i32_w]; rfl))
   (refine ordP HT_ 42 (v := undef) (a' := ?_) rfl rfl (by kernel_rfl) (fun _ _ _ h => h) (Or.inr ⟨by kernel_rfl, rfl⟩) ?_ ?_; rotate_left; (simp only [Act.put, sa_, sb_, sc_, i64_w, i32_w]; rfl))
   (refine ordP HT_ 43 (v := ?_) (a' := ?_) rfl rfl (by kernel_rfl) (fun _ _ _ h => h) (Or.inl ⟨by kernel_rfl, ?_⟩) ?_ ?_; rotate_left; (intro w'; go_simp; with_reducible rfl); rotate_left; (simp only [Act.put, sa_, sb_, sc_, i64_w, i32_w]; rfl))
   (refine ordP HT_ 44 (v := ?_) (a' := ?_) rfl rfl (by kernel_rfl) (fun _ _ _ h => h) (Or.inl ⟨by kernel_rfl, ?_⟩) ?_ ?_; rotate_left; (intro w'; go_simp; with_reducible rfl); rotate_left; (simp only [Act.put, sa_, sb_, sc_, i64_w, i32_w]; rfl))
   (refine ordP HT_ 45 (v := ?_) (a' := ?_) rfl rfl (by kernel_rfl) (fun _ _ _ h => h) (Or.inl ⟨by kernel_rfl, ?_⟩) ?_ ?_; rotate_left; (intro w'; go_simp; with_reducible rfl); rotate_left; (simp only [Act.put, sa_, sb_, sc_, i64_w, i32_w]; rfl))
   (refine ordP HT_ 46 (v := ?_) (a' := ?_) rfl rfl (by kernel_rfl) (fun _ _ _ h => h) (Or.inl ⟨by kernel_rfl, ?_⟩) ?_ ?_; rotate_left; (intro w'; go_simp; with_reducible rfl); rotate_left; (simp only [Act.put, sa_, sb_, sc_, i64_w, i32_w]; rfl))
   (refine ordP HT_ 47 (v := ?_) (a' := ?_) rfl rfl (by kernel_rfl) (fun _ _ _ h => h) (Or.inl ⟨by kernel_rfl, ?_⟩) ?_ ?_; rotate_left; (intro w'; go_simp; with_reducible rfl); rotate_left; (simp only [Act.put, sa_, sb_, sc_, i64_w, i32_w]; rfl))
   (refine ordP HT_ 48 (v := ?_) (a' := ?_) rfl rfl (by kernel_rfl) (fun _ _ _ h => h) (Or.inl ⟨by kernel_rfl, ?_⟩) ?_ ?_; rotate_left; (intro w'; go_simp; with_reducible rfl); rotate_left; (simp only [Act.put, sa_, sb_, sc_, i64_w, i32_w]; rfl))
   refine ordC HT_ 49 rfl rfl (by kernel_rfl) (fun K hK => ?_)
   rw [if_pos (by kernel_rfl)]
   go_simp
   refine hK.out _ _ (claim_kind.S_below hHeld (p3_ (Below.refl _ _) _)) (fun hHeld => ?_)
   clear hK K
   (refine ordP HT_ 50 (v := ?_) (a' := ?_) rfl rfl (by kernel_rfl) (fun _ _ _ h => h) (Or.inl ⟨by kernel_rfl, ?_⟩) ?_ ?_; rotate_left; (intro w'; go_simp; with_reducible rfl); rotate_left; (simp only [Act.put, sa_, sb_, sc_, i64_w, i32_w]; rfl))
   refine ordE HT_ (by kernel_rfl) ?_
   clear hHeld HT_ HW_ BX BQ CH CB HS
   go_wp2
   refine wp_loop_rounds 9 ?_
   repeat any_goals (rw [rounds_succ]; go_wp2)
   all_goals (try go_ret)
   all_goals refine ⟨?_, by repeat (with_reducible first | exact HB.out | exact HB0.out | apply p3_ | apply p1_ | apply p2_)⟩
   all_goals first | (rw [← HR.out]; clear HR HB HB0; rfl) | (rw [← HR.out]; clear HR HB HB0; (simp_all; done)) | (rw [← HR.out]; clear HR HB HB0; simp_all <;> omega)

/-! ### conf_find: function 66 -/
-- BY HAND
-- 37
set_option maxHeartbeats 8000000 in
set_option maxRecDepth 100000 in
theorem conf_find.calls (p : S72 → Bool) (G : Nat) (lb : Array Value) (g : Nat) (a0_0 : Int) (a0_1 : Int) (A0_2 : Option Addr) (c0_2 : Nat) (l0_2 : List Int) (A0_3 : Option Addr) (c0_3 : Nat) (l0_3 : List S72) (a0_4 : Int) (a0_5 : ByteArray) (A0_6 : Option Addr) (c0_6 : Nat) (l0_6 : List S74) (b : Bool) (w : World)
  (bk : w.heap[g]? = some (.cells #[.int .i64 a0_0, .int .i64 a0_1, .slice A0_2 l0_2.length c0_2, .slice A0_3 l0_3.length c0_3, .int .i64 a0_4, .string a0_5, .slice A0_6 l0_6.length c0_6] 26))
  (hr0_2 : Kd.C (Kd.int .i64) w A0_2 l0_2.length l0_2) (hc0_2 : l0_2.length ≤ c0_2) (hr0_3 : Kd.C k72 w A0_3 l0_3.length l0_3) (hc0_3 : l0_3.length ≤ c0_3) (hr0_6 : Kd.C k74 w A0_6 l0_6.length l0_6) (hc0_6 : l0_6.length ≤ c0_6) (h : conf_May.f a0_0 a0_1 l0_2 l0_3 a0_4 a0_5 l0_6 = some b)
  (hs : l0_3.length ≤ 5864062014805)
  (eg : ∀ args w, (callFunc G args).run Tryd.prog w = .ok (.enter G args) w)
  (hp : ∀ (W : World) (ad : Addr) (x : S72), Below w.heap.size w W → W.cell? ad = some (.string x.f0) → W.cell? ⟨ad.block, ad.off + 1, none⟩ = some (.int .i64 x.f1) → Calls Tryd.prog G (#[.pointer (some ad)] ++ lb) W fun e w' => e = .returned (.bool (p x)) ∧ Below W.heap.size W w') :
  Calls Tryd.prog 66 #[.pointer (some ⟨g, 0, none⟩), .func (.func G) #[] lb] w fun e w' => e = .returned (.tuple #[(.agg #[.string (foundN (findS p b l0_3)), .int .i64 (foundH (findS p b l0_3))]), .bool (foundIs (findS p b l0_3))]) ∧ Below w.heap.size w w' := by
 have HR3 := am_ hr0_3
 have BG := am_ bk
 have HP := am_ hp
 have CM := am_ (fun W (hb : Below w.heap.size w W) => conf_May.calls a0_0 a0_1 A0_2 c0_2 l0_2 A0_3 c0_3 l0_3 a0_4 a0_5 A0_6 c0_6 l0_6 b W (c4_ hr0_2 hb) hc0_2 (c4_ hr0_3 hb) hc0_3 (c4_ hr0_6 hb) hc0_6 h)
 obtain ⟨R, hR⟩ : ∃ R, findS p b l0_3 = R := ⟨_, rfl⟩
 have HF := am_ hR
 rw [hR]
 have hg := blk_lt bk
 have hgne : g ≠ w.heap.size := by omega
 have hz3 : (w.alloc (.cells #[.string (⟨#[]⟩ : ByteArray), .int .i64 0] 72)).cell? ⟨g, 3, none⟩ = some (.slice A0_3 l0_3.length c0_3) := (bc_ (k1_ bk _) 3).trans rfl
 clear hr0_2 hr0_3 hr0_6 hc0_2 hc0_3 hc0_6 h hp bk hR
 go_enter Tryd.func66, Tryd.ntmps66
 go_wp2
 clear hz3
 go_loopg [12] l0_3.length (fun d v9 wr => ∃ (i : Int), 0 ≤ i ∧ i.toNat + d = l0_3.length ∧ v9 = .int .i64 i ∧ Aside0 (wr.heap[w.heap.size]? = some (.cells #[.string (⟨#[]⟩ : ByteArray), .int .i64 0] 72)) ∧ Aside0 (Below w.heap.size w wr) ∧ Aside0 (findS p b l0_3 = findS p b (l0_3.drop i.toNat)))
 case atStart => exact ⟨0, by omega, by simp, rfl, ⟨blk_new _ _⟩, ⟨p3_ (Below.refl _ _) _⟩, ⟨rfl⟩⟩
 case round =>
  obtain ⟨i, hi0, hd, rfl, BZ, HB, HS⟩ := hrel
  have hge : w.heap.size ≤ w.heap.size := Nat.le_refl _
  by_cases hlt : i < (l0_3.length : Int)
  ·obtain ⟨ad, e1, hx0, hx1⟩ := at_T72 HR3.out i hi0 hlt
   cases e1
   replace hx0 := (HB.out.cell (wb_ w _ hx0)).trans hx0
   replace hx1 := (HB.out.cell (wb_ w _ hx1)).trans hx1
   have HD := HS.out
   have hd1 := (dropRes l0_3 i hi0 hlt).1
   rw [hd1] at HD
   clear HS hd1
   generalize rd_T72 l0_3 i = x at hx0 hx1 HD
   have hcall := HP.out wr (ad.add (i.toNat * 2)) x HB.out hx0 hx1
   have HG := am_ (kb_ BG.out HB.out)
   have v0 := bc_ HG.out 0
   have v1 := bc_ HG.out 1
   have v2 := bc_ HG.out 2
   have v3 := bc_ HG.out 3
   have v4 := bc_ HG.out 4
   have v5 := bc_ HG.out 5
   have v6 := bc_ HG.out 6
   obtain ⟨q, hq⟩ : ∃ q, p x = q := ⟨_, rfl⟩
   rw [hq] at hcall
   have HQ : q = true → b = true → R = some x := fun e1 e2 => by
    rw [← HF.out, HD]
    unfold findS
    rw [if_pos e2, List.find?_cons, hq, e1]
   have HN : (q && b) = false → findS p b l0_3 = findS p b (l0_3.drop (i.toNat + 1)) := fun e => by
    rw [HD]
    unfold findS
    cases b with
    | false => rfl
    | true =>
     rw [Bool.and_true] at e
     rw [if_pos rfl, if_pos rfl, List.find?_cons, hq, e]
   clear HD hq HP
   cases q with
   | true =>
    cases b with
    | true =>
     have HQ2 := am_ (HQ rfl rfl)
     clear HQ HN HF
     go_wp2_with fail
     refine hcall.mono ?_
     rintro e w' ⟨rfl, hb'⟩
     clear hcall
     replace hx0 := (hb'.cell (wb_ _ _ hx0)).trans hx0
     replace hx1 := (hb'.cell (wb_ _ _ hx1)).trans hx1
     replace BZ := am_ (kb_ BZ.out hb')
     replace HG := am_ (kb_ HG.out hb')
     replace v0 := bc_ HG.out 0
     replace v1 := bc_ HG.out 1
     replace v2 := bc_ HG.out 2
     replace v3 := bc_ HG.out 3
     replace v4 := bc_ HG.out 4
     replace v5 := bc_ HG.out 5
     replace v6 := bc_ HG.out 6
     replace HB := am_ (bt_ HB.out hb')
     clear hb'
     go_wp2_with fail
     (with_reducible refine (CM.out _ HB.out).mono ?_)
     rintro e w'' ⟨rfl, hb'⟩
     replace hx0 := (hb'.cell (wb_ _ _ hx0)).trans hx0
     replace hx1 := (hb'.cell (wb_ _ _ hx1)).trans hx1
     replace BZ := am_ (kb_ BZ.out hb')
     replace HG := am_ (kb_ HG.out hb')
     replace v0 := bc_ HG.out 0
     replace v1 := bc_ HG.out 1
     replace v2 := bc_ HG.out 2
     replace v3 := bc_ HG.out 3
     replace v4 := bc_ HG.out 4
     replace v5 := bc_ HG.out 5
     replace v6 := bc_ HG.out 6
     have z0 := bf_ BZ.out 0
     have z1 := bf_ BZ.out 1
     have y0 := bc_ BZ.out 0
     have y1 := bc_ BZ.out 1
     replace HB := am_ (bt_ HB.out hb')
     clear hb'
     go_wp2
     refine bodyPost_ret (results_ct rfl _ _ w.heap.size 72 #[.string x.f0, .int .i64 x.f1] (0, 0) _ rfl (blk_set (blk_set BZ.out 0 (.string x.f0)) 1 (.int .i64 x.f1)) Tryd.underlying72 rfl (by kernel_rfl)) rfl ?_
     rw [HQ2.out]
     exact ⟨rfl, (HB.out.setCell hge _).setCell hge _⟩
    | false =>
     replace HN := am_ (HN rfl)
     clear HQ
     go_wp2_with fail
     refine hcall.mono ?_
     rintro e w' ⟨rfl, hb'⟩
     clear hcall
     replace hx0 := (hb'.cell (wb_ _ _ hx0)).trans hx0
     replace hx1 := (hb'.cell (wb_ _ _ hx1)).trans hx1
     replace BZ := am_ (kb_ BZ.out hb')
     replace HG := am_ (kb_ HG.out hb')
     replace v0 := bc_ HG.out 0
     replace v1 := bc_ HG.out 1
     replace v2 := bc_ HG.out 2
     replace v3 := bc_ HG.out 3
     replace v4 := bc_ HG.out 4
     replace v5 := bc_ HG.out 5
     replace v6 := bc_ HG.out 6
     replace HB := am_ (bt_ HB.out hb')
     clear hb'
     go_wp2_with fail
     (with_reducible refine (CM.out _ HB.out).mono ?_)
     rintro e w'' ⟨rfl, hb'⟩
     replace hx0 := (hb'.cell (wb_ _ _ hx0)).trans hx0
     replace hx1 := (hb'.cell (wb_ _ _ hx1)).trans hx1
     replace BZ := am_ (kb_ BZ.out hb')
     replace HG := am_ (kb_ HG.out hb')
     replace v0 := bc_ HG.out 0
     replace v1 := bc_ HG.out 1
     replace v2 := bc_ HG.out 2
     replace v3 := bc_ HG.out 3
     replace v4 := bc_ HG.out 4
     replace v5 := bc_ HG.out 5
     replace v6 := bc_ HG.out 6
     have z0 := bf_ BZ.out 0
     have z1 := bf_ BZ.out 1
     have y0 := bc_ BZ.out 0
     have y1 := bc_ BZ.out 1
     replace HB := am_ (bt_ HB.out hb')
     clear hb'
     go_wp2
     go_roundg (l0_3.length - (i.toNat + 1))
     case measure => first | omega | (simp; omega)
     case rel =>
      have e2 : (i + 1).toNat = i.toNat + 1 := by omega
      exact ⟨i + 1, by omega, by omega, by go_num, ⟨BZ.out⟩, ⟨HB.out⟩, ⟨by rw [e2]; exact HN.out⟩⟩
   | false =>
    replace HN := am_ (HN rfl)
    clear HQ
    go_wp2_with fail
    refine hcall.mono ?_
    rintro e w' ⟨rfl, hb'⟩
    clear hcall
    replace hx0 := (hb'.cell (wb_ _ _ hx0)).trans hx0
    replace hx1 := (hb'.cell (wb_ _ _ hx1)).trans hx1
    replace BZ := am_ (kb_ BZ.out hb')
    replace HG := am_ (kb_ HG.out hb')
    replace v0 := bc_ HG.out 0
    replace v1 := bc_ HG.out 1
    replace v2 := bc_ HG.out 2
    replace v3 := bc_ HG.out 3
    replace v4 := bc_ HG.out 4
    replace v5 := bc_ HG.out 5
    replace v6 := bc_ HG.out 6
    replace HB := am_ (bt_ HB.out hb')
    clear hb'
    go_wp2
    go_roundg (l0_3.length - (i.toNat + 1))
    case measure => first | omega | (simp; omega)
    case rel =>
     have e2 : (i + 1).toNat = i.toNat + 1 := by omega
     exact ⟨i + 1, by omega, by omega, by go_num, ⟨BZ.out⟩, ⟨HB.out⟩, ⟨by rw [e2]; exact HN.out⟩⟩
  ·have e3 : l0_3.drop i.toNat = [] := List.drop_eq_nil_of_le (by omega)
   have HE : R = none := by
    rw [← HF.out, HS.out, e3]
    unfold findS
    split <;> rfl
   replace HE := am_ HE
   clear HS HF
   have z0 := bf_ BZ.out 0
   have z1 := bf_ BZ.out 1
   have y0 := bc_ BZ.out 0
   have y1 := bc_ BZ.out 1
   go_wp2
   refine bodyPost_ret (results_ct rfl _ _ w.heap.size 72 #[.string (⟨#[]⟩ : ByteArray), .int .i64 0] (0, 0) _ rfl (blk_set (blk_set BZ.out 0 (.string (⟨#[]⟩ : ByteArray))) 1 (.int .i64 0)) Tryd.underlying72 rfl (by kernel_rfl)) rfl ?_
   rw [HE.out]
   exact ⟨rfl, (HB.out.setCell hge _).setCell hge _⟩

/-! ### conf_Owner: function 46 -/
-- BY HAND
-- 37 66
def conf_Owner.f (a0_0 : Int) (a0_1 : Int) (l0_2 : List Int) (l0_3 : List S72) (a0_4 : Int) (a0_5 : ByteArray) (l0_6 : List S74) (a1 : Int) : Option (ByteArray × Bool) := if confFit l0_2 l0_3 a0_5 l0_6 then some (foundN (ownerR a0_0 a0_1 l0_2 l0_3 a0_4 a0_5 l0_6 a1), foundIs (ownerR a0_0 a0_1 l0_2 l0_3 a0_4 a0_5 l0_6 a1)) else none
set_option maxHeartbeats 8000000 in
set_option maxRecDepth 100000 in
theorem conf_Owner.is_ (a1 : Int) (B1 : Nat) (ad : Addr) (x : S72) (w : World) (hc : w.cell? ⟨B1, 0, none⟩ = some (.int .i64 a1)) (h0 : w.cell? ad = some (.string x.f0)) (h1 : w.cell? ⟨ad.block, ad.off + 1, none⟩ = some (.int .i64 x.f1)) :
  Calls Tryd.prog 67 #[.pointer (some ad), .pointer (some ⟨B1, 0, none⟩)] w fun e w' => e = .returned (.bool (x.f1 == a1)) ∧ Below w.heap.size w w' := by
 go_enter Tryd.func67, Tryd.ntmps67
 go_wp2
 go_quiet (fail)
 go_wp2
 go_ret
 exact ⟨rfl, p1_ (Below.refl _ _) _⟩
set_option maxHeartbeats 8000000 in
set_option maxRecDepth 100000 in
theorem conf_Owner.calls (a0_0 : Int) (a0_1 : Int) (A0_2 : Option Addr) (c0_2 : Nat) (l0_2 : List Int) (A0_3 : Option Addr) (c0_3 : Nat) (l0_3 : List S72) (a0_4 : Int) (a0_5 : ByteArray) (A0_6 : Option Addr) (c0_6 : Nat) (l0_6 : List S74) (a1 : Int) (r1 : ByteArray) (r2 : Bool) (w : World) (hr0_2 : Kd.C (Kd.int .i64) w A0_2 l0_2.length l0_2) (hc0_2 : l0_2.length ≤ c0_2) (hr0_3 : Kd.C k72 w A0_3 l0_3.length l0_3) (hc0_3 : l0_3.length ≤ c0_3) (hr0_6 : Kd.C k74 w A0_6 l0_6.length l0_6) (hc0_6 : l0_6.length ≤ c0_6) (h : conf_Owner.f a0_0 a0_1 l0_2 l0_3 a0_4 a0_5 l0_6 a1 = some (r1, r2)) :
  Calls Tryd.prog 46 #[.agg #[.int .i64 a0_0, .int .i64 a0_1, .slice A0_2 l0_2.length c0_2, .slice A0_3 l0_3.length c0_3, .int .i64 a0_4, .string a0_5, .slice A0_6 l0_6.length c0_6], .int .i64 a1] w fun e w' => e = .returned (.tuple #[.string r1, .bool r2]) ∧ Below w.heap.size w w' := by
 unfold conf_Owner.f at h
 by_cases hs : confFit l0_2 l0_3 a0_5 l0_6
 rotate_left
 ·rw [if_neg hs] at h
  cases h
 rw [if_pos hs] at h
 simp only [Option.some.injEq, Prod.mk.injEq] at h
 obtain ⟨rfl, rfl⟩ := h
 have hm : conf_May.f a0_0 a0_1 l0_2 l0_3 a0_4 a0_5 l0_6 = some (confB a0_0 a0_1 l0_2 l0_3 a0_4 a0_5 l0_6) := by
  unfold conf_May.f
  rw [if_pos hs]
 have eg : ∀ args w, (callFunc 67 args).run Tryd.prog w = .ok (.enter 67 args) w := fun args w => enters_ Tryd.func67 (by kernel_rfl) rfl args w
 obtain ⟨W2, hW2⟩ : ∃ W2, (w.alloc (.cells #[.int .i64 a0_0, .int .i64 a0_1, .slice A0_2 l0_2.length c0_2, .slice A0_3 l0_3.length c0_3, .int .i64 a0_4, .string a0_5, .slice A0_6 l0_6.length c0_6] 26)).alloc (.cells #[.int .i64 a1] 3) = W2 := ⟨_, rfl⟩
 have HB := am_ (show Below w.heap.size w W2 by rw [← hW2]; repeat (first | exact Below.refl _ _ | apply p3_))
 have e1 : W2.heap[w.heap.size]? = some (.cells #[.int .i64 a0_0, .int .i64 a0_1, .slice A0_2 l0_2.length c0_2, .slice A0_3 l0_3.length c0_3, .int .i64 a0_4, .string a0_5, .slice A0_6 l0_6.length c0_6] 26) := by
  rw [← hW2]
  exact k1_ (blk_new w _) _
 have e2 : W2.heap[w.heap.size + 1]? = some (.cells #[.int .i64 a1] 3) := by
  have := blk_new (w.alloc (.cells #[.int .i64 a0_0, .int .i64 a0_1, .slice A0_2 l0_2.length c0_2, .slice A0_3 l0_3.length c0_3, .int .i64 a0_4, .string a0_5, .slice A0_6 l0_6.length c0_6] 26)) (.cells #[.int .i64 a1] 3)
  rw [hW2] at this
  simpa using this
 have HF := conf_find.calls (fun x => x.f1 == a1) 67 #[.pointer (some ⟨w.heap.size + 1, 0, none⟩)] w.heap.size a0_0 a0_1 A0_2 c0_2 l0_2 A0_3 c0_3 l0_3 a0_4 a0_5 A0_6 c0_6 l0_6 _ W2 e1 (c4_ hr0_2 HB.out) hc0_2 (c4_ hr0_3 HB.out) hc0_3 (c4_ hr0_6 HB.out) hc0_6 hm hs.2.1 eg (fun W ad x hb h0 h1 => conf_Owner.is_ a1 (w.heap.size + 1) ad x W ((bc_ (kb_ e2 hb) 0).trans rfl) h0 h1)
 rw [show findS (fun x => x.f1 == a1) (confB a0_0 a0_1 l0_2 l0_3 a0_4 a0_5 l0_6) l0_3 = ownerR a0_0 a0_1 l0_2 l0_3 a0_4 a0_5 l0_6 a1 from rfl] at HF
 obtain ⟨vN, hN⟩ : ∃ v, foundN (ownerR a0_0 a0_1 l0_2 l0_3 a0_4 a0_5 l0_6 a1) = v := ⟨_, rfl⟩
 obtain ⟨vH, hH⟩ : ∃ v, foundH (ownerR a0_0 a0_1 l0_2 l0_3 a0_4 a0_5 l0_6 a1) = v := ⟨_, rfl⟩
 obtain ⟨vI, hI⟩ : ∃ v, foundIs (ownerR a0_0 a0_1 l0_2 l0_3 a0_4 a0_5 l0_6 a1) = v := ⟨_, rfl⟩
 rw [hN, hH, hI] at HF
 rw [hN, hI]
 replace HF := am_ HF
 clear hN hH hI hm hs e1 e2 eg hr0_2 hr0_3 hr0_6 hc0_2 hc0_3 hc0_6
 go_enter Tryd.func46, Tryd.ntmps46
 go_wp2_with (first | (go_at_call 66; (try rw [hW2]); (with_reducible refine HF.out.mono ?_); rintro e w4 ⟨rfl, hb4⟩; replace HB := am_ (bt_ HB.out hb4); clear hb4))
 go_ret2
 exact ⟨rfl, by repeat (with_reducible first | exact HB.out | apply p3_ | apply p1_ | apply p2_ | refine Below.setCell ?_ (by first | exact HB.out.size | (have := HB.out.size; simp; omega)) _)⟩

/-! ### conf_Usable: function 47 -/
-- BY HAND
def conf_Usable.f (a0_0 : Int) (a0_1 : Int) (l0_2 : List Int) (l0_3 : List S72) (a0_4 : Int) (a0_5 : ByteArray) (l0_6 : List S74) (a1 : Int) : Option Bool := if confFit l0_2 l0_3 a0_5 l0_6 then some (usableB a0_0 a0_1 l0_2 l0_3 a0_4 a0_5 l0_6 a1) else none
set_option maxHeartbeats 8000000 in
set_option maxRecDepth 100000 in
theorem conf_Usable.calls (a0_0 : Int) (a0_1 : Int) (A0_2 : Option Addr) (c0_2 : Nat) (l0_2 : List Int) (A0_3 : Option Addr) (c0_3 : Nat) (l0_3 : List S72) (a0_4 : Int) (a0_5 : ByteArray) (A0_6 : Option Addr) (c0_6 : Nat) (l0_6 : List S74) (a1 : Int) (r : Bool) (w : World) (hr0_2 : Kd.C (Kd.int .i64) w A0_2 l0_2.length l0_2) (hc0_2 : l0_2.length ≤ c0_2) (hr0_3 : Kd.C k72 w A0_3 l0_3.length l0_3) (hc0_3 : l0_3.length ≤ c0_3) (hr0_6 : Kd.C k74 w A0_6 l0_6.length l0_6) (hc0_6 : l0_6.length ≤ c0_6) (h : conf_Usable.f a0_0 a0_1 l0_2 l0_3 a0_4 a0_5 l0_6 a1 = some r) :
  Calls Tryd.prog 47 #[.agg #[.int .i64 a0_0, .int .i64 a0_1, .slice A0_2 l0_2.length c0_2, .slice A0_3 l0_3.length c0_3, .int .i64 a0_4, .string a0_5, .slice A0_6 l0_6.length c0_6], .int .i64 a1] w fun e w' => e = .returned (.bool r) ∧ Below w.heap.size w w' := by
 unfold conf_Usable.f at h
 by_cases hs : confFit l0_2 l0_3 a0_5 l0_6
 rotate_left
 ·rw [if_neg hs] at h
  cases h
 rw [if_pos hs] at h
 have hm : conf_May.f a0_0 a0_1 l0_2 l0_3 a0_4 a0_5 l0_6 = some (confB a0_0 a0_1 l0_2 l0_3 a0_4 a0_5 l0_6) := by
  unfold conf_May.f
  rw [if_pos hs]
 have HR : (decide (a1 ∉ l0_2) && (confB a0_0 a0_1 l0_2 l0_3 a0_4 a0_5 l0_6 && decide (a0_0 ≤ a1 ∧ a1 ≤ a0_1))) = r := e5_ h
 obtain ⟨b, hb⟩ : ∃ b, confB a0_0 a0_1 l0_2 l0_3 a0_4 a0_5 l0_6 = b := ⟨_, rfl⟩
 rw [hb] at HR hm
 replace HR := am_ HR
 have CM := am_ (fun W (hb : Below w.heap.size w W) => conf_May.calls a0_0 a0_1 A0_2 c0_2 l0_2 A0_3 c0_3 l0_3 a0_4 a0_5 A0_6 c0_6 l0_6 b W (c4_ hr0_2 hb) hc0_2 (c4_ hr0_3 hb) hc0_3 (c4_ hr0_6 hb) hc0_6 hm)
 have HR0 := am_ hr0_2
 have hl2 := hs.1
 clear h hs hm hb hr0_2 hr0_3 hr0_6 hc0_2 hc0_3 hc0_6
 go_enter Tryd.func47, Tryd.ntmps47
 go_wp2
 go_loopg [10] l0_2.length (fun d v9 wr => ∃ (i : Int), 0 ≤ i ∧ i.toNat + d = l0_2.length ∧ v9 = .int .i64 i ∧ Aside0 (wr.heap[w.heap.size]? = some (.cells #[.int .i64 a0_0, .int .i64 a0_1, .slice A0_2 l0_2.length c0_2, .slice A0_3 l0_3.length c0_3, .int .i64 a0_4, .string a0_5, .slice A0_6 l0_6.length c0_6] 26)) ∧ Aside0 (Below w.heap.size w wr) ∧ Aside0 (a1 ∈ l0_2 ↔ a1 ∈ l0_2.drop i.toNat))
 case atStart => exact ⟨0, by omega, by simp, rfl, ⟨blk_new _ _⟩, ⟨p3_ (Below.refl _ _) _⟩, ⟨Iff.rfl⟩⟩
 case round =>
  obtain ⟨i, hi0, hd, rfl, BK, HB, HS⟩ := hrel
  by_cases hlt : i < (l0_2.length : Int)
  ·obtain ⟨ad, e1, hx0⟩ := Kd.at_int HR0.out i hi0 hlt
   cases e1
   replace hx0 := (HB.out.cell (wb_ w _ hx0)).trans hx0
   have HD := HS.out
   rw [dropInt l0_2 i hi0 hlt, List.mem_cons] at HD
   clear HS
   generalize rd l0_2 i = x at hx0 HD
   by_cases q : x = a1
   ·have hfin : false = r := by rw [← HR.out, decide_eq_false (fun e => e (HD.2 (.inl q.symm)))]; rfl
    replace hfin := am_ hfin
    have q1 : (x == a1) = true := by simpa using q
    clear q HD
    go_wp2
    go_ret
    exact ⟨ret_bool hfin.out, HB.out⟩
   ·have q1 : (x == a1) = false := by simpa using q
    have HN : a1 ∈ l0_2 ↔ a1 ∈ l0_2.drop (i.toNat + 1) := HD.trans ⟨fun e => e.resolve_left (fun e => q e.symm), .inr⟩
    replace HN := am_ HN
    clear q HD
    go_wp2
    go_roundg (l0_2.length - (i.toNat + 1))
    case measure => first | omega | (simp; omega)
    case rel =>
     have e2 : (i + 1).toNat = i.toNat + 1 := by omega
     exact ⟨i + 1, by omega, by omega, by go_num, ⟨BK.out⟩, ⟨HB.out⟩, ⟨by rw [e2]; exact HN.out⟩⟩
  ·have e3 : l0_2.drop i.toNat = [] := List.drop_eq_nil_of_le (by omega)
   have HE : (b && decide (a0_0 ≤ a1 ∧ a1 ≤ a0_1)) = r := by
    rw [← HR.out, decide_eq_true (show a1 ∉ l0_2 from fun e => by have := HS.out.1 e; rw [e3] at this; cases this)]
    rfl
   replace HE := am_ HE
   clear HS HR
   have v0 := bc_ BK.out 0
   have v1 := bc_ BK.out 1
   have v2 := bc_ BK.out 2
   have v3 := bc_ BK.out 3
   have v4 := bc_ BK.out 4
   have v5 := bc_ BK.out 5
   have v6 := bc_ BK.out 6
   go_wp2_with (first | (go_at_call 37; (with_reducible refine (CM.out _ HB.out).mono ?_); rintro e w2 ⟨rfl, hb'⟩; replace BK := am_ (kb_ BK.out hb'); replace v0 := bc_ BK.out 0; replace v1 := bc_ BK.out 1; replace HB := am_ (bt_ HB.out hb'); clear hb'))
   all_goals go_ret
   all_goals refine ⟨ret_bool ?_, HB.out⟩
   all_goals (rw [← HE.out]; clear HE CM HB BK; simp [*] <;> (intros; omega))

end Go.Proofs.YtibalpbkmgegnaaDoor.PJ
