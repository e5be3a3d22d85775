-- Made by wip/pr.py out of the translation (a turned copy of the kit's print; contracts by hand where said).
import Derived.Test.YtdhckibkljafgaaGreatDoorPIx0
import Derived.Test.YtdhckibkljafgaaGreatDoorPIx4
import Derived.Test.YtdhckibkljafgaaGreatDoorPIx6
import Derived.Test.YtdhckibkljafgaaGreatDoorPIx8
import Derived.Test.YtdhckibkljafgaaGreatDoorPIx9
namespace Go.Proofs.YtdhckibkljafgaaGreatDoor.PI
open Go.RowKit Go.Proofs.YtdhckibkljafgaaGreatDoorW.PrintWords Go.Proofs.YtdhckibkljafgaaGreatDoorW.PrintLast Go.Proofs.YtdhckibkljafgaaGreatDoorW.PrintMore
-- shrunk
attribute [local go_sem] max2_int min2_int max_two min_two max_three min_three max_four min_four   -- for this text's walks alone
set_option linter.unusedVariables false
set_option linter.unusedSimpArgs false

/-! ### pick_Pick: function 18 -/
-- BY HAND
-- 38 39 40 22 67 44 48
theorem find_size {l1 : List S44} {h : Int} {x : S44} (ht : tabFit l1) (e : findL l1 h = some x) : x.f4.size ≤ 140737488351232 := ht.2 x (List.mem_of_find?_eq_some e)
def pick_open.S (ga g : Nat) (A1 : Option Addr) (n c1 : Nat) (a2 : Int) (a3 : ByteArray) (gl : Nat) (x0 x1 : Int) (x2 : ByteArray) (x3 : Int) (x4 : ByteArray) (x5 : Bool) (w' : World) : Prop := w'.cell? ⟨ga, 0, none⟩ = some (.pointer (some ⟨g, 0, none⟩)) ∧ w'.cell? ⟨ga, 1, none⟩ = some (.slice A1 n c1) ∧ w'.cell? ⟨ga, 2, none⟩ = some (.int .i64 a2) ∧ w'.cell? ⟨ga, 3, none⟩ = some (.string a3) ∧ w'.cell? ⟨gl, 0, none⟩ = some (.int .i64 x0) ∧ w'.cell? ⟨gl, 1, none⟩ = some (.int .i64 x1) ∧ w'.cell? ⟨gl, 2, none⟩ = some (.string x2) ∧ w'.cell? ⟨gl, 3, none⟩ = some (.int .i64 x3) ∧ w'.cell? ⟨gl, 4, none⟩ = some (.string x4) ∧ w'.cell? ⟨gl, 5, none⟩ = some (.bool x5)
theorem pick_open.S_below {w w2 : World} {ga g : Nat} {A1 : Option Addr} {n c1 : Nat} {a2 : Int} {a3 : ByteArray} {gl : Nat} {x0 x1 : Int} {x2 : ByteArray} {x3 : Int} {x4 : ByteArray} {x5 : Bool} (h : pick_open.S ga g A1 n c1 a2 a3 gl x0 x1 x2 x3 x4 x5 w) (hb : Below w.heap.size w w2) : pick_open.S ga g A1 n c1 a2 a3 gl x0 x1 x2 x3 x4 x5 w2 := by
 obtain ⟨s0, s1, s2, s3, s4, s5, s6, s7, s8, s9⟩ := h
 exact ⟨(hb.cell (wb_ _ _ s0)).trans s0, (hb.cell (wb_ _ _ s1)).trans s1, (hb.cell (wb_ _ _ s2)).trans s2, (hb.cell (wb_ _ _ s3)).trans s3, (hb.cell (wb_ _ _ s4)).trans s4, (hb.cell (wb_ _ _ s5)).trans s5, (hb.cell (wb_ _ _ s6)).trans s6, (hb.cell (wb_ _ _ s7)).trans s7, (hb.cell (wb_ _ _ s8)).trans s8, (hb.cell (wb_ _ _ s9)).trans s9⟩

set_option maxHeartbeats 8000000 in
set_option maxRecDepth 100000 in
theorem pick_open.calls (ga g : Nat) (a0_0 : Int) (a0_1 : Int) (A0_2 : Option Addr) (c0_2 : Nat) (l0_2 : List Int) (A0_3 : Option Addr) (c0_3 : Nat) (l0_3 : List S81) (a0_4 : Int) (a0_5 : ByteArray) (A0_6 : Option Addr) (c0_6 : Nat) (l0_6 : List S83) (A1 : Option Addr) (c1 : Nat) (l1 : List S44) (a2 : Int) (a3 : ByteArray) (host : Int) (r : Bool) (w : World) (ba : w.heap[ga]? = some (.cells #[.pointer (some ⟨g, 0, none⟩), .slice A1 l1.length c1, .int .i64 a2, .string a3] 72)) (bk : w.heap[g]? = some (.cells #[.int .i64 a0_0, .int .i64 a0_1, .slice A0_2 l0_2.length c0_2, .slice A0_3 l0_3.length c0_3, .int .i64 a0_4, .string a0_5, .slice A0_6 l0_6.length c0_6] 26)) (hr0_2 : Kd.C (Kd.int .i64) w A0_2 l0_2.length l0_2) (hc0_2 : l0_2.length ≤ c0_2) (hr0_3 : Kd.C k81 w A0_3 l0_3.length l0_3) (hc0_3 : l0_3.length ≤ c0_3) (hr0_6 : Kd.C k83 w A0_6 l0_6.length l0_6) (hc0_6 : l0_6.length ≤ c0_6) (hr1 : Kd.C k44 w A1 l1.length l1) (hc1 : l1.length ≤ c1) (hs : pickFit l0_2 l0_3 a0_5 l0_6 l1) (h : openB a0_0 a0_1 l0_2 l0_3 a0_4 a0_5 l0_6 l1 a2 a3 host = r) :
  Calls Tryz.prog 41 #[.pointer (some ⟨ga, 0, none⟩), .int .i64 host] w fun e w' => e = .returned (.bool r) ∧ Below w.heap.size w w' := by
 unfold openB at h
 obtain ⟨T, hT⟩ : ∃ T, lentB a0_0 a0_1 l0_2 l0_3 a0_4 a0_5 l0_6 host a3 = T := ⟨_, rfl⟩
 rw [hT] at h
 have CTg := am_ (fun (o : Option S44) (e : findL l1 host = o) W (hb : Below w.heap.size w W) => table_Find_c.calls A1 c1 l1 host (gotL o).f0 (gotL o).f1 (gotL o).f2 (gotL o).f3 (gotL o).f4 (gotL o).f5 o.isSome W (c4_ hr1 hb) hc1 (by unfold table_Find_c.f; rw [if_pos hs.2.1, e]))
 have CL := am_ (fun W (hb : Below w.heap.size w W) => conf_Lent.calls g a0_0 a0_1 A0_2 c0_2 l0_2 A0_3 c0_3 l0_3 a0_4 a0_5 A0_6 c0_6 l0_6 host a3 T W (kb_ bk hb) (c4_ hr0_2 hb) hc0_2 (c4_ hr0_3 hb) hc0_3 (c4_ hr0_6 hb) hc0_6 hs.1 hT)
 have HB := am_ (Below.refl w.heap.size w)
 have BA := am_ ba
 have u0 := bc_ ba 0
 have u1 := bc_ ba 1
 have u2 := bc_ ba 2
 have u3 := bc_ ba 3
 cases hf : findL l1 host with
 | none =>
  rw [hf] at h
  have HR := am_ (show (T && true) = r from h)
  clear h hT hr0_2 hr0_3 hr0_6 hc0_2 hc0_3 hc0_6 hr1 hc1 hs ba bk
  have CT := am_ (show ∀ W, Below w.heap.size w W → Calls Tryz.prog 22 #[.slice A1 l1.length c1, .int .i64 host] W (fun e w' => e = .returned (.tuple #[.agg #[.int .i64 0, .int .i64 0, .string (⟨#[]⟩ : ByteArray), .int .i64 0, .string (⟨#[]⟩ : ByteArray), .bool false], .bool false]) ∧ Below W.heap.size W w') from fun W hb => CTg.out none hf W hb)
  clear CTg hf
  go_enter Tryz.func41, Tryz.ntmps41
  go_wp2_with (first | (go_at_call 22; (with_reducible refine (CT.out _ (by repeat (with_reducible first | exact HB.out | apply p3_ | apply p1_ | apply p2_))).mono ?_); rintro e w3 ⟨rfl, hb2⟩; replace BA := am_ (kb_ (show _ from (by (with_reducible repeat (first | exact BA.out | refine k2_ ?_ _ | refine k3_ ?_ | refine k1_ ?_ _)))) hb2); replace HB := am_ (bt_ (show Below w.heap.size w _ from (by repeat (with_reducible first | exact HB.out | apply p3_ | apply p1_ | apply p2_))) hb2); clear hb2))
  have HB1 := am_ (below_drew (p3_ HB.out (.cells #[.int .i64 0, .int .i64 0, .string (⟨#[]⟩ : ByteArray), .int .i64 0, .string (⟨#[]⟩ : ByteArray), .bool false] 44)))
  have BA1 := am_ (k3_ (k1_ BA.out (.cells #[.int .i64 0, .int .i64 0, .string (⟨#[]⟩ : ByteArray), .int .i64 0, .string (⟨#[]⟩ : ByteArray), .bool false] 44)))
  have BX1 := am_ (k3_ (blk_new w3 (.cells #[.int .i64 0, .int .i64 0, .string (⟨#[]⟩ : ByteArray), .int .i64 0, .string (⟨#[]⟩ : ByteArray), .bool false] 44)))
  clear CT HB BA u0 u1 u2 u3
  refine seqS (S := pick_open.S ga g A1 l1.length c1 a2 a3 w3.heap.size 0 0 (⟨#[]⟩ : ByteArray) 0 (⟨#[]⟩ : ByteArray) false) 35 (by kernel_rfl) rfl rfl (by unfold pick_open.S; exact ⟨(bc_ BA1.out 0).trans rfl, (bc_ BA1.out 1).trans rfl, (bc_ BA1.out 2).trans rfl, (bc_ BA1.out 3).trans rfl, (bc_ BX1.out 0).trans rfl, (bc_ BX1.out 1).trans rfl, (bc_ BX1.out 2).trans rfl, (bc_ BX1.out 3).trans rfl, (bc_ BX1.out 4).trans rfl, (bc_ BX1.out 5).trans rfl⟩) ?_
  intro hHeld
  clear BA1
  iterate 9 first | (refine seqP (v := ?_) (a' := ?_) rfl rfl (by kernel_rfl) (fun _ _ _ h => h) (Or.inl ⟨by kernel_rfl, ?_⟩) ?_ ?_; rotate_left; (intro w'; go_simp; with_reducible rfl); rotate_left; (simp only [Act.put, sa_, sb_, sc_, i64_w, i32_w]; rfl)) | (refine seqL (v := ?_) (a' := ?_) rfl rfl (by kernel_rfl) (fun _ _ _ h => h) (Or.inl ⟨by kernel_rfl, ?_⟩) hHeld ?_ ?_; rotate_left; (rintro w' ⟨s0, s1, s2, s3, s4, s5, s6, s7, s8, s9⟩; go_simp; with_reducible rfl); rotate_left; (simp only [Act.put, sa_, sb_, sc_, i64_w, i32_w]; rfl))
  refine seqG (fn := Tryz.f67) rfl rfl (by kernel_rfl) rfl Tryz.func67 (by kernel_rfl) (by kernel_rfl) #[.pointer (some ⟨g, 0, none⟩), .int .i64 host, .string a3] (by kernel_rfl) (by (try simp only [List.map_toArray, List.map_cons, List.map_nil]); first | done | rfl) ?_
  with_reducible refine (CL.out _ HB1.out).mono ?_
  rintro e wg ⟨rfl, hb2⟩
  have HB2 := am_ (bt_ HB1.out hb2)
  have BX2 := am_ (kb_ BX1.out hb2)
  refine ⟨_, rfl, pick_open.S_below hHeld hb2, fun hHeld => ⟨?_, ?_, ?_⟩⟩
  rotate_left
  ·simp only [Act.put, sa_, sb_, sc_, i64_w, i32_w]
   rfl
  clear hb2 BX1 HB1
  iterate 1 first | (refine seqP (v := ?_) (a' := ?_) rfl rfl (by kernel_rfl) (fun _ _ _ h => h) (Or.inl ⟨by kernel_rfl, ?_⟩) ?_ ?_; rotate_left; (intro w'; go_simp; with_reducible rfl); rotate_left; (simp only [Act.put, sa_, sb_, sc_, i64_w, i32_w]; rfl)) | (refine seqL (v := ?_) (a' := ?_) rfl rfl (by kernel_rfl) (fun _ _ _ h => h) (Or.inl ⟨by kernel_rfl, ?_⟩) hHeld ?_ ?_; rotate_left; (rintro w' ⟨s0, s1, s2, s3, s4, s5, s6, s7, s8, s9⟩; go_simp; with_reducible rfl); rotate_left; (simp only [Act.put, sa_, sb_, sc_, i64_w, i32_w]; rfl))
  cases T with
  | false =>
   iterate 22 (refine seqP (v := undef) (a' := ?_) rfl rfl (by kernel_rfl) (fun _ _ _ h => h) (Or.inr ⟨by kernel_rfl, rfl⟩) ?_ ?_; rotate_left; (simp only [Act.put, sa_, sb_, sc_, i64_w, i32_w]; rfl))
   iterate 2 first | (refine seqP (v := ?_) (a' := ?_) rfl rfl (by kernel_rfl) (fun _ _ _ h => h) (Or.inl ⟨by kernel_rfl, ?_⟩) ?_ ?_; rotate_left; (intro w'; go_simp; with_reducible rfl); rotate_left; (simp only [Act.put, sa_, sb_, sc_, i64_w, i32_w]; rfl)) | (refine seqL (v := ?_) (a' := ?_) rfl rfl (by kernel_rfl) (fun _ _ _ h => h) (Or.inl ⟨by kernel_rfl, ?_⟩) hHeld ?_ ?_; rotate_left; (rintro w' ⟨s0, s1, s2, s3, s4, s5, s6, s7, s8, s9⟩; go_simp; with_reducible rfl); rotate_left; (simp only [Act.put, sa_, sb_, sc_, i64_w, i32_w]; rfl))
   refine seqE (by kernel_rfl) ?_
   go_wp2
   go_ret
   exact ⟨ret_bool (by rw [← HR.out]; rfl), by repeat (with_reducible first | exact HB2.out | apply p1_ | apply p2_)⟩
  | true =>
   iterate 3 first | (refine seqP (v := ?_) (a' := ?_) rfl rfl (by kernel_rfl) (fun _ _ _ h => h) (Or.inl ⟨by kernel_rfl, ?_⟩) ?_ ?_; rotate_left; (intro w'; go_simp; with_reducible rfl); rotate_left; (simp only [Act.put, sa_, sb_, sc_, i64_w, i32_w]; rfl)) | (refine seqL (v := ?_) (a' := ?_) rfl rfl (by kernel_rfl) (fun _ _ _ h => h) (Or.inl ⟨by kernel_rfl, ?_⟩) hHeld ?_ ?_; rotate_left; (rintro w' ⟨s0, s1, s2, s3, s4, s5, s6, s7, s8, s9⟩; go_simp; with_reducible rfl); rotate_left; (simp only [Act.put, sa_, sb_, sc_, i64_w, i32_w]; rfl))
   iterate 7 (refine seqP (v := undef) (a' := ?_) rfl rfl (by kernel_rfl) (fun _ _ _ h => h) (Or.inr ⟨by kernel_rfl, rfl⟩) ?_ ?_; rotate_left; (simp only [Act.put, sa_, sb_, sc_, i64_w, i32_w]; rfl))
   iterate 2 first | (refine seqP (v := ?_) (a' := ?_) rfl rfl (by kernel_rfl) (fun _ _ _ h => h) (Or.inl ⟨by kernel_rfl, ?_⟩) ?_ ?_; rotate_left; (intro w'; go_simp; with_reducible rfl); rotate_left; (simp only [Act.put, sa_, sb_, sc_, i64_w, i32_w]; rfl)) | (refine seqL (v := ?_) (a' := ?_) rfl rfl (by kernel_rfl) (fun _ _ _ h => h) (Or.inl ⟨by kernel_rfl, ?_⟩) hHeld ?_ ?_; rotate_left; (rintro w' ⟨s0, s1, s2, s3, s4, s5, s6, s7, s8, s9⟩; go_simp; with_reducible rfl); rotate_left; (simp only [Act.put, sa_, sb_, sc_, i64_w, i32_w]; rfl))
   iterate 9 (refine seqP (v := undef) (a' := ?_) rfl rfl (by kernel_rfl) (fun _ _ _ h => h) (Or.inr ⟨by kernel_rfl, rfl⟩) ?_ ?_; rotate_left; (simp only [Act.put, sa_, sb_, sc_, i64_w, i32_w]; rfl))
   iterate 3 first | (refine seqP (v := ?_) (a' := ?_) rfl rfl (by kernel_rfl) (fun _ _ _ h => h) (Or.inl ⟨by kernel_rfl, ?_⟩) ?_ ?_; rotate_left; (intro w'; go_simp; with_reducible rfl); rotate_left; (simp only [Act.put, sa_, sb_, sc_, i64_w, i32_w]; rfl)) | (refine seqL (v := ?_) (a' := ?_) rfl rfl (by kernel_rfl) (fun _ _ _ h => h) (Or.inl ⟨by kernel_rfl, ?_⟩) hHeld ?_ ?_; rotate_left; (rintro w' ⟨s0, s1, s2, s3, s4, s5, s6, s7, s8, s9⟩; go_simp; with_reducible rfl); rotate_left; (simp only [Act.put, sa_, sb_, sc_, i64_w, i32_w]; rfl))
   refine seqE (by kernel_rfl) ?_
   go_wp2
   go_ret
   exact ⟨ret_bool (by rw [← HR.out]; rfl), by repeat (with_reducible first | exact HB2.out | apply p1_ | apply p2_)⟩
 | some x =>
  rw [hf] at h
  have hx := find_size hs.2 hf
  obtain ⟨x0, x1, x2, x3, x4, x5⟩ := x
  simp only at hx
  obtain ⟨b1, h1⟩ : ∃ b, liveB x0 x1 x2 x3 x4 x5 a2 = b := ⟨_, rfl⟩
  obtain ⟨b2, h2⟩ : ∃ b, holdsB x0 x1 x2 x3 x4 x5 a3 a2 = b := ⟨_, rfl⟩
  have HR := am_ (show (T && (!b1 || b2)) = r by rw [← h, ← h1, ← h2]; rfl)
  have CV := am_ (fun W => lease_Live.calls x0 x1 x2 x3 x4 x5 a2 b1 W (by unfold lease_Live.f; rw [if_pos hx, h1]))
  have CH := am_ (fun W (gl : Nat) (bx : W.heap[gl]? = some (.cells #[.int .i64 x0, .int .i64 x1, .string x2, .int .i64 x3, .string x4, .bool x5] 44)) => lease_Holds.calls gl x0 x1 x2 x3 x4 x5 a3 a2 b2 W bx hx h2)
  clear h hT h1 h2 hx hr0_2 hr0_3 hr0_6 hc0_2 hc0_3 hc0_6 hr1 hc1 hs ba bk
  have CT := am_ (show ∀ W, Below w.heap.size w W → Calls Tryz.prog 22 #[.slice A1 l1.length c1, .int .i64 host] W (fun e w' => e = .returned (.tuple #[.agg #[.int .i64 x0, .int .i64 x1, .string x2, .int .i64 x3, .string x4, .bool x5], .bool true]) ∧ Below W.heap.size W w') from fun W hb => CTg.out (some ⟨x0, x1, x2, x3, x4, x5⟩) hf W hb)
  clear CTg hf
  go_enter Tryz.func41, Tryz.ntmps41
  go_wp2_with (first | (go_at_call 22; (with_reducible refine (CT.out _ (by repeat (with_reducible first | exact HB.out | apply p3_ | apply p1_ | apply p2_))).mono ?_); rintro e w3 ⟨rfl, hb2⟩; replace BA := am_ (kb_ (show _ from (by (with_reducible repeat (first | exact BA.out | refine k2_ ?_ _ | refine k3_ ?_ | refine k1_ ?_ _)))) hb2); replace HB := am_ (bt_ (show Below w.heap.size w _ from (by repeat (with_reducible first | exact HB.out | apply p3_ | apply p1_ | apply p2_))) hb2); clear hb2))
  have HB1 := am_ (below_drew (p3_ HB.out (.cells #[.int .i64 x0, .int .i64 x1, .string x2, .int .i64 x3, .string x4, .bool x5] 44)))
  have BA1 := am_ (k3_ (k1_ BA.out (.cells #[.int .i64 x0, .int .i64 x1, .string x2, .int .i64 x3, .string x4, .bool x5] 44)))
  have BX1 := am_ (k3_ (blk_new w3 (.cells #[.int .i64 x0, .int .i64 x1, .string x2, .int .i64 x3, .string x4, .bool x5] 44)))
  clear CT HB BA u0 u1 u2 u3
  refine seqS (S := pick_open.S ga g A1 l1.length c1 a2 a3 w3.heap.size x0 x1 x2 x3 x4 x5) 35 (by kernel_rfl) rfl rfl (by unfold pick_open.S; exact ⟨(bc_ BA1.out 0).trans rfl, (bc_ BA1.out 1).trans rfl, (bc_ BA1.out 2).trans rfl, (bc_ BA1.out 3).trans rfl, (bc_ BX1.out 0).trans rfl, (bc_ BX1.out 1).trans rfl, (bc_ BX1.out 2).trans rfl, (bc_ BX1.out 3).trans rfl, (bc_ BX1.out 4).trans rfl, (bc_ BX1.out 5).trans rfl⟩) ?_
  intro hHeld
  clear BA1
  iterate 9 first | (refine seqP (v := ?_) (a' := ?_) rfl rfl (by kernel_rfl) (fun _ _ _ h => h) (Or.inl ⟨by kernel_rfl, ?_⟩) ?_ ?_; rotate_left; (intro w'; go_simp; with_reducible rfl); rotate_left; (simp only [Act.put, sa_, sb_, sc_, i64_w, i32_w]; rfl)) | (refine seqL (v := ?_) (a' := ?_) rfl rfl (by kernel_rfl) (fun _ _ _ h => h) (Or.inl ⟨by kernel_rfl, ?_⟩) hHeld ?_ ?_; rotate_left; (rintro w' ⟨s0, s1, s2, s3, s4, s5, s6, s7, s8, s9⟩; go_simp; with_reducible rfl); rotate_left; (simp only [Act.put, sa_, sb_, sc_, i64_w, i32_w]; rfl))
  refine seqG (fn := Tryz.f67) rfl rfl (by kernel_rfl) rfl Tryz.func67 (by kernel_rfl) (by kernel_rfl) #[.pointer (some ⟨g, 0, none⟩), .int .i64 host, .string a3] (by kernel_rfl) (by (try simp only [List.map_toArray, List.map_cons, List.map_nil]); first | done | rfl) ?_
  with_reducible refine (CL.out _ HB1.out).mono ?_
  rintro e wg ⟨rfl, hb2⟩
  have HB2 := am_ (bt_ HB1.out hb2)
  have BX2 := am_ (kb_ BX1.out hb2)
  refine ⟨_, rfl, pick_open.S_below hHeld hb2, fun hHeld => ⟨?_, ?_, ?_⟩⟩
  rotate_left
  ·simp only [Act.put, sa_, sb_, sc_, i64_w, i32_w]
   rfl
  clear hb2 BX1 HB1
  iterate 1 first | (refine seqP (v := ?_) (a' := ?_) rfl rfl (by kernel_rfl) (fun _ _ _ h => h) (Or.inl ⟨by kernel_rfl, ?_⟩) ?_ ?_; rotate_left; (intro w'; go_simp; with_reducible rfl); rotate_left; (simp only [Act.put, sa_, sb_, sc_, i64_w, i32_w]; rfl)) | (refine seqL (v := ?_) (a' := ?_) rfl rfl (by kernel_rfl) (fun _ _ _ h => h) (Or.inl ⟨by kernel_rfl, ?_⟩) hHeld ?_ ?_; rotate_left; (rintro w' ⟨s0, s1, s2, s3, s4, s5, s6, s7, s8, s9⟩; go_simp; with_reducible rfl); rotate_left; (simp only [Act.put, sa_, sb_, sc_, i64_w, i32_w]; rfl))
  cases T with
  | false =>
   iterate 22 (refine seqP (v := undef) (a' := ?_) rfl rfl (by kernel_rfl) (fun _ _ _ h => h) (Or.inr ⟨by kernel_rfl, rfl⟩) ?_ ?_; rotate_left; (simp only [Act.put, sa_, sb_, sc_, i64_w, i32_w]; rfl))
   iterate 2 first | (refine seqP (v := ?_) (a' := ?_) rfl rfl (by kernel_rfl) (fun _ _ _ h => h) (Or.inl ⟨by kernel_rfl, ?_⟩) ?_ ?_; rotate_left; (intro w'; go_simp; with_reducible rfl); rotate_left; (simp only [Act.put, sa_, sb_, sc_, i64_w, i32_w]; rfl)) | (refine seqL (v := ?_) (a' := ?_) rfl rfl (by kernel_rfl) (fun _ _ _ h => h) (Or.inl ⟨by kernel_rfl, ?_⟩) hHeld ?_ ?_; rotate_left; (rintro w' ⟨s0, s1, s2, s3, s4, s5, s6, s7, s8, s9⟩; go_simp; with_reducible rfl); rotate_left; (simp only [Act.put, sa_, sb_, sc_, i64_w, i32_w]; rfl))
   refine seqE (by kernel_rfl) ?_
   go_wp2
   go_ret
   exact ⟨ret_bool (by rw [← HR.out]; rfl), by repeat (with_reducible first | exact HB2.out | apply p1_ | apply p2_)⟩
  | true =>
   iterate 8 first | (refine seqP (v := ?_) (a' := ?_) rfl rfl (by kernel_rfl) (fun _ _ _ h => h) (Or.inl ⟨by kernel_rfl, ?_⟩) ?_ ?_; rotate_left; (intro w'; go_simp; with_reducible rfl); rotate_left; (simp only [Act.put, sa_, sb_, sc_, i64_w, i32_w]; rfl)) | (refine seqL (v := ?_) (a' := ?_) rfl rfl (by kernel_rfl) (fun _ _ _ h => h) (Or.inl ⟨by kernel_rfl, ?_⟩) hHeld ?_ ?_; rotate_left; (rintro w' ⟨s0, s1, s2, s3, s4, s5, s6, s7, s8, s9⟩; go_simp; with_reducible rfl); rotate_left; (simp only [Act.put, sa_, sb_, sc_, i64_w, i32_w]; rfl))
   refine seqG (fn := Tryz.f44) rfl rfl (by kernel_rfl) rfl Tryz.func44 (by kernel_rfl) (by kernel_rfl) #[.agg #[.int .i64 x0, .int .i64 x1, .string x2, .int .i64 x3, .string x4, .bool x5], .int .i64 a2] (by kernel_rfl) (by (try simp only [List.map_toArray, List.map_cons, List.map_nil]); first | done | rfl) ?_
   with_reducible refine (CV.out _).mono ?_
   rintro e wg ⟨rfl, hb2⟩
   have HB3 := am_ (bt_ HB2.out hb2)
   have BX3 := am_ (kb_ BX2.out hb2)
   refine ⟨_, rfl, pick_open.S_below hHeld hb2, fun hHeld => ⟨?_, ?_, ?_⟩⟩
   rotate_left
   ·simp only [Act.put, sa_, sb_, sc_, i64_w, i32_w]
    rfl
   clear hb2 BX2 HB2
   iterate 3 first | (refine seqP (v := ?_) (a' := ?_) rfl rfl (by kernel_rfl) (fun _ _ _ h => h) (Or.inl ⟨by kernel_rfl, ?_⟩) ?_ ?_; rotate_left; (intro w'; go_simp; with_reducible rfl); rotate_left; (simp only [Act.put, sa_, sb_, sc_, i64_w, i32_w]; rfl)) | (refine seqL (v := ?_) (a' := ?_) rfl rfl (by kernel_rfl) (fun _ _ _ h => h) (Or.inl ⟨by kernel_rfl, ?_⟩) hHeld ?_ ?_; rotate_left; (rintro w' ⟨s0, s1, s2, s3, s4, s5, s6, s7, s8, s9⟩; go_simp; with_reducible rfl); rotate_left; (simp only [Act.put, sa_, sb_, sc_, i64_w, i32_w]; rfl))
   cases b1 with
   | false =>
    iterate 9 (refine seqP (v := undef) (a' := ?_) rfl rfl (by kernel_rfl) (fun _ _ _ h => h) (Or.inr ⟨by kernel_rfl, rfl⟩) ?_ ?_; rotate_left; (simp only [Act.put, sa_, sb_, sc_, i64_w, i32_w]; rfl))
    iterate 3 first | (refine seqP (v := ?_) (a' := ?_) rfl rfl (by kernel_rfl) (fun _ _ _ h => h) (Or.inl ⟨by kernel_rfl, ?_⟩) ?_ ?_; rotate_left; (intro w'; go_simp; with_reducible rfl); rotate_left; (simp only [Act.put, sa_, sb_, sc_, i64_w, i32_w]; rfl)) | (refine seqL (v := ?_) (a' := ?_) rfl rfl (by kernel_rfl) (fun _ _ _ h => h) (Or.inl ⟨by kernel_rfl, ?_⟩) hHeld ?_ ?_; rotate_left; (rintro w' ⟨s0, s1, s2, s3, s4, s5, s6, s7, s8, s9⟩; go_simp; with_reducible rfl); rotate_left; (simp only [Act.put, sa_, sb_, sc_, i64_w, i32_w]; rfl))
    refine seqE (by kernel_rfl) ?_
    go_wp2
    go_ret
    exact ⟨ret_bool (by rw [← HR.out]; rfl), by repeat (with_reducible first | exact HB3.out | apply p1_ | apply p2_)⟩
   | true =>
    iterate 8 first | (refine seqP (v := ?_) (a' := ?_) rfl rfl (by kernel_rfl) (fun _ _ _ h => h) (Or.inl ⟨by kernel_rfl, ?_⟩) ?_ ?_; rotate_left; (intro w'; go_simp; with_reducible rfl); rotate_left; (simp only [Act.put, sa_, sb_, sc_, i64_w, i32_w]; rfl)) | (refine seqL (v := ?_) (a' := ?_) rfl rfl (by kernel_rfl) (fun _ _ _ h => h) (Or.inl ⟨by kernel_rfl, ?_⟩) hHeld ?_ ?_; rotate_left; (rintro w' ⟨s0, s1, s2, s3, s4, s5, s6, s7, s8, s9⟩; go_simp; with_reducible rfl); rotate_left; (simp only [Act.put, sa_, sb_, sc_, i64_w, i32_w]; rfl))
    refine seqG (fn := Tryz.f48) rfl rfl (by kernel_rfl) rfl Tryz.func48 (by kernel_rfl) (by kernel_rfl) #[.pointer (some ⟨w3.heap.size, 0, none⟩), .string a3, .int .i64 a2] (by kernel_rfl) (by (try simp only [List.map_toArray, List.map_cons, List.map_nil]); first | done | rfl) ?_
    with_reducible refine (CH.out _ _ BX3.out).mono ?_
    rintro e wg ⟨rfl, hb2⟩
    have HB4 := am_ (bt_ HB3.out hb2)
    refine ⟨_, rfl, pick_open.S_below hHeld hb2, fun hHeld => ⟨?_, ?_, ?_⟩⟩
    rotate_left
    ·simp only [Act.put, sa_, sb_, sc_, i64_w, i32_w]
     rfl
    clear hb2 BX3 HB3
    iterate 3 first | (refine seqP (v := ?_) (a' := ?_) rfl rfl (by kernel_rfl) (fun _ _ _ h => h) (Or.inl ⟨by kernel_rfl, ?_⟩) ?_ ?_; rotate_left; (intro w'; go_simp; with_reducible rfl); rotate_left; (simp only [Act.put, sa_, sb_, sc_, i64_w, i32_w]; rfl)) | (refine seqL (v := ?_) (a' := ?_) rfl rfl (by kernel_rfl) (fun _ _ _ h => h) (Or.inl ⟨by kernel_rfl, ?_⟩) hHeld ?_ ?_; rotate_left; (rintro w' ⟨s0, s1, s2, s3, s4, s5, s6, s7, s8, s9⟩; go_simp; with_reducible rfl); rotate_left; (simp only [Act.put, sa_, sb_, sc_, i64_w, i32_w]; rfl))
    refine seqE (by kernel_rfl) ?_
    go_wp2
    go_ret
    exact ⟨ret_bool (by rw [← HR.out]; cases b2 <;> rfl), by repeat (with_reducible first | exact HB4.out | apply p1_ | apply p2_)⟩
def hostsN (a : Int) (n : Nat) : List Int := (List.range n).map fun (i : Nat) => a + (i : Int)
theorem hostsN_succ (a : Int) (n : Nat) (q : Int → Bool) : (hostsN a (n + 1)).filter q = (hostsN a n).filter q ++ if q (a + (n : Int)) = true then [a + (n : Int)] else [] := by
 unfold hostsN
 rw [List.range_succ, List.map_append, List.filter_append]
 congr 1
 rw [List.map_cons, List.map_nil, List.filter_cons, List.filter_nil]
theorem hostsN_len (a : Int) (n : Nat) (q : Int → Bool) : ((hostsN a n).filter q).length ≤ n := by
 refine Nat.le_trans (List.length_filter_le _ _) ?_
 unfold hostsN
 rw [List.length_map, List.length_range]
 exact Nat.le_refl _
theorem pick_info : (Tryz.prog.info? 3).map (fun i => (i.zero, i.size, i.bytes)) = some (some (.int .i64 0), 1, 8) := by kernel_rfl
set_option maxHeartbeats 8000000 in
set_option maxRecDepth 100000 in
theorem pick_all.calls (ga g : Nat) (a0_0 : Int) (a0_1 : Int) (A0_2 : Option Addr) (c0_2 : Nat) (l0_2 : List Int) (A0_3 : Option Addr) (c0_3 : Nat) (l0_3 : List S81) (a0_4 : Int) (a0_5 : ByteArray) (A0_6 : Option Addr) (c0_6 : Nat) (l0_6 : List S83) (A1 : Option Addr) (c1 : Nat) (l1 : List S44) (a2 : Int) (a3 : ByteArray) (w : World) (ba : w.heap[ga]? = some (.cells #[.pointer (some ⟨g, 0, none⟩), .slice A1 l1.length c1, .int .i64 a2, .string a3] 72)) (bk : w.heap[g]? = some (.cells #[.int .i64 a0_0, .int .i64 a0_1, .slice A0_2 l0_2.length c0_2, .slice A0_3 l0_3.length c0_3, .int .i64 a0_4, .string a0_5, .slice A0_6 l0_6.length c0_6] 26)) (hr0_2 : Kd.C (Kd.int .i64) w A0_2 l0_2.length l0_2) (hc0_2 : l0_2.length ≤ c0_2) (hr0_3 : Kd.C k81 w A0_3 l0_3.length l0_3) (hc0_3 : l0_3.length ≤ c0_3) (hr0_6 : Kd.C k83 w A0_6 l0_6.length l0_6) (hc0_6 : l0_6.length ≤ c0_6) (hr1 : Kd.C k44 w A1 l1.length l1) (hc1 : l1.length ≤ c1) (hs : pickFit l0_2 l0_3 a0_5 l0_6 l1) (hm : confB a0_0 a0_1 l0_2 l0_3 a0_4 a0_5 l0_6 = true) :
  Calls Tryz.prog 68 #[.pointer (some ⟨ga, 0, none⟩)] w fun e w' => ∃ v : Value, e = .returned v ∧ Kd.R (Kd.int .i64) 3 w' w.heap.size (fun _ => True) v ((hostsL a0_0 a0_1).filter (openB a0_0 a0_1 l0_2 l0_3 a0_4 a0_5 l0_6 l1 a2 a3)) ∧ Below w.heap.size w w' := by
 obtain ⟨n2, n3, n4, n5⟩ := conf_bounds hm
 have CO := am_ (fun host r (h : openB a0_0 a0_1 l0_2 l0_3 a0_4 a0_5 l0_6 l1 a2 a3 host = r) W (hb : Below w.heap.size w W) => pick_open.calls ga g a0_0 a0_1 A0_2 c0_2 l0_2 A0_3 c0_3 l0_3 a0_4 a0_5 A0_6 c0_6 l0_6 A1 c1 l1 a2 a3 host r W (kb_ ba hb) (kb_ bk hb) (c4_ hr0_2 hb) hc0_2 (c4_ hr0_3 hb) hc0_3 (c4_ hr0_6 hb) hc0_6 (c4_ hr1 hb) hc1 hs h)
 have HB := am_ (Below.refl w.heap.size w)
 have BA := am_ ba
 have BG := am_ bk
 have u0 := bc_ ba 0
 have u1 := bc_ ba 1
 have u2 := bc_ ba 2
 have u3 := bc_ ba 3
 have v0 := bc_ bk 0
 have v1 := bc_ bk 1
 have hN : (hostsL a0_0 a0_1).filter (openB a0_0 a0_1 l0_2 l0_3 a0_4 a0_5 l0_6 l1 a2 a3) = (hostsN a0_0 (a0_1 + 1 - a0_0).toNat).filter (openB a0_0 a0_1 l0_2 l0_3 a0_4 a0_5 l0_6 l1 a2 a3) := rfl
 rw [hN]
 obtain ⟨N, hN2⟩ : ∃ N, N = (a0_1 + 1 - a0_0).toNat := ⟨_, rfl⟩
 rw [← hN2]
 clear hN hr0_2 hr0_3 hr0_6 hc0_2 hc0_3 hc0_6 hr1 hc1 hs ba bk hm
 generalize hq : (openB a0_0 a0_1 l0_2 l0_3 a0_4 a0_5 l0_6 l1 a2 a3) = q at CO ⊢
 clear hq
 go_enter Tryz.func68, Tryz.ntmps68
 go_wp2
 clear u0 u1 u2 u3 v0 v1
 go_loopg [3, 4] N (fun d v3 v4 w' => ∃ i : Nat, i + d = N ∧ v4 = .int .i64 (a0_0 + (i : Int)) ∧ Aside0 (Below w.heap.size w w') ∧ Aside0 (Kd.R (Kd.int .i64) 3 w' w.heap.size (fun _ => True) v3 ((hostsN a0_0 i).filter q)))
 case atStart => exact ⟨0, by omega, by simp, HB, ⟨by rw [show (hostsN a0_0 0).filter q = [] from rfl]; exact Kd.R_nil _ _ _ _ _⟩⟩
 case round =>
  clear HB
  obtain ⟨i, hd, rfl, HB, HV⟩ := hrel
  have BA1 := am_ (kb_ BA.out HB.out)
  have BG1 := am_ (kb_ BG.out HB.out)
  have u0 := bc_ BA1.out 0
  have v1 := bc_ BG1.out 1
  have hsu := hostsN_succ a0_0 i q
  have hle := hostsN_len a0_0 i q
  by_cases hlt : i < N
  ·have hlz : a0_0 + (i : Int) ≤ a0_1 := by omega
   have hlb : decide (a0_0 + (i : Int) ≤ a0_1) = true := decide_eq_true hlz
   cases hqb : q (a0_0 + (i : Int)) with
   | true =>
    rw [hqb, if_pos rfl] at hsu
    have HSU := am_ hsu
    have HLE := am_ hle
    have COi := am_ (fun W hb => CO.out (a0_0 + (i : Int)) true hqb W hb)
    clear hsu hqb hle hN2
    go_wp2_with (first
     | (go_at_call 41; (with_reducible refine (COi.out _ (by repeat (with_reducible first | exact HB.out | apply p3_ | apply p1_ | apply p2_))).mono ?_); rintro e w5 ⟨rfl, hb2⟩; have hb3 := hb2; replace HB := am_ (bt_ (show Below w.heap.size w _ from (by repeat (with_reducible first | exact HB.out | apply p3_ | apply p1_ | apply p2_))) hb2); clear hb2; replace HV := am_ (Kd.R_below HV.out (by exact hb3)))
     | (at_builtin; refine Kd.R_append (Kd.int .i64) (w0 := w) w.heap.size rfl (.tmp 26) (.tmp 28) 22 3 (.int .i64 0) 8 rfl Tryz.underlying22 pick_info rfl (by decide) (by omega) u3 ((hostsN a0_0 i).filter q) (a0_0 + (i : Int)) [.int .i64 (a0_0 + (i : Int))] (fun _ => True) (fun _ => False) rfl rfl ?aP (fun _ hk => hk.elim) (fun _ _ => trivial) ?aO ?aB ?aS ?aL ?_; (case aP => exact rfl); (case aO => exact HV.out); (case aB => exact HB.out); (case aS => exact HB.out.size); (case aL => have := HLE.out; omega); intro v9 w9 hov hb hg hat; have HOV := am_ hov; have HBV := am_ hb; clear hov hb hg hat))
    go_roundg (N - (i + 1))
    case measure => first | omega | (simp; omega)
    case rel => exact ⟨i + 1, by omega, by first | go_num | (congr 1; omega), HBV, ⟨by rw [HSU.out]; exact HOV.out⟩⟩
   | false =>
    rw [hqb, if_neg (by decide), List.append_nil] at hsu
    have HSU := am_ hsu
    have COi := am_ (fun W hb => CO.out (a0_0 + (i : Int)) false hqb W hb)
    clear hsu hqb hle hN2
    go_wp2_with (first
     | (go_at_call 41; (with_reducible refine (COi.out _ (by repeat (with_reducible first | exact HB.out | apply p3_ | apply p1_ | apply p2_))).mono ?_); rintro e w5 ⟨rfl, hb2⟩; have hb3 := hb2; replace HB := am_ (bt_ (show Below w.heap.size w _ from (by repeat (with_reducible first | exact HB.out | apply p3_ | apply p1_ | apply p2_))) hb2); clear hb2; replace HV := am_ (Kd.R_below HV.out (by exact hb3))))
    go_roundg (N - (i + 1))
    case measure => first | omega | (simp; omega)
    case rel => exact ⟨i + 1, by omega, by first | go_num | (congr 1; omega), HB, ⟨by rw [HSU.out]; exact HV.out⟩⟩
  ·have hlb : decide (a0_0 + (i : Int) ≤ a0_1) = false := decide_eq_false (by omega)
   have hiN : i = N := by omega
   subst hiN
   clear hsu hle hN2
   go_wp2
   go_ret
   exact ⟨_, rfl, HV.out, HB.out⟩
theorem first_drop (q : Option S44 → Bool) (ls : List S44) (o : List Int) (i : Nat) (h : i < o.length) : firstH q ls (o.drop i) = if q (findL ls o[i]) = true then o[i] else firstH q ls (o.drop (i + 1)) := by
 unfold firstH
 rw [List.drop_eq_getElem_cons h, List.find?_cons]
 cases q (findL ls o[i]) <;> rfl
theorem rd_get (l : List Int) (i : Nat) (h : i < l.length) : rd l (i : Int) = l[i] := by
 unfold rd
 rw [Int.toNat_natCast, List.getD_eq_getElem?_getD, List.getElem?_eq_getElem h]
 rfl
set_option maxHeartbeats 8000000 in
set_option maxRecDepth 100000 in
theorem pick_first.calls (q : Option S44 → Bool) (G : Nat) (lb : Array Value) (ga g : Nat) (a0_0 : Int) (a0_1 : Int) (A0_2 : Option Addr) (c0_2 : Nat) (l0_2 : List Int) (A0_3 : Option Addr) (c0_3 : Nat) (l0_3 : List S81) (a0_4 : Int) (a0_5 : ByteArray) (A0_6 : Option Addr) (c0_6 : Nat) (l0_6 : List S83) (A1 : Option Addr) (c1 : Nat) (l1 : List S44) (a2 : Int) (a3 : ByteArray) (w : World) (ba : w.heap[ga]? = some (.cells #[.pointer (some ⟨g, 0, none⟩), .slice A1 l1.length c1, .int .i64 a2, .string a3] 72)) (bk : w.heap[g]? = some (.cells #[.int .i64 a0_0, .int .i64 a0_1, .slice A0_2 l0_2.length c0_2, .slice A0_3 l0_3.length c0_3, .int .i64 a0_4, .string a0_5, .slice A0_6 l0_6.length c0_6] 26)) (hr0_2 : Kd.C (Kd.int .i64) w A0_2 l0_2.length l0_2) (hc0_2 : l0_2.length ≤ c0_2) (hr0_3 : Kd.C k81 w A0_3 l0_3.length l0_3) (hc0_3 : l0_3.length ≤ c0_3) (hr0_6 : Kd.C k83 w A0_6 l0_6.length l0_6) (hc0_6 : l0_6.length ≤ c0_6) (hr1 : Kd.C k44 w A1 l1.length l1) (hc1 : l1.length ≤ c1) (hs : pickFit l0_2 l0_3 a0_5 l0_6 l1) (hm : confB a0_0 a0_1 l0_2 l0_3 a0_4 a0_5 l0_6 = true)
  (hp1 : ∀ (W : World) (gl : Nat) (x : S44), Below w.heap.size w W → W.heap[gl]? = some (.cells #[.int .i64 x.f0, .int .i64 x.f1, .string x.f2, .int .i64 x.f3, .string x.f4, .bool x.f5] 44) → x.f4.size ≤ 140737488351232 → Calls Tryz.prog G (#[.pointer (some ⟨gl, 0, none⟩)] ++ lb) W fun e w' => e = .returned (.bool (q (some x))) ∧ Below W.heap.size W w')
  (hp0 : ∀ (W : World), Below w.heap.size w W → Calls Tryz.prog G (#[.pointer none] ++ lb) W fun e w' => e = .returned (.bool (q none)) ∧ Below W.heap.size W w')
  (eg : ∀ args w, (callFunc G args).run Tryz.prog w = .ok (.enter G args) w) :
  Calls Tryz.prog 42 #[.pointer (some ⟨ga, 0, none⟩), .func (.func G) #[] lb] w fun e w' => e = .returned (.int .i64 (firstH q l1 ((hostsL a0_0 a0_1).filter (openB a0_0 a0_1 l0_2 l0_3 a0_4 a0_5 l0_6 l1 a2 a3)))) ∧ Below w.heap.size w w' := by
 have CA := am_ (fun W (hb : Below w.heap.size w W) => pick_all.calls ga g a0_0 a0_1 A0_2 c0_2 l0_2 A0_3 c0_3 l0_3 a0_4 a0_5 A0_6 c0_6 l0_6 A1 c1 l1 a2 a3 W (kb_ ba hb) (kb_ bk hb) (c4_ hr0_2 hb) hc0_2 (c4_ hr0_3 hb) hc0_3 (c4_ hr0_6 hb) hc0_6 (c4_ hr1 hb) hc1 hs hm)
 have CTg := am_ (fun (host : Int) (o : Option S44) (e : findL l1 host = o) W (hb : Below w.heap.size w W) => table_Find_c.calls A1 c1 l1 host (gotL o).f0 (gotL o).f1 (gotL o).f2 (gotL o).f3 (gotL o).f4 (gotL o).f5 o.isSome W (c4_ hr1 hb) hc1 (by unfold table_Find_c.f; rw [if_pos hs.2.1, e]))
 have HSZ := am_ (fun (h : Int) (x : S44) (e : findL l1 h = some x) => find_size hs.2 e)
 have HP1 := am_ hp1
 have HP0 := am_ hp0
 have HB := am_ (Below.refl w.heap.size w)
 have BA := am_ ba
 clear hr0_2 hr0_3 hr0_6 hc0_2 hc0_3 hc0_6 hr1 hc1 hs ba bk hp1 hp0
 have hOl : ((hostsL a0_0 a0_1).filter (openB a0_0 a0_1 l0_2 l0_3 a0_4 a0_5 l0_6 l1 a2 a3)).length ≤ 300 := by
  obtain ⟨n2, n3, n4, n5⟩ := conf_bounds hm
  refine Nat.le_trans (hostsN_len a0_0 (a0_1 + 1 - a0_0).toNat _) ?_
  omega
 clear hm
 generalize ((hostsL a0_0 a0_1).filter (openB a0_0 a0_1 l0_2 l0_3 a0_4 a0_5 l0_6 l1 a2 a3)) = O at CA hOl ⊢
 obtain ⟨R, hR⟩ : ∃ R, firstH q l1 O = R := ⟨_, rfl⟩
 rw [hR]
 have HRR := am_ hR
 clear hR
 go_enter Tryz.func42, Tryz.ntmps42
 go_wp2_with (first | (go_at_call 68; (with_reducible refine (CA.out _ HB.out).mono ?_); rintro e w1 ⟨v, rfl, hO, hb2⟩; obtain ⟨A, c, rfl, hcl, hCl⟩ := Kd.R_reads hO; have HC := am_ hCl; have HB1 := am_ (bt_ HB.out hb2); clear hcl hCl hO hb2))
 clear CA
 go_loopg [12] O.length (fun d v12 w' => ∃ i : Nat, i + d = O.length ∧ v12 = .int .i64 (i : Int) ∧ Aside0 (Below w1.heap.size w1 w') ∧ Aside0 (firstH q l1 (O.drop i) = R))
 case atStart => exact ⟨0, by omega, rfl, ⟨Below.refl _ _⟩, HRR⟩
 case round =>
  clear HRR
  obtain ⟨i, hd, rfl, HW, HF⟩ := hrel
  have HB2 := am_ (bt_ HB1.out HW.out)
  by_cases hlt : i < O.length
  ·have hlz : (i : Int) < (O.length : Int) := by omega
   obtain ⟨ad, e1, hx0⟩ := Kd.at_int HC.out (i : Int) (by omega) hlz
   cases e1
   rw [rd_get O i hlt, Int.toNat_natCast] at hx0
   replace hx0 := (HW.out.cell (wb_ w1 _ hx0)).trans hx0
   have hfd := first_drop q l1 O i hlt
   rw [HF.out] at hfd
   generalize O[i] = host at hx0 hfd
   have BA1 := am_ (kb_ BA.out HB2.out)
   have u0 := bc_ BA1.out 0
   have u1 := bc_ BA1.out 1
   have u2 := bc_ BA1.out 2
   have u3 := bc_ BA1.out 3
   cases hf : findL l1 host with
   | none =>
    have CT := am_ (show ∀ W, Below w.heap.size w W → Calls Tryz.prog 22 #[.slice A1 l1.length c1, .int .i64 host] W (fun e w' => e = .returned (.tuple #[.agg #[.int .i64 0, .int .i64 0, .string (⟨#[]⟩ : ByteArray), .int .i64 0, .string (⟨#[]⟩ : ByteArray), .bool false], .bool false]) ∧ Below W.heap.size W w') from fun W hb => CTg.out host none hf W hb)
    rw [hf] at hfd
    have HI := am_ (fun W (hb : Below w.heap.size w W) => HP0.out W hb)
    obtain ⟨b, hb⟩ : ∃ b, q none = b := ⟨_, rfl⟩
    rw [hb] at hfd HI
    have HFD := am_ hfd
    clear hfd hb hf HF
    go_wp2_with (first | (go_at_call 22; (with_reducible refine (CT.out _ HB2.out).mono ?_); rintro e w3 ⟨rfl, hb2⟩; have HB3 := am_ (bt_ HB2.out hb2); have HW3 := am_ (bt_ HW.out hb2); clear hb2 hx0 u0 u1 u2 u3))
    refine (HI.out _ (p3_ HB3.out (.cells #[.int .i64 0, .int .i64 0, .string (⟨#[]⟩ : ByteArray), .int .i64 0, .string (⟨#[]⟩ : ByteArray), .bool false] 44))).mono ?_
    rintro e w4 ⟨rfl, hb2⟩
    have HB4 := am_ (bt_ (p3_ HB3.out (.cells #[.int .i64 0, .int .i64 0, .string (⟨#[]⟩ : ByteArray), .int .i64 0, .string (⟨#[]⟩ : ByteArray), .bool false] 44)) hb2)
    have HW4 := am_ (bt_ (p3_ HW3.out (.cells #[.int .i64 0, .int .i64 0, .string (⟨#[]⟩ : ByteArray), .int .i64 0, .string (⟨#[]⟩ : ByteArray), .bool false] 44)) hb2)
    clear hb2
    cases b with
    | true =>
     go_wp2
     go_ret
     exact ⟨by rw [HFD.out]; rfl, HB4.out⟩
    | false =>
     go_wp2
     go_roundg (O.length - (i + 1))
     case measure => first | omega | (simp; omega)
     case rel => exact ⟨i + 1, by omega, by go_num, HW4, ⟨HFD.out.symm⟩⟩
   | some x =>
    have hsz := HSZ.out host x hf
    obtain ⟨x0, x1, x2, x3, x4, x5⟩ := x
    simp only at hsz
    have CT := am_ (show ∀ W, Below w.heap.size w W → Calls Tryz.prog 22 #[.slice A1 l1.length c1, .int .i64 host] W (fun e w' => e = .returned (.tuple #[.agg #[.int .i64 x0, .int .i64 x1, .string x2, .int .i64 x3, .string x4, .bool x5], .bool true]) ∧ Below W.heap.size W w') from fun W hb => CTg.out host (some ⟨x0, x1, x2, x3, x4, x5⟩) hf W hb)
    rw [hf] at hfd
    have HI := am_ (fun W (hb : Below w.heap.size w W) (gl : Nat) (bx : W.heap[gl]? = some (.cells #[.int .i64 x0, .int .i64 x1, .string x2, .int .i64 x3, .string x4, .bool x5] 44)) => HP1.out W gl ⟨x0, x1, x2, x3, x4, x5⟩ hb bx hsz)
    obtain ⟨b, hb⟩ : ∃ b, q (some ⟨x0, x1, x2, x3, x4, x5⟩) = b := ⟨_, rfl⟩
    rw [hb] at hfd HI
    have HFD := am_ hfd
    clear hfd hb hf HF hsz
    go_wp2_with (first | (go_at_call 22; (with_reducible refine (CT.out _ HB2.out).mono ?_); rintro e w3 ⟨rfl, hb2⟩; have HB3 := am_ (bt_ HB2.out hb2); have HW3 := am_ (bt_ HW.out hb2); clear hb2 hx0 u0 u1 u2 u3))
    refine (HI.out _ (p3_ HB3.out (.cells #[.int .i64 x0, .int .i64 x1, .string x2, .int .i64 x3, .string x4, .bool x5] 44)) _ (blk_new w3 (.cells #[.int .i64 x0, .int .i64 x1, .string x2, .int .i64 x3, .string x4, .bool x5] 44))).mono ?_
    rintro e w4 ⟨rfl, hb2⟩
    have HB4 := am_ (bt_ (p3_ HB3.out (.cells #[.int .i64 x0, .int .i64 x1, .string x2, .int .i64 x3, .string x4, .bool x5] 44)) hb2)
    have HW4 := am_ (bt_ (p3_ HW3.out (.cells #[.int .i64 x0, .int .i64 x1, .string x2, .int .i64 x3, .string x4, .bool x5] 44)) hb2)
    clear hb2
    cases b with
    | true =>
     go_wp2
     go_ret
     exact ⟨by rw [HFD.out]; rfl, HB4.out⟩
    | false =>
     go_wp2
     go_roundg (O.length - (i + 1))
     case measure => first | omega | (simp; omega)
     case rel => exact ⟨i + 1, by omega, by go_num, HW4, ⟨HFD.out.symm⟩⟩
  ·have hlz : ¬ (i : Int) < (O.length : Int) := by omega
   have HE := am_ (show R = 0 by rw [← HF.out, List.drop_eq_nil_of_le (by omega)]; rfl)
   clear HF
   go_wp2
   go_ret
   exact ⟨by (first | (rw [HE.out]; done) | (rw [HE.out]; rfl)), HB2.out⟩
theorem eld_drop (ls : List S44) (o : List Int) (best til : Int) (i : Nat) (h : i < o.length) : eldGo ls best til (o.drop i) = if best = 0 ∨ (gotL (findL ls o[i])).f3 < til then eldGo ls o[i] (gotL (findL ls o[i])).f3 (o.drop (i + 1)) else eldGo ls best til (o.drop (i + 1)) := by
 rw [List.drop_eq_getElem_cons h]
 rfl
set_option maxHeartbeats 8000000 in
set_option maxRecDepth 100000 in
theorem pick_eldest.calls (ga g : Nat) (a0_0 : Int) (a0_1 : Int) (A0_2 : Option Addr) (c0_2 : Nat) (l0_2 : List Int) (A0_3 : Option Addr) (c0_3 : Nat) (l0_3 : List S81) (a0_4 : Int) (a0_5 : ByteArray) (A0_6 : Option Addr) (c0_6 : Nat) (l0_6 : List S83) (A1 : Option Addr) (c1 : Nat) (l1 : List S44) (a2 : Int) (a3 : ByteArray) (w : World) (ba : w.heap[ga]? = some (.cells #[.pointer (some ⟨g, 0, none⟩), .slice A1 l1.length c1, .int .i64 a2, .string a3] 72)) (bk : w.heap[g]? = some (.cells #[.int .i64 a0_0, .int .i64 a0_1, .slice A0_2 l0_2.length c0_2, .slice A0_3 l0_3.length c0_3, .int .i64 a0_4, .string a0_5, .slice A0_6 l0_6.length c0_6] 26)) (hr0_2 : Kd.C (Kd.int .i64) w A0_2 l0_2.length l0_2) (hc0_2 : l0_2.length ≤ c0_2) (hr0_3 : Kd.C k81 w A0_3 l0_3.length l0_3) (hc0_3 : l0_3.length ≤ c0_3) (hr0_6 : Kd.C k83 w A0_6 l0_6.length l0_6) (hc0_6 : l0_6.length ≤ c0_6) (hr1 : Kd.C k44 w A1 l1.length l1) (hc1 : l1.length ≤ c1) (hs : pickFit l0_2 l0_3 a0_5 l0_6 l1) (hm : confB a0_0 a0_1 l0_2 l0_3 a0_4 a0_5 l0_6 = true) :
  Calls Tryz.prog 46 #[.pointer (some ⟨ga, 0, none⟩)] w fun e w' => e = .returned (.int .i64 (eldGo l1 0 0 ((hostsL a0_0 a0_1).filter (openB a0_0 a0_1 l0_2 l0_3 a0_4 a0_5 l0_6 l1 a2 a3)))) ∧ Below w.heap.size w w' := by
 have CA := am_ (fun W (hb : Below w.heap.size w W) => pick_all.calls ga g a0_0 a0_1 A0_2 c0_2 l0_2 A0_3 c0_3 l0_3 a0_4 a0_5 A0_6 c0_6 l0_6 A1 c1 l1 a2 a3 W (kb_ ba hb) (kb_ bk hb) (c4_ hr0_2 hb) hc0_2 (c4_ hr0_3 hb) hc0_3 (c4_ hr0_6 hb) hc0_6 (c4_ hr1 hb) hc1 hs hm)
 have CTg := am_ (fun (host : Int) (x0 x1 : Int) (x2 : ByteArray) (x3 : Int) (x4 : ByteArray) (x5 : Bool) (e : gotL (findL l1 host) = ⟨x0, x1, x2, x3, x4, x5⟩) W (hb : Below w.heap.size w W) => table_Find_c.calls A1 c1 l1 host x0 x1 x2 x3 x4 x5 (findL l1 host).isSome W (c4_ hr1 hb) hc1 (by unfold table_Find_c.f; rw [if_pos hs.2.1, e]))
 have HB := am_ (Below.refl w.heap.size w)
 have BA := am_ ba
 clear hr0_2 hr0_3 hr0_6 hc0_2 hc0_3 hc0_6 hr1 hc1 hs ba bk
 have hOl : ((hostsL a0_0 a0_1).filter (openB a0_0 a0_1 l0_2 l0_3 a0_4 a0_5 l0_6 l1 a2 a3)).length ≤ 300 := by
  obtain ⟨n2, n3, n4, n5⟩ := conf_bounds hm
  refine Nat.le_trans (hostsN_len a0_0 (a0_1 + 1 - a0_0).toNat _) ?_
  omega
 clear hm
 generalize ((hostsL a0_0 a0_1).filter (openB a0_0 a0_1 l0_2 l0_3 a0_4 a0_5 l0_6 l1 a2 a3)) = O at CA hOl ⊢
 obtain ⟨R, hR⟩ : ∃ R, eldGo l1 0 0 O = R := ⟨_, rfl⟩
 rw [hR]
 have HRR := am_ hR
 clear hR
 go_enter Tryz.func46, Tryz.ntmps46
 go_wp2_with (first | (go_at_call 68; (with_reducible refine (CA.out _ HB.out).mono ?_); rintro e w1 ⟨v, rfl, hO, hb2⟩; obtain ⟨A, c, rfl, hcl, hCl⟩ := Kd.R_reads hO; have HC := am_ hCl; have HB1 := am_ (bt_ HB.out hb2); clear hcl hCl hO hb2))
 clear CA
 go_loopg [3, 4, 12] O.length (fun d v3 v4 v12 w' => ∃ (i : Nat) (best til : Int), i + d = O.length ∧ v3 = .int .i64 best ∧ v4 = .int .i64 til ∧ v12 = .int .i64 (i : Int) ∧ Aside0 (Below w1.heap.size w1 w') ∧ Aside0 (eldGo l1 best til (O.drop i) = R))
 case atStart => exact ⟨0, 0, 0, by omega, rfl, rfl, rfl, ⟨Below.refl _ _⟩, HRR⟩
 case round =>
  clear HRR
  obtain ⟨i, best, til, hd, rfl, rfl, rfl, HW, HF⟩ := hrel
  have HB2 := am_ (bt_ HB1.out HW.out)
  by_cases hlt : i < O.length
  ·have hlz : (i : Int) < (O.length : Int) := by omega
   obtain ⟨ad, e1, hx0⟩ := Kd.at_int HC.out (i : Int) (by omega) hlz
   cases e1
   rw [rd_get O i hlt, Int.toNat_natCast] at hx0
   replace hx0 := (HW.out.cell (wb_ w1 _ hx0)).trans hx0
   have hfd := eld_drop l1 O best til i hlt
   rw [HF.out] at hfd
   generalize O[i] = host at hx0 hfd
   obtain ⟨x, hx⟩ : ∃ x, gotL (findL l1 host) = x := ⟨_, rfl⟩
   rw [hx] at hfd
   obtain ⟨x0, x1, x2, x3, x4, x5⟩ := x
   have CT := am_ (fun W hb => CTg.out host x0 x1 x2 x3 x4 x5 hx W hb)
   generalize (findL l1 host).isSome = is at CT
   simp only at hfd
   have HFD := am_ hfd
   have BA1 := am_ (kb_ BA.out HB2.out)
   have u0 := bc_ BA1.out 0
   have u1 := bc_ BA1.out 1
   have u2 := bc_ BA1.out 2
   have u3 := bc_ BA1.out 3
   clear hfd hx HF
   by_cases cb : best = 0
   ·have cbb : (best == 0) = true := by simpa using cb
    have HN := am_ (show eldGo l1 host x3 (O.drop (i + 1)) = R by rw [HFD.out, if_pos (.inl cb)])
    clear HFD cb
    go_wp2_with (first | (go_at_call 22; (with_reducible refine (CT.out _ HB2.out).mono ?_); rintro e w3 ⟨rfl, hb2⟩; have HB3 := am_ (bt_ HB2.out hb2); have HW3 := am_ (bt_ HW.out hb2); clear hb2 hx0 u0 u1 u2 u3))
    go_quiet (fail)
    go_wp2
    go_roundg (O.length - (i + 1))
    case measure => first | omega | (simp; omega)
    case rel => exact ⟨i + 1, host, x3, by omega, rfl, rfl, by go_num, ⟨by repeat (with_reducible first | exact HW3.out | apply p3_ | apply p1_ | apply p2_)⟩, HN⟩
   ·have cbb : (best == 0) = false := by simpa using cb
    by_cases ct : x3 < til
    ·have ctb : decide (x3 < til) = true := decide_eq_true ct
     have HN := am_ (show eldGo l1 host x3 (O.drop (i + 1)) = R by rw [HFD.out, if_pos (.inr ct)])
     clear HFD cb
     go_wp2_with (first | (go_at_call 22; (with_reducible refine (CT.out _ HB2.out).mono ?_); rintro e w3 ⟨rfl, hb2⟩; have HB3 := am_ (bt_ HB2.out hb2); have HW3 := am_ (bt_ HW.out hb2); clear hb2 hx0 u0 u1 u2 u3))
     go_quiet (fail)
     go_wp2
     go_roundg (O.length - (i + 1))
     case measure => first | omega | (simp; omega)
     case rel => exact ⟨i + 1, host, x3, by omega, rfl, rfl, by go_num, ⟨by repeat (with_reducible first | exact HW3.out | apply p3_ | apply p1_ | apply p2_)⟩, HN⟩
    ·have ctb : decide (x3 < til) = false := decide_eq_false ct
     have HN := am_ (show eldGo l1 best til (O.drop (i + 1)) = R by rw [HFD.out, if_neg (by rintro (h | h); exact cb h; exact ct h)])
     clear HFD cb
     go_wp2_with (first | (go_at_call 22; (with_reducible refine (CT.out _ HB2.out).mono ?_); rintro e w3 ⟨rfl, hb2⟩; have HB3 := am_ (bt_ HB2.out hb2); have HW3 := am_ (bt_ HW.out hb2); clear hb2 hx0 u0 u1 u2 u3))
     go_roundg (O.length - (i + 1))
     case measure => first | omega | (simp; omega)
     case rel => exact ⟨i + 1, best, til, by omega, rfl, rfl, by go_num, ⟨by repeat (with_reducible first | exact HW3.out | apply p3_ | apply p1_ | apply p2_)⟩, HN⟩
  ·have hlz : ¬ (i : Int) < (O.length : Int) := by omega
   have HE := am_ (show R = best by rw [← HF.out, List.drop_eq_nil_of_le (by omega)]; rfl)
   clear HF
   go_wp2
   go_ret
   exact ⟨by (first | (rw [HE.out]; done) | (rw [HE.out]; rfl)), HB2.out⟩
def pick_had.S (bc bn : Nat) (a2 : Int) (a3 : ByteArray) (gl : Nat) (x0 x1 : Int) (x2 : ByteArray) (x3 : Int) (x4 : ByteArray) (x5 : Bool) (w' : World) : Prop := w'.cell? ⟨bc, 0, none⟩ = some (.string a3) ∧ w'.cell? ⟨bn, 0, none⟩ = some (.int .i64 a2) ∧ w'.cell? ⟨gl, 0, none⟩ = some (.int .i64 x0) ∧ w'.cell? ⟨gl, 1, none⟩ = some (.int .i64 x1) ∧ w'.cell? ⟨gl, 2, none⟩ = some (.string x2) ∧ w'.cell? ⟨gl, 3, none⟩ = some (.int .i64 x3) ∧ w'.cell? ⟨gl, 4, none⟩ = some (.string x4) ∧ w'.cell? ⟨gl, 5, none⟩ = some (.bool x5)
theorem pick_had.S_below {w w2 : World} {bc bn : Nat} {a2 : Int} {a3 : ByteArray} {gl : Nat} {x0 x1 : Int} {x2 : ByteArray} {x3 : Int} {x4 : ByteArray} {x5 : Bool} (h : pick_had.S bc bn a2 a3 gl x0 x1 x2 x3 x4 x5 w) (hb : Below w.heap.size w w2) : pick_had.S bc bn a2 a3 gl x0 x1 x2 x3 x4 x5 w2 := by
 obtain ⟨s0, s1, s2, s3, s4, s5, s6, s7⟩ := h
 exact ⟨(hb.cell (wb_ _ _ s0)).trans s0, (hb.cell (wb_ _ _ s1)).trans s1, (hb.cell (wb_ _ _ s2)).trans s2, (hb.cell (wb_ _ _ s3)).trans s3, (hb.cell (wb_ _ _ s4)).trans s4, (hb.cell (wb_ _ _ s5)).trans s5, (hb.cell (wb_ _ _ s6)).trans s6, (hb.cell (wb_ _ _ s7)).trans s7⟩

set_option maxHeartbeats 8000000 in
set_option maxRecDepth 100000 in
theorem pick_had.some_ (bc bn gl : Nat) (a2 : Int) (a3 : ByteArray) (x0 x1 : Int) (x2 : ByteArray) (x3 : Int) (x4 : ByteArray) (x5 : Bool) (w : World) (hc : w.cell? ⟨bc, 0, none⟩ = some (.string a3)) (hn : w.cell? ⟨bn, 0, none⟩ = some (.int .i64 a2)) (bx : w.heap[gl]? = some (.cells #[.int .i64 x0, .int .i64 x1, .string x2, .int .i64 x3, .string x4, .bool x5] 44)) (hs : x4.size ≤ 140737488351232) :
  Calls Tryz.prog 43 #[.pointer (some ⟨gl, 0, none⟩), .pointer (some ⟨bc, 0, none⟩), .pointer (some ⟨bn, 0, none⟩)] w fun e w' => e = .returned (.bool (hadQ a3 a2 (some ⟨x0, x1, x2, x3, x4, x5⟩))) ∧ Below w.heap.size w w' := by
 obtain ⟨b1, h1⟩ : ∃ b, liveB x0 x1 x2 x3 x4 x5 a2 = b := ⟨_, rfl⟩
 have hr : hadQ a3 a2 (some ⟨x0, x1, x2, x3, x4, x5⟩) = (decide (x2.toList = a3.toList) && !b1) := by rw [← h1]; rfl
 rw [hr]
 have CV := am_ (fun W => lease_Live.calls x0 x1 x2 x3 x4 x5 a2 b1 W (by unfold lease_Live.f; rw [if_pos hs, h1]))
 have HC := am_ hc
 have HN := am_ hn
 have BX := am_ bx
 clear hr h1 hc hn bx hs
 have HB1 := am_ (below_drew (Below.refl w.heap.size w))
 by_cases qe : x2.toList = a3.toList
 ·have qb : (x2.toList == a3.toList) = true := by simpa using qe
  rw [decide_eq_true qe, Bool.true_and]
  clear qe
  go_enter Tryz.func43, Tryz.ntmps43
  go_wp2_with fail
  refine seqS (S := pick_had.S bc bn a2 a3 gl x0 x1 x2 x3 x4 x5) 19 (by kernel_rfl) rfl rfl (by unfold pick_had.S; exact ⟨HC.out, HN.out, (bc_ BX.out 0).trans rfl, (bc_ BX.out 1).trans rfl, (bc_ BX.out 2).trans rfl, (bc_ BX.out 3).trans rfl, (bc_ BX.out 4).trans rfl, (bc_ BX.out 5).trans rfl⟩) ?_
  intro hHeld
  iterate 15 first | (refine seqP (v := ?_) (a' := ?_) rfl rfl (by kernel_rfl) (fun _ _ _ h => h) (Or.inl ⟨by kernel_rfl, ?_⟩) ?_ ?_; rotate_left; (intro w'; go_simp; with_reducible rfl); rotate_left; (simp only [Act.put, sa_, sb_, sc_, i64_w, i32_w]; rfl)) | (refine seqL (v := ?_) (a' := ?_) rfl rfl (by kernel_rfl) (fun _ _ _ h => h) (Or.inl ⟨by kernel_rfl, ?_⟩) hHeld ?_ ?_; rotate_left; (rintro w' ⟨s0, s1, s2, s3, s4, s5, s6, s7⟩; go_simp; with_reducible rfl); rotate_left; (simp only [Act.put, sa_, sb_, sc_, i64_w, i32_w]; rfl))
  refine seqG (fn := Tryz.f44) rfl rfl (by kernel_rfl) rfl Tryz.func44 (by kernel_rfl) (by kernel_rfl) #[.agg #[.int .i64 x0, .int .i64 x1, .string x2, .int .i64 x3, .string x4, .bool x5], .int .i64 a2] (by kernel_rfl) (by (try simp only [List.map_toArray, List.map_cons, List.map_nil]); first | done | rfl) ?_
  with_reducible refine (CV.out _).mono ?_
  rintro e wg ⟨rfl, hb2⟩
  have HB2 := am_ (bt_ HB1.out hb2)
  refine ⟨_, rfl, pick_had.S_below hHeld hb2, fun hHeld => ⟨?_, ?_, ?_⟩⟩
  rotate_left
  ·simp only [Act.put, sa_, sb_, sc_, i64_w, i32_w]
   rfl
  iterate 3 first | (refine seqP (v := ?_) (a' := ?_) rfl rfl (by kernel_rfl) (fun _ _ _ h => h) (Or.inl ⟨by kernel_rfl, ?_⟩) ?_ ?_; rotate_left; (intro w'; go_simp; with_reducible rfl); rotate_left; (simp only [Act.put, sa_, sb_, sc_, i64_w, i32_w]; rfl)) | (refine seqL (v := ?_) (a' := ?_) rfl rfl (by kernel_rfl) (fun _ _ _ h => h) (Or.inl ⟨by kernel_rfl, ?_⟩) hHeld ?_ ?_; rotate_left; (rintro w' ⟨s0, s1, s2, s3, s4, s5, s6, s7⟩; go_simp; with_reducible rfl); rotate_left; (simp only [Act.put, sa_, sb_, sc_, i64_w, i32_w]; rfl))
  cases b1 with
  | true =>
   refine seqE (by kernel_rfl) ?_
   go_wp2
   go_ret
   exact ⟨ret_bool (rfl), HB2.out⟩
  | false =>
   refine seqE (by kernel_rfl) ?_
   go_wp2
   go_ret
   exact ⟨ret_bool (rfl), HB2.out⟩
 ·have qb : (x2.toList == a3.toList) = false := by simpa using qe
  rw [decide_eq_false qe, Bool.false_and]
  clear qe
  go_enter Tryz.func43, Tryz.ntmps43
  go_wp2_with fail
  refine seqS (S := pick_had.S bc bn a2 a3 gl x0 x1 x2 x3 x4 x5) 19 (by kernel_rfl) rfl rfl (by unfold pick_had.S; exact ⟨HC.out, HN.out, (bc_ BX.out 0).trans rfl, (bc_ BX.out 1).trans rfl, (bc_ BX.out 2).trans rfl, (bc_ BX.out 3).trans rfl, (bc_ BX.out 4).trans rfl, (bc_ BX.out 5).trans rfl⟩) ?_
  intro hHeld
  iterate 11 first | (refine seqP (v := ?_) (a' := ?_) rfl rfl (by kernel_rfl) (fun _ _ _ h => h) (Or.inl ⟨by kernel_rfl, ?_⟩) ?_ ?_; rotate_left; (intro w'; go_simp; with_reducible rfl); rotate_left; (simp only [Act.put, sa_, sb_, sc_, i64_w, i32_w]; rfl)) | (refine seqL (v := ?_) (a' := ?_) rfl rfl (by kernel_rfl) (fun _ _ _ h => h) (Or.inl ⟨by kernel_rfl, ?_⟩) hHeld ?_ ?_; rotate_left; (rintro w' ⟨s0, s1, s2, s3, s4, s5, s6, s7⟩; go_simp; with_reducible rfl); rotate_left; (simp only [Act.put, sa_, sb_, sc_, i64_w, i32_w]; rfl))
  iterate 6 (refine seqP (v := undef) (a' := ?_) rfl rfl (by kernel_rfl) (fun _ _ _ h => h) (Or.inr ⟨by kernel_rfl, rfl⟩) ?_ ?_; rotate_left; (simp only [Act.put, sa_, sb_, sc_, i64_w, i32_w]; rfl))
  iterate 2 first | (refine seqP (v := ?_) (a' := ?_) rfl rfl (by kernel_rfl) (fun _ _ _ h => h) (Or.inl ⟨by kernel_rfl, ?_⟩) ?_ ?_; rotate_left; (intro w'; go_simp; with_reducible rfl); rotate_left; (simp only [Act.put, sa_, sb_, sc_, i64_w, i32_w]; rfl)) | (refine seqL (v := ?_) (a' := ?_) rfl rfl (by kernel_rfl) (fun _ _ _ h => h) (Or.inl ⟨by kernel_rfl, ?_⟩) hHeld ?_ ?_; rotate_left; (rintro w' ⟨s0, s1, s2, s3, s4, s5, s6, s7⟩; go_simp; with_reducible rfl); rotate_left; (simp only [Act.put, sa_, sb_, sc_, i64_w, i32_w]; rfl))
  refine seqE (by kernel_rfl) ?_
  go_wp2
  go_ret
  exact ⟨ret_bool (rfl), HB1.out⟩
set_option maxHeartbeats 8000000 in
set_option maxRecDepth 100000 in
theorem pick_had.none_ (bc bn : Nat) (a2 : Int) (a3 : ByteArray) (w : World) (hc : w.cell? ⟨bc, 0, none⟩ = some (.string a3)) (hn : w.cell? ⟨bn, 0, none⟩ = some (.int .i64 a2)) :
  Calls Tryz.prog 43 #[.pointer none, .pointer (some ⟨bc, 0, none⟩), .pointer (some ⟨bn, 0, none⟩)] w fun e w' => e = .returned (.bool false) ∧ Below w.heap.size w w' := by
 have HC := am_ hc
 have HN := am_ hn
 have HB1 := am_ (below_drew (Below.refl w.heap.size w))
 clear hc hn
 go_enter Tryz.func43, Tryz.ntmps43
 go_wp2_with fail
 refine seqS (S := fun _ => True) 19 (by kernel_rfl) rfl rfl trivial ?_
 intro hHeld
 iterate 3 first | (refine seqP (v := ?_) (a' := ?_) rfl rfl (by kernel_rfl) (fun _ _ _ h => h) (Or.inl ⟨by kernel_rfl, ?_⟩) ?_ ?_; rotate_left; (intro w'; go_simp; with_reducible rfl); rotate_left; (simp only [Act.put, sa_, sb_, sc_, i64_w, i32_w]; rfl)) | (refine seqL (v := ?_) (a' := ?_) rfl rfl (by kernel_rfl) (fun _ _ _ h => h) (Or.inl ⟨by kernel_rfl, ?_⟩) hHeld ?_ ?_; rotate_left; (rintro w' ⟨s0, s1, s2, s3, s4, s5, s6, s7⟩; go_simp; with_reducible rfl); rotate_left; (simp only [Act.put, sa_, sb_, sc_, i64_w, i32_w]; rfl))
 iterate 6 (refine seqP (v := undef) (a' := ?_) rfl rfl (by kernel_rfl) (fun _ _ _ h => h) (Or.inr ⟨by kernel_rfl, rfl⟩) ?_ ?_; rotate_left; (simp only [Act.put, sa_, sb_, sc_, i64_w, i32_w]; rfl))
 iterate 2 first | (refine seqP (v := ?_) (a' := ?_) rfl rfl (by kernel_rfl) (fun _ _ _ h => h) (Or.inl ⟨by kernel_rfl, ?_⟩) ?_ ?_; rotate_left; (intro w'; go_simp; with_reducible rfl); rotate_left; (simp only [Act.put, sa_, sb_, sc_, i64_w, i32_w]; rfl)) | (refine seqL (v := ?_) (a' := ?_) rfl rfl (by kernel_rfl) (fun _ _ _ h => h) (Or.inl ⟨by kernel_rfl, ?_⟩) hHeld ?_ ?_; rotate_left; (rintro w' ⟨s0, s1, s2, s3, s4, s5, s6, s7⟩; go_simp; with_reducible rfl); rotate_left; (simp only [Act.put, sa_, sb_, sc_, i64_w, i32_w]; rfl))
 iterate 6 (refine seqP (v := undef) (a' := ?_) rfl rfl (by kernel_rfl) (fun _ _ _ h => h) (Or.inr ⟨by kernel_rfl, rfl⟩) ?_ ?_; rotate_left; (simp only [Act.put, sa_, sb_, sc_, i64_w, i32_w]; rfl))
 iterate 2 first | (refine seqP (v := ?_) (a' := ?_) rfl rfl (by kernel_rfl) (fun _ _ _ h => h) (Or.inl ⟨by kernel_rfl, ?_⟩) ?_ ?_; rotate_left; (intro w'; go_simp; with_reducible rfl); rotate_left; (simp only [Act.put, sa_, sb_, sc_, i64_w, i32_w]; rfl)) | (refine seqL (v := ?_) (a' := ?_) rfl rfl (by kernel_rfl) (fun _ _ _ h => h) (Or.inl ⟨by kernel_rfl, ?_⟩) hHeld ?_ ?_; rotate_left; (rintro w' ⟨s0, s1, s2, s3, s4, s5, s6, s7⟩; go_simp; with_reducible rfl); rotate_left; (simp only [Act.put, sa_, sb_, sc_, i64_w, i32_w]; rfl))
 refine seqE (by kernel_rfl) ?_
 go_wp2
 go_ret
 exact ⟨ret_bool (rfl), HB1.out⟩
set_option maxHeartbeats 8000000 in
set_option maxRecDepth 100000 in
theorem pick_new.some_ (gl : Nat) (w : World) :
  Calls Tryz.prog 45 #[.pointer (some ⟨gl, 0, none⟩)] w fun e w' => e = .returned (.bool false) ∧ Below w.heap.size w w' := by
 go_enter Tryz.func45, Tryz.ntmps45
 go_wp2
 go_ret
 exact ⟨rfl, by repeat (with_reducible first | exact Below.refl _ _ | apply p1_ | apply p2_)⟩
set_option maxHeartbeats 8000000 in
set_option maxRecDepth 100000 in
theorem pick_new.none_ (w : World) :
  Calls Tryz.prog 45 #[.pointer none] w fun e w' => e = .returned (.bool true) ∧ Below w.heap.size w w' := by
 go_enter Tryz.func45, Tryz.ntmps45
 go_wp2
 go_ret
 exact ⟨rfl, by repeat (with_reducible first | exact Below.refl _ _ | apply p1_ | apply p2_)⟩
def pick_Pick.f (a0_0 : Int) (a0_1 : Int) (l0_2 : List Int) (l0_3 : List S81) (a0_4 : Int) (a0_5 : ByteArray) (l0_6 : List S83) (l1 : List S44) (a2 : Int) (a3 : ByteArray) (a4 : Int) : Option (Int × Int) := if pickFit l0_2 l0_3 a0_5 l0_6 l1 then some (if pickMayB a0_0 a0_1 l0_2 l0_3 a0_4 a0_5 l0_6 l1 a2 a3 = true then pickV a0_0 a0_1 l0_2 l0_3 a0_4 a0_5 l0_6 l1 a2 a3 a4 else (0, 1400)) else none
set_option maxHeartbeats 8000000 in
set_option maxRecDepth 100000 in
theorem pick_Pick.calls (a0_0 : Int) (a0_1 : Int) (A0_2 : Option Addr) (c0_2 : Nat) (l0_2 : List Int) (A0_3 : Option Addr) (c0_3 : Nat) (l0_3 : List S81) (a0_4 : Int) (a0_5 : ByteArray) (A0_6 : Option Addr) (c0_6 : Nat) (l0_6 : List S83) (A1 : Option Addr) (c1 : Nat) (l1 : List S44) (a2 : Int) (a3 : ByteArray) (a4 : Int) (r1 : Int) (r2 : Int) (w : World) (hr0_2 : Kd.C (Kd.int .i64) w A0_2 l0_2.length l0_2) (hc0_2 : l0_2.length ≤ c0_2) (hr0_3 : Kd.C k81 w A0_3 l0_3.length l0_3) (hc0_3 : l0_3.length ≤ c0_3) (hr0_6 : Kd.C k83 w A0_6 l0_6.length l0_6) (hc0_6 : l0_6.length ≤ c0_6) (hr1 : Kd.C k44 w A1 l1.length l1) (hc1 : l1.length ≤ c1) (h : pick_Pick.f a0_0 a0_1 l0_2 l0_3 a0_4 a0_5 l0_6 l1 a2 a3 a4 = some (r1, r2)) :
  Calls Tryz.prog 18 #[.agg #[.int .i64 a0_0, .int .i64 a0_1, .slice A0_2 l0_2.length c0_2, .slice A0_3 l0_3.length c0_3, .int .i64 a0_4, .string a0_5, .slice A0_6 l0_6.length c0_6], .slice A1 l1.length c1, .int .i64 a2, .string a3, .int .i64 a4] w fun e w' => e = .returned (.tuple #[.int .i64 r1, .int .i64 r2]) ∧ Below w.heap.size w w' := by
 unfold pick_Pick.f at h
 by_cases hs : pickFit l0_2 l0_3 a0_5 l0_6 l1
 rotate_left
 ·rw [if_neg hs] at h
  cases h
 rw [if_pos hs] at h
 replace h := e5_ h
 obtain ⟨M, hM⟩ : ∃ M, pickMayB a0_0 a0_1 l0_2 l0_3 a0_4 a0_5 l0_6 l1 a2 a3 = M := ⟨_, rfl⟩
 rw [hM] at h
 obtain ⟨W3, hW3⟩ : ∃ W3, ((w.alloc (.cells #[.int .i64 a0_0, .int .i64 a0_1, .slice A0_2 l0_2.length c0_2, .slice A0_3 l0_3.length c0_3, .int .i64 a0_4, .string a0_5, .slice A0_6 l0_6.length c0_6] 26)).alloc (.cells #[.int .i64 a2] 3)).alloc (.cells #[.string a3] 9) = W3 := ⟨_, rfl⟩
 have HB := am_ (show Below w.heap.size w W3 by rw [← hW3]; repeat (first | exact Below.refl _ _ | apply p3_))
 have BK0 := am_ (show W3.heap[w.heap.size]? = some (.cells #[.int .i64 a0_0, .int .i64 a0_1, .slice A0_2 l0_2.length c0_2, .slice A0_3 l0_3.length c0_3, .int .i64 a0_4, .string a0_5, .slice A0_6 l0_6.length c0_6] 26) by rw [← hW3]; exact k1_ (k1_ (blk_new w _) _) _)
 have BK1 := am_ (show W3.heap[w.heap.size + 1]? = some (.cells #[.int .i64 a2] 3) by
  have := k1_ (blk_new (w.alloc (.cells #[.int .i64 a0_0, .int .i64 a0_1, .slice A0_2 l0_2.length c0_2, .slice A0_3 l0_3.length c0_3, .int .i64 a0_4, .string a0_5, .slice A0_6 l0_6.length c0_6] 26)) (.cells #[.int .i64 a2] 3)) (.cells #[.string a3] 9)
  rw [hW3] at this
  simpa using this)
 have BK2 := am_ (show W3.heap[w.heap.size + 1 + 1]? = some (.cells #[.string a3] 9) by
  have := blk_new ((w.alloc (.cells #[.int .i64 a0_0, .int .i64 a0_1, .slice A0_2 l0_2.length c0_2, .slice A0_3 l0_3.length c0_3, .int .i64 a0_4, .string a0_5, .slice A0_6 l0_6.length c0_6] 26)).alloc (.cells #[.int .i64 a2] 3)) (.cells #[.string a3] 9)
  rw [hW3] at this
  simpa using this)
 have C1 := am_ (fun W (hb : Below w.heap.size w W) (bk : W.heap[w.heap.size]? = some (.cells #[.int .i64 a0_0, .int .i64 a0_1, .slice A0_2 l0_2.length c0_2, .slice A0_3 l0_3.length c0_3, .int .i64 a0_4, .string a0_5, .slice A0_6 l0_6.length c0_6] 26)) => pick_May.calls w.heap.size a0_0 a0_1 A0_2 c0_2 l0_2 A0_3 c0_3 l0_3 a0_4 a0_5 A0_6 c0_6 l0_6 A1 c1 l1 a2 a3 M W bk (c4_ hr0_2 hb) hc0_2 (c4_ hr0_3 hb) hc0_3 (c4_ hr0_6 hb) hc0_6 (c4_ hr1 hb) hc1 hs hM)
 replace C1 := am_ (C1.out W3 HB.out BK0.out)
 cases M with
 | false =>
  rw [if_neg (by decide)] at h
  have e1 := am_ (Prod.mk.inj h).1
  have e2 := am_ (Prod.mk.inj h).2
  clear h hM hs hr0_2 hr0_3 hr0_6 hc0_2 hc0_3 hc0_6 hr1 hc1
  have b1 := bc_ BK1.out 0
  have b2 := bc_ BK2.out 0
  go_enter Tryz.func18, Tryz.ntmps18
  go_wp2_with (first | (go_at_call 38; (try rw [hW3]); (with_reducible refine C1.out.mono ?_); rintro e w1 ⟨rfl, hb2⟩; replace HB := am_ (bt_ HB.out hb2); clear hb2))
  go_ret2
  exact ⟨by (first | (rw [← e1.out, ← e2.out]; done) | (rw [← e1.out, ← e2.out]; rfl)), HB.out⟩
 | true =>
 rw [if_pos rfl] at h
 have hm : confB a0_0 a0_1 l0_2 l0_3 a0_4 a0_5 l0_6 = true ∧ tableB l1 = true := by
  unfold pickMayB at hM
  rw [Bool.and_eq_true, Bool.and_eq_true] at hM
  exact ⟨hM.1, hM.2.1⟩
 unfold pickV at h
 obtain ⟨O, hO⟩ : ∃ O, gotL (ofL l1 a3 a2) = O := ⟨_, rfl⟩
 obtain ⟨K, hK⟩ : ∃ K, foundH (reservR a0_0 a0_1 l0_2 l0_3 a0_4 a0_5 l0_6 a3) = K := ⟨_, rfl⟩
 obtain ⟨KI, hKI⟩ : ∃ K, foundIs (reservR a0_0 a0_1 l0_2 l0_3 a0_4 a0_5 l0_6 a3) = K := ⟨_, rfl⟩
 obtain ⟨OI, hOI⟩ : ∃ K, (ofL l1 a3 a2).isSome = K := ⟨_, rfl⟩
 rw [hO, hK] at h
 obtain ⟨o0, o1, o2, o3, o4, o5⟩ := O
 have C2 := am_ (fun W (hb : Below w.heap.size w W) => table_Of.calls A1 c1 l1 a3 a2 o0 o1 o2 o3 o4 o5 OI W (c4_ hr1 hb) hc1 (by unfold table_Of.f; rw [if_pos hs.2, hO, hOI]))
 have C3 := am_ (fun W (hb : Below w.heap.size w W) => conf_Reserved.calls a0_0 a0_1 A0_2 c0_2 l0_2 A0_3 c0_3 l0_3 a0_4 a0_5 A0_6 c0_6 l0_6 a3 K KI W (c4_ hr0_2 hb) hc0_2 (c4_ hr0_3 hb) hc0_3 (c4_ hr0_6 hb) hc0_6 (by unfold conf_Reserved.f; rw [if_pos hs.1, hK, hKI]))
 replace h : (match [o0, K, a4].find? (openB a0_0 a0_1 l0_2 l0_3 a0_4 a0_5 l0_6 l1 a2 a3) with
  | some h => (h, 0)
  | none => match [firstH (hadQ a3 a2) l1 ((hostsL a0_0 a0_1).filter (openB a0_0 a0_1 l0_2 l0_3 a0_4 a0_5 l0_6 l1 a2 a3)), firstH Option.isNone l1 ((hostsL a0_0 a0_1).filter (openB a0_0 a0_1 l0_2 l0_3 a0_4 a0_5 l0_6 l1 a2 a3)), eldGo l1 0 0 ((hostsL a0_0 a0_1).filter (openB a0_0 a0_1 l0_2 l0_3 a0_4 a0_5 l0_6 l1 a2 a3))].find? (fun h => decide (h > 0)) with
   | some h => (h, 0)
   | none => (0, 1401)) = (r1, r2) := h
 obtain ⟨F1, hF1⟩ : ∃ F, [o0, K, a4].find? (openB a0_0 a0_1 l0_2 l0_3 a0_4 a0_5 l0_6 l1 a2 a3) = F := ⟨_, rfl⟩
 rw [hF1] at h
 have HF1 := am_ (show ([o0, K, a4].drop (0 : Int).toNat).find? (openB a0_0 a0_1 l0_2 l0_3 a0_4 a0_5 l0_6 l1 a2 a3) = F1 from hF1)
 obtain ⟨q0, hq0⟩ : ∃ q, firstH (hadQ a3 a2) l1 ((hostsL a0_0 a0_1).filter (openB a0_0 a0_1 l0_2 l0_3 a0_4 a0_5 l0_6 l1 a2 a3)) = q := ⟨_, rfl⟩
 obtain ⟨q1, hq1⟩ : ∃ q, firstH Option.isNone l1 ((hostsL a0_0 a0_1).filter (openB a0_0 a0_1 l0_2 l0_3 a0_4 a0_5 l0_6 l1 a2 a3)) = q := ⟨_, rfl⟩
 obtain ⟨q2, hq2⟩ : ∃ q, eldGo l1 0 0 ((hostsL a0_0 a0_1).filter (openB a0_0 a0_1 l0_2 l0_3 a0_4 a0_5 l0_6 l1 a2 a3)) = q := ⟨_, rfl⟩
 rw [hq0, hq1, hq2] at h
 obtain ⟨F2, hF2⟩ : ∃ F, [q0, q1, q2].find? (fun h => decide (h > 0)) = F := ⟨_, rfl⟩
 rw [hF2] at h
 have HF2 := am_ (show ([q0, q1, q2].drop (0 : Int).toNat).find? (fun h => decide (h > 0)) = F2 from hF2)
 have HPV := am_ h
 have eg1 : ∀ args w, (callFunc 43 args).run Tryz.prog w = .ok (.enter 43 args) w := fun args w => enters_ Tryz.func43 (by kernel_rfl) rfl args w
 have eg2 : ∀ args w, (callFunc 45 args).run Tryz.prog w = .ok (.enter 45 args) w := fun args w => enters_ Tryz.func45 (by kernel_rfl) rfl args w
 -- what stands behind the first three calls
 have CG := am_ (fun (na : Nat) (WL : World) (HBL : Aside0 (Below w.heap.size w WL)) (BA : WL.heap[na]? = some (.cells #[.pointer (some ⟨w.heap.size, 0, none⟩), .slice A1 l1.length c1, .int .i64 a2, .string a3] 72)) (B0 : WL.heap[w.heap.size]? = some (.cells #[.int .i64 a0_0, .int .i64 a0_1, .slice A0_2 l0_2.length c0_2, .slice A0_3 l0_3.length c0_3, .int .i64 a0_4, .string a0_5, .slice A0_6 l0_6.length c0_6] 26)) (B1 : WL.heap[w.heap.size + 1]? = some (.cells #[.int .i64 a2] 3)) (B2 : WL.heap[w.heap.size + 1 + 1]? = some (.cells #[.string a3] 9)) =>
  (And.intro (fun host r (hh : openB a0_0 a0_1 l0_2 l0_3 a0_4 a0_5 l0_6 l1 a2 a3 host = r) W (hb : Below WL.heap.size WL W) => pick_open.calls na w.heap.size a0_0 a0_1 A0_2 c0_2 l0_2 A0_3 c0_3 l0_3 a0_4 a0_5 A0_6 c0_6 l0_6 A1 c1 l1 a2 a3 host r W (kb_ BA hb) (kb_ B0 hb) (c4_ hr0_2 (bt_ HBL.out hb)) hc0_2 (c4_ hr0_3 (bt_ HBL.out hb)) hc0_3 (c4_ hr0_6 (bt_ HBL.out hb)) hc0_6 (c4_ hr1 (bt_ HBL.out hb)) hc1 hs hh)
  (And.intro (fun W (hb : Below WL.heap.size WL W) => pick_first.calls (hadQ a3 a2) 43 #[.pointer (some ⟨w.heap.size + 1 + 1, 0, none⟩), .pointer (some ⟨w.heap.size + 1, 0, none⟩)] na w.heap.size a0_0 a0_1 A0_2 c0_2 l0_2 A0_3 c0_3 l0_3 a0_4 a0_5 A0_6 c0_6 l0_6 A1 c1 l1 a2 a3 W (kb_ BA hb) (kb_ B0 hb) (c4_ hr0_2 (bt_ HBL.out hb)) hc0_2 (c4_ hr0_3 (bt_ HBL.out hb)) hc0_3 (c4_ hr0_6 (bt_ HBL.out hb)) hc0_6 (c4_ hr1 (bt_ HBL.out hb)) hc1 hs hm.1 (fun W' gl x hb' bx hsz => pick_had.some_ (w.heap.size + 1 + 1) (w.heap.size + 1) gl a2 a3 x.f0 x.f1 x.f2 x.f3 x.f4 x.f5 W' ((bc_ (kb_ B2 (bt_ hb hb')) 0).trans rfl) ((bc_ (kb_ B1 (bt_ hb hb')) 0).trans rfl) bx hsz) (fun W' hb' => pick_had.none_ (w.heap.size + 1 + 1) (w.heap.size + 1) a2 a3 W' ((bc_ (kb_ B2 (bt_ hb hb')) 0).trans rfl) ((bc_ (kb_ B1 (bt_ hb hb')) 0).trans rfl)) eg1)
  (And.intro (fun W (hb : Below WL.heap.size WL W) => pick_first.calls Option.isNone 45 #[] na w.heap.size a0_0 a0_1 A0_2 c0_2 l0_2 A0_3 c0_3 l0_3 a0_4 a0_5 A0_6 c0_6 l0_6 A1 c1 l1 a2 a3 W (kb_ BA hb) (kb_ B0 hb) (c4_ hr0_2 (bt_ HBL.out hb)) hc0_2 (c4_ hr0_3 (bt_ HBL.out hb)) hc0_3 (c4_ hr0_6 (bt_ HBL.out hb)) hc0_6 (c4_ hr1 (bt_ HBL.out hb)) hc1 hs hm.1 (fun W' gl x hb' bx hsz => pick_new.some_ gl W') (fun W' hb' => pick_new.none_ W') eg2)
  (fun W (hb : Below WL.heap.size WL W) => pick_eldest.calls na w.heap.size a0_0 a0_1 A0_2 c0_2 l0_2 A0_3 c0_3 l0_3 a0_4 a0_5 A0_6 c0_6 l0_6 A1 c1 l1 a2 a3 W (kb_ BA hb) (kb_ B0 hb) (c4_ hr0_2 (bt_ HBL.out hb)) hc0_2 (c4_ hr0_3 (bt_ HBL.out hb)) hc0_3 (c4_ hr0_6 (bt_ HBL.out hb)) hc0_6 (c4_ hr1 (bt_ HBL.out hb)) hc1 hs hm.1)))))
 rw [hq0, hq1, hq2] at CG
 clear h hM hm hF1 hF2 hq0 hq1 hq2 hO hK hKI hOI eg1 eg2 hs hr0_2 hr0_3 hr0_6 hc0_2 hc0_3 hc0_6 hr1 hc1
 have b1 := bc_ BK1.out 0
 have b2 := bc_ BK2.out 0
 go_enter Tryz.func18, Tryz.ntmps18
 go_wp2_with (first | (go_at_call 38; (try rw [hW3]); (with_reducible refine C1.out.mono ?_); rintro e w1 ⟨rfl, hb2⟩; clear b1 b2; replace BK0 := am_ (kb_ BK0.out hb2); replace BK1 := am_ (kb_ BK1.out hb2); replace BK2 := am_ (kb_ BK2.out hb2); replace HB := am_ (bt_ HB.out hb2); clear hb2; have b1 := bc_ BK1.out 0; have b2 := bc_ BK2.out 0; have BW1 := am_ (k1_ BK1.out (.cells #[.pointer (some ⟨w.heap.size, 0, none⟩), .slice A1 l1.length c1, .int .i64 a2, .string a3] 72)); have BW2 := am_ (k1_ BK2.out (.cells #[.pointer (some ⟨w.heap.size, 0, none⟩), .slice A1 l1.length c1, .int .i64 a2, .string a3] 72)); have d1 := bc_ BW1.out 0; have d2 := bc_ BW2.out 0) | (go_at_call 39; (with_reducible refine (C2.out _ (p3_ HB.out (.cells #[.pointer (some ⟨w.heap.size, 0, none⟩), .slice A1 l1.length c1, .int .i64 a2, .string a3] 72))).mono ?_); rintro e w2 ⟨rfl, hb2⟩; clear b1 b2 d1 d2 BW1 BW2; replace BK0 := am_ (kb_ (k1_ BK0.out (.cells #[.pointer (some ⟨w.heap.size, 0, none⟩), .slice A1 l1.length c1, .int .i64 a2, .string a3] 72)) hb2); replace BK1 := am_ (kb_ (k1_ BK1.out (.cells #[.pointer (some ⟨w.heap.size, 0, none⟩), .slice A1 l1.length c1, .int .i64 a2, .string a3] 72)) hb2); replace BK2 := am_ (kb_ (k1_ BK2.out (.cells #[.pointer (some ⟨w.heap.size, 0, none⟩), .slice A1 l1.length c1, .int .i64 a2, .string a3] 72)) hb2); have BA := am_ (kb_ (blk_new w1 (.cells #[.pointer (some ⟨w.heap.size, 0, none⟩), .slice A1 l1.length c1, .int .i64 a2, .string a3] 72)) hb2); replace HB := am_ (bt_ (p3_ HB.out (.cells #[.pointer (some ⟨w.heap.size, 0, none⟩), .slice A1 l1.length c1, .int .i64 a2, .string a3] 72)) hb2); clear hb2; have BZ := am_ (k1_ BK0.out (.cells #[.int .i64 o0, .int .i64 o1, .string o2, .int .i64 o3, .string o4, .bool o5] 44)); have BY := am_ (k1_ BK2.out (.cells #[.int .i64 o0, .int .i64 o1, .string o2, .int .i64 o3, .string o4, .bool o5] 44)); have c0 := bc_ BZ.out 0; have c1' := bc_ BZ.out 1; have c2 := bc_ BZ.out 2; have c3 := bc_ BZ.out 3; have c4 := bc_ BZ.out 4; have c5 := bc_ BZ.out 5; have c6 := bc_ BZ.out 6; have b2 := bc_ BY.out 0) | (go_at_call 40; (with_reducible refine (C3.out _ (p3_ HB.out (.cells #[.int .i64 o0, .int .i64 o1, .string o2, .int .i64 o3, .string o4, .bool o5] 44))).mono ?_); rintro e w3 ⟨rfl, hb2⟩; clear c0 c1' c2 c3 c4 c5 c6 b2 BZ BY; replace BK0 := am_ (kb_ (k1_ BK0.out (.cells #[.int .i64 o0, .int .i64 o1, .string o2, .int .i64 o3, .string o4, .bool o5] 44)) hb2); replace BK1 := am_ (kb_ (k1_ BK1.out (.cells #[.int .i64 o0, .int .i64 o1, .string o2, .int .i64 o3, .string o4, .bool o5] 44)) hb2); replace BK2 := am_ (kb_ (k1_ BK2.out (.cells #[.int .i64 o0, .int .i64 o1, .string o2, .int .i64 o3, .string o4, .bool o5] 44)) hb2); replace BA := am_ (kb_ (k1_ BA.out (.cells #[.int .i64 o0, .int .i64 o1, .string o2, .int .i64 o3, .string o4, .bool o5] 44)) hb2); have BL := am_ (kb_ (blk_new w2 (.cells #[.int .i64 o0, .int .i64 o1, .string o2, .int .i64 o3, .string o4, .bool o5] 44)) hb2); replace HB := am_ (bt_ (p3_ HB.out (.cells #[.int .i64 o0, .int .i64 o1, .string o2, .int .i64 o3, .string o4, .bool o5] 44)) hb2); clear hb2; have p0 := bc_ BL.out 0))
 obtain ⟨WL, hWL⟩ : ∃ WL, w3.alloc (.cells #[.int .i64 o0, .int .i64 K, .int .i64 a4] 3) = WL := ⟨_, rfl⟩
 have HBL := am_ (show Below w.heap.size w WL by rw [← hWL]; exact p3_ HB.out _)
 have BR := am_ (show WL.heap[w3.heap.size]? = some (.cells #[.int .i64 o0, .int .i64 K, .int .i64 a4] 3) by rw [← hWL]; exact blk_new w3 _)
 have G := CG.out w1.heap.size WL HBL (by rw [← hWL]; exact k1_ BA.out _) (by rw [← hWL]; exact k1_ BK0.out _) (by rw [← hWL]; exact k1_ BK1.out _) (by rw [← hWL]; exact k1_ BK2.out _)
 have COP := am_ G.1
 have CF1 := am_ G.2.1
 have CF2 := am_ G.2.2.1
 have CE := am_ G.2.2.2
 clear G CG C1 C2 C3 BA BK0 BK1 BK2 BL p0
 go_loopg [52] 3 (fun d v52 w' => ∃ i : Int, (i = 0 ∨ i = 1 ∨ i = 2 ∨ i = 3) ∧ (3 - i).toNat = d ∧ v52 = .int .i64 i ∧ Aside0 (Below WL.heap.size WL w') ∧ Aside0 (([o0, K, a4].drop i.toNat).find? (openB a0_0 a0_1 l0_2 l0_3 a0_4 a0_5 l0_6 l1 a2 a3) = F1))
 case atStart => exact ⟨0, .inl rfl, rfl, rfl, ⟨by rw [← hWL]; exact Below.refl _ _⟩, HF1⟩
 case round =>
  clear HF1
  obtain ⟨i, hi, hd, rfl, HW, HF⟩ := hrel
  have BRW := am_ (kb_ BR.out HW.out)
  have z0 := bc_ BRW.out 0
  have z1 := bc_ BRW.out 1
  have z2 := bc_ BRW.out 2
  rcases hi with rfl | rfl | rfl | rfl
  ·cases hb : openB a0_0 a0_1 l0_2 l0_3 a0_4 a0_5 l0_6 l1 a2 a3 o0 with
   | true =>
    have HX := am_ (show F1 = some o0 by rw [← HF.out]; show List.find? _ ([o0, K, a4]) = _; rw [List.find?_cons, hb])
    have CO := am_ (fun W hbw => COP.out o0 true hb W hbw)
    clear HF hb
    go_wp2_with (first | (go_at_call 41; (with_reducible refine (CO.out _ HW.out).mono ?_); rintro e w5 ⟨rfl, hb2⟩; replace HW := am_ (bt_ HW.out hb2); clear hb2))
    have HV := HPV.out
    rw [HX.out] at HV
    go_ret2
    exact ⟨by (have e1 := (Prod.mk.inj HV).1; have e2 := (Prod.mk.inj HV).2; first | (rw [← e1, ← e2]; done) | (rw [← e1, ← e2]; rfl)), bt_ HBL.out HW.out⟩
   | false =>
    have HX := am_ (show ([o0, K, a4].drop 1).find? (openB a0_0 a0_1 l0_2 l0_3 a0_4 a0_5 l0_6 l1 a2 a3) = F1 by rw [← HF.out]; show _ = List.find? _ ([o0, K, a4]); rw [List.find?_cons, hb]; rfl)
    have CO := am_ (fun W hbw => COP.out o0 false hb W hbw)
    clear HF hb
    go_wp2_with (first | (go_at_call 41; (with_reducible refine (CO.out _ HW.out).mono ?_); rintro e w5 ⟨rfl, hb2⟩; replace HW := am_ (bt_ HW.out hb2); clear hb2))
    go_roundg 2
    case measure => first | omega | (simp; omega)
    case rel => exact ⟨1, by omega, rfl, by first | rfl | go_num, HW, HX⟩
  ·cases hb : openB a0_0 a0_1 l0_2 l0_3 a0_4 a0_5 l0_6 l1 a2 a3 K with
   | true =>
    have HX := am_ (show F1 = some K by rw [← HF.out]; show List.find? _ ([K, a4]) = _; rw [List.find?_cons, hb])
    have CO := am_ (fun W hbw => COP.out K true hb W hbw)
    clear HF hb
    go_wp2_with (first | (go_at_call 41; (with_reducible refine (CO.out _ HW.out).mono ?_); rintro e w5 ⟨rfl, hb2⟩; replace HW := am_ (bt_ HW.out hb2); clear hb2))
    have HV := HPV.out
    rw [HX.out] at HV
    go_ret2
    exact ⟨by (have e1 := (Prod.mk.inj HV).1; have e2 := (Prod.mk.inj HV).2; first | (rw [← e1, ← e2]; done) | (rw [← e1, ← e2]; rfl)), bt_ HBL.out HW.out⟩
   | false =>
    have HX := am_ (show ([o0, K, a4].drop 2).find? (openB a0_0 a0_1 l0_2 l0_3 a0_4 a0_5 l0_6 l1 a2 a3) = F1 by rw [← HF.out]; show _ = List.find? _ ([K, a4]); rw [List.find?_cons, hb]; rfl)
    have CO := am_ (fun W hbw => COP.out K false hb W hbw)
    clear HF hb
    go_wp2_with (first | (go_at_call 41; (with_reducible refine (CO.out _ HW.out).mono ?_); rintro e w5 ⟨rfl, hb2⟩; replace HW := am_ (bt_ HW.out hb2); clear hb2))
    go_roundg 1
    case measure => first | omega | (simp; omega)
    case rel => exact ⟨2, by omega, rfl, by first | rfl | go_num, HW, HX⟩
  ·cases hb : openB a0_0 a0_1 l0_2 l0_3 a0_4 a0_5 l0_6 l1 a2 a3 a4 with
   | true =>
    have HX := am_ (show F1 = some a4 by rw [← HF.out]; show List.find? _ ([a4]) = _; rw [List.find?_cons, hb])
    have CO := am_ (fun W hbw => COP.out a4 true hb W hbw)
    clear HF hb
    go_wp2_with (first | (go_at_call 41; (with_reducible refine (CO.out _ HW.out).mono ?_); rintro e w5 ⟨rfl, hb2⟩; replace HW := am_ (bt_ HW.out hb2); clear hb2))
    have HV := HPV.out
    rw [HX.out] at HV
    go_ret2
    exact ⟨by (have e1 := (Prod.mk.inj HV).1; have e2 := (Prod.mk.inj HV).2; first | (rw [← e1, ← e2]; done) | (rw [← e1, ← e2]; rfl)), bt_ HBL.out HW.out⟩
   | false =>
    have HX := am_ (show ([o0, K, a4].drop 3).find? (openB a0_0 a0_1 l0_2 l0_3 a0_4 a0_5 l0_6 l1 a2 a3) = F1 by rw [← HF.out]; show _ = List.find? _ ([a4]); rw [List.find?_cons, hb]; rfl)
    have CO := am_ (fun W hbw => COP.out a4 false hb W hbw)
    clear HF hb
    go_wp2_with (first | (go_at_call 41; (with_reducible refine (CO.out _ HW.out).mono ?_); rintro e w5 ⟨rfl, hb2⟩; replace HW := am_ (bt_ HW.out hb2); clear hb2))
    go_roundg 0
    case measure => first | omega | (simp; omega)
    case rel => exact ⟨3, by omega, rfl, by first | rfl | go_num, HW, HX⟩
  ·have HX := am_ (show F1 = none by rw [← HF.out]; rfl)
   clear HF
   have HV := HPV.out
   rw [HX.out] at HV
   replace HV := am_ HV
   clear HX HPV z0 z1 z2
   go_wp2_with (first | (go_at_call 42; (with_reducible refine (CF1.out _ HW.out).mono ?_); rintro e w6 ⟨rfl, hb2⟩; replace HW := am_ (bt_ HW.out hb2); clear hb2) | (go_at_call 42; (with_reducible refine (CF2.out _ HW.out).mono ?_); rintro e w7 ⟨rfl, hb2⟩; replace HW := am_ (bt_ HW.out hb2); clear hb2) | (go_at_call 46; (with_reducible refine (CE.out _ HW.out).mono ?_); rintro e w8 ⟨rfl, hb2⟩; replace HW := am_ (bt_ HW.out hb2); clear hb2))
   obtain ⟨WM, hWM⟩ : ∃ WM, w8.alloc (.cells #[.int .i64 q0, .int .i64 q1, .int .i64 q2] 3) = WM := ⟨_, rfl⟩
   have HBM := am_ (show Below w.heap.size w WM by rw [← hWM]; exact p3_ (bt_ HBL.out HW.out) _)
   have BR2 := am_ (show WM.heap[w8.heap.size]? = some (.cells #[.int .i64 q0, .int .i64 q1, .int .i64 q2] 3) by rw [← hWM]; exact blk_new w8 _)
   clear COP CF1 CF2 CE BR HW HBL
   go_loopg [72] 3 (fun d v72 w' => ∃ i : Int, (i = 0 ∨ i = 1 ∨ i = 2 ∨ i = 3) ∧ (3 - i).toNat = d ∧ v72 = .int .i64 i ∧ Aside0 (Below WM.heap.size WM w') ∧ Aside0 (([q0, q1, q2].drop i.toNat).find? (fun h => decide (h > 0)) = F2))
   case atStart => exact ⟨0, .inl rfl, rfl, rfl, ⟨by rw [← hWM]; exact Below.refl _ _⟩, HF2⟩
   case round =>
    clear HF2
    obtain ⟨i, hi, hd, rfl, HZ, HF⟩ := hrel
    have BRW := am_ (kb_ BR2.out HZ.out)
    have z0 := bc_ BRW.out 0
    have z1 := bc_ BRW.out 1
    have z2 := bc_ BRW.out 2
    rcases hi with rfl | rfl | rfl | rfl
    ·by_cases hb : 0 < q0
     ·have hbb : decide (0 < q0) = true := decide_eq_true hb
      have HX := am_ (show F2 = some q0 by rw [← HF.out]; show List.find? _ [q0, q1, q2] = _; rw [List.find?_cons, show decide (q0 > 0) = true from hbb])
      clear HF
      have HV2 := HV.out
      rw [HX.out] at HV2
      have e1 := am_ (Prod.mk.inj HV2).1
      have e2 := am_ (Prod.mk.inj HV2).2
      clear HV2
      go_wp2
      go_ret2
      exact ⟨by (first | (rw [← e1.out, ← e2.out]; done) | (rw [← e1.out, ← e2.out]; rfl)), bt_ HBM.out HZ.out⟩
     ·have hbb : decide (0 < q0) = false := decide_eq_false hb
      have HX := am_ (show ([q0, q1, q2].drop 1).find? (fun h => decide (h > 0)) = F2 by rw [← HF.out]; show _ = List.find? _ [q0, q1, q2]; rw [List.find?_cons, show decide (q0 > 0) = false from hbb]; rfl)
      clear HF
      go_wp2
      go_roundg 2
      case measure => first | omega | (simp; omega)
      case rel => exact ⟨1, by omega, rfl, by first | rfl | go_num, HZ, HX⟩
    ·by_cases hb : 0 < q1
     ·have hbb : decide (0 < q1) = true := decide_eq_true hb
      have HX := am_ (show F2 = some q1 by rw [← HF.out]; show List.find? _ [q1, q2] = _; rw [List.find?_cons, show decide (q1 > 0) = true from hbb])
      clear HF
      have HV2 := HV.out
      rw [HX.out] at HV2
      have e1 := am_ (Prod.mk.inj HV2).1
      have e2 := am_ (Prod.mk.inj HV2).2
      clear HV2
      go_wp2
      go_ret2
      exact ⟨by (first | (rw [← e1.out, ← e2.out]; done) | (rw [← e1.out, ← e2.out]; rfl)), bt_ HBM.out HZ.out⟩
     ·have hbb : decide (0 < q1) = false := decide_eq_false hb
      have HX := am_ (show ([q0, q1, q2].drop 2).find? (fun h => decide (h > 0)) = F2 by rw [← HF.out]; show _ = List.find? _ [q1, q2]; rw [List.find?_cons, show decide (q1 > 0) = false from hbb]; rfl)
      clear HF
      go_wp2
      go_roundg 1
      case measure => first | omega | (simp; omega)
      case rel => exact ⟨2, by omega, rfl, by first | rfl | go_num, HZ, HX⟩
    ·by_cases hb : 0 < q2
     ·have hbb : decide (0 < q2) = true := decide_eq_true hb
      have HX := am_ (show F2 = some q2 by rw [← HF.out]; show List.find? _ [q2] = _; rw [List.find?_cons, show decide (q2 > 0) = true from hbb])
      clear HF
      have HV2 := HV.out
      rw [HX.out] at HV2
      have e1 := am_ (Prod.mk.inj HV2).1
      have e2 := am_ (Prod.mk.inj HV2).2
      clear HV2
      go_wp2
      go_ret2
      exact ⟨by (first | (rw [← e1.out, ← e2.out]; done) | (rw [← e1.out, ← e2.out]; rfl)), bt_ HBM.out HZ.out⟩
     ·have hbb : decide (0 < q2) = false := decide_eq_false hb
      have HX := am_ (show ([q0, q1, q2].drop 3).find? (fun h => decide (h > 0)) = F2 by rw [← HF.out]; show _ = List.find? _ [q2]; rw [List.find?_cons, show decide (q2 > 0) = false from hbb]; rfl)
      clear HF
      go_wp2
      go_roundg 0
      case measure => first | omega | (simp; omega)
      case rel => exact ⟨3, by omega, rfl, by first | rfl | go_num, HZ, HX⟩
    ·have HX := am_ (show F2 = none by rw [← HF.out]; rfl)
     clear HF
     have HV2 := HV.out
     rw [HX.out] at HV2
     have e1 := am_ (Prod.mk.inj HV2).1
     have e2 := am_ (Prod.mk.inj HV2).2
     clear HV2
     go_wp2
     go_ret2
     exact ⟨by (first | (rw [← e1.out, ← e2.out]; done) | (rw [← e1.out, ← e2.out]; rfl)), bt_ HBM.out HZ.out⟩

/-! ### lease_Early: function 19 -/
def lease_Early.f (a0 : Int) : Option (Bool) := (lease_Time_c.f a0).bind fun t144 => (if t144 = true then (some (decide (a0 ≤ 1099510579200))) else (some false))
set_option maxHeartbeats 8000000 in
set_option maxRecDepth 100000 in
theorem lease_Early.calls (a0 : Int) (r : Bool) (w : World) (h : lease_Early.f a0 = some r) :
  Calls Tryz.prog 19 #[.int .i64 a0] w fun e w' => e = .returned (.bool r) ∧ Drawn0 w w' := by
 have H : ((lease_Time_c.f a0).bind fun t144 => (if t144 = true then (some (decide (a0 ≤ 1099510579200))) else (some false))) = some r := h
 clear h
 replace H := e4_ H
 obtain ⟨t144, A20, H⟩ := H
 replace H : (if t144 = true then (some (decide (a0 ≤ 1099510579200))) else (some false)) = some r := H
 have A2 := am_ A20
 clear A20
 by_cases c3 : t144 = true
 ·subst c3
  have H1 : (some (decide (a0 ≤ 1099510579200))) = some r := by rw [if_pos rfl] at H; exact H
  clear H
  have H := H1
  clear H1
  obtain rfl := e5_ H
  go_enter Tryz.func19, Tryz.ntmps19
  go_wp2_with (first | ((with_reducible refine gate_callee (f := 47) rfl ?_); refine goesL_ (some 4) rfl rfl Tryz.func47 (by kernel_rfl) rfl #[.int .i64 a0] rfl (by (try simp only [List.map_toArray, List.map_cons, List.map_nil]); first | done | rfl | (simp only [List.length_drop, List.length_take]; rfl)) ?_; (with_reducible refine (lease_Time_c.calls a0 true _ A2.out).mono ?_); rintro e w' ⟨rfl, ⟨nd, rfl⟩⟩; refine ⟨_, rfl, ?_⟩))
  go_ret
  exact ⟨by first | rfl | (simp; done) | (simp [*]; done), by repeat (first | exact Drawn0.refl _ | apply Drawn0.step)⟩
 replace c3 := e3_ c3
 subst c3
 have H1 : (some false) = some r := by rw [if_neg (show ¬ (false = true) by decide)] at H; exact H
 clear H
 have H := H1
 clear H1
 obtain rfl := e5_ H
 go_enter Tryz.func19, Tryz.ntmps19
 go_wp2_with (first | ((with_reducible refine gate_callee (f := 47) rfl ?_); refine goesL_ (some 4) rfl rfl Tryz.func47 (by kernel_rfl) rfl #[.int .i64 a0] rfl (by (try simp only [List.map_toArray, List.map_cons, List.map_nil]); first | done | rfl | (simp only [List.length_drop, List.length_take]; rfl)) ?_; (with_reducible refine (lease_Time_c.calls a0 false _ A2.out).mono ?_); rintro e w' ⟨rfl, ⟨nd, rfl⟩⟩; refine ⟨_, rfl, ?_⟩))
 go_ret
 exact ⟨by first | rfl | (simp; done) | (simp [*]; done), by repeat (first | exact Drawn0.refl _ | apply Drawn0.step)⟩

/-! ### lease_Early_c: function 19 -/
def lease_Early_c.f (a0 : Int) : Option Bool := some (decide (0 ≤ a0 ∧ a0 ≤ 1099510579200))
theorem lease_Early_c.calls (a0 : Int) (r : Bool) (w : World) (h : lease_Early_c.f a0 = some r) :
  Calls Tryz.prog 19 #[.int .i64 a0] w fun e w' => e = .returned (.bool r) ∧ Drawn0 w w' := by
 refine lease_Early.calls a0 r w ?_
 rw [← h]
 unfold lease_Early.f lease_Early_c.f lease_Time_c.f
 rw [Option.bind_some]
 by_cases q : 0 ≤ a0 ∧ a0 ≤ 1099511627776
 ·rw [if_pos (decide_eq_true q)]
  congr 1
  rw [Bool.eq_iff_iff, decide_eq_true_eq, decide_eq_true_eq]
  omega
 ·rw [if_neg (by simpa using q)]
  congr 1
  symm
  rw [decide_eq_false_iff_not]
  omega

/-! ### lease_Freed: function 49 -/
def lease_Freed.f (a0_0 : Int) (a0_1 : Int) (a0_2 : ByteArray) (a0_3 : Int) (a0_4 : ByteArray) (a0_5 : Bool) : Option (Int × Int × ByteArray × Int × ByteArray × Bool) := some (a0_0, 0, a0_2, a0_3, (⟨#[]⟩ : ByteArray), false)
set_option maxHeartbeats 8000000 in
set_option maxRecDepth 100000 in
theorem lease_Freed.calls (a0_0 : Int) (a0_1 : Int) (a0_2 : ByteArray) (a0_3 : Int) (a0_4 : ByteArray) (a0_5 : Bool) (r1 : Int) (r2 : Int) (r3 : ByteArray) (r4 : Int) (r5 : ByteArray) (r6 : Bool) (w : World) (h : lease_Freed.f a0_0 a0_1 a0_2 a0_3 a0_4 a0_5 = some (r1, r2, r3, r4, r5, r6)) :
  Calls Tryz.prog 49 #[.agg #[.int .i64 a0_0, .int .i64 a0_1, .string a0_2, .int .i64 a0_3, .string a0_4, .bool a0_5]] w fun e w' => e = .returned (.agg #[.int .i64 r1, .int .i64 r2, .string r3, .int .i64 r4, .string r5, .bool r6]) ∧ Below w.heap.size w w' := by
 have hu44 := Tryz.underlying44
 have HB := am_ (Below.refl w.heap.size w)
 have H : (some (a0_0, 0, a0_2, a0_3, (⟨#[]⟩ : ByteArray), false)) = some (r1, r2, r3, r4, r5, r6) := h
 clear h
 simp only [Option.some.injEq, Prod.mk.injEq] at H
 obtain ⟨rfl, rfl, rfl, rfl, rfl, rfl⟩ := H
 go_enter Tryz.func49, Tryz.ntmps49
 go_wp2_with (first | ((with_reducible refine gate_dst (N := 1) rfl ?_); refine box_event ?hg (N := 1) ?hd (cs := #[.int .i64 a0_0, .int .i64 a0_1, .string a0_2, .int .i64 a0_3, .string a0_4, .bool a0_5]) (t := 44) ?hr ?_; (case hd => rfl); (case hg => rfl); (case hr => first | (go_simp; done) | (go_simp; rfl)); intro gb145 hg w2 hbox hb; have n0_ := am_ (bt_ (by repeat (with_reducible first | exact HB.out | apply p3_ | apply p1_ | apply p2_)) hb); have n1_ := am_ (hbox); have n2_ := am_ ((by rw [hg]; exact (bz_ (by repeat (with_reducible first | exact HB.out | apply p3_ | apply p1_ | apply p2_))) : w.heap.size ≤ gb145)); have n3_ := am_ ((by rw [hg]; exact (bz_ (by repeat (with_reducible first | exact HB.out | apply p3_ | apply p1_ | apply p2_))) : w.heap.size ≤ gb145)); clear HB; have HB := n0_; have BK145 := n1_; have GW145 := n2_; have GE145 := n3_; clear n0_ n1_ n2_ n3_; clear hb hbox hg) | ((with_reducible refine gate_dst (N := 2) rfl ?_); refine box_event ?hg (N := 2) ?hd (cs := #[.int .i64 0, .int .i64 0, .string (⟨#[]⟩ : ByteArray), .int .i64 0, .string (⟨#[]⟩ : ByteArray), .bool false]) (t := 44) ?hr ?_; (case hd => rfl); (case hg => rfl); (case hr => first | (go_simp; done) | (go_simp; rfl)); intro gb146 hg w3 hbox hb; have n0_ := am_ (kb_ (g := gb145) (o := .cells #[.int .i64 a0_0, .int .i64 a0_1, .string a0_2, .int .i64 a0_3, .string a0_4, .bool a0_5] 44 (0, 0)) (by (with_reducible repeat (first | refine k2_ ?_ _ | refine k3_ ?_ | refine k1_ ?_ _)); exact BK145.out) hb); have n1_ := am_ (bt_ (by repeat (with_reducible first | exact HB.out | apply p3_ | apply p1_ | apply p2_ | refine bs_ ?_ GE145.out)) hb); have n2_ := am_ (hbox); have n3_ := am_ ((by rw [hg]; exact (bz_ (by repeat (with_reducible first | exact HB.out | apply p3_ | apply p1_ | apply p2_ | refine bs_ ?_ GE145.out))) : w.heap.size ≤ gb146)); have n4_ := am_ ((by rw [hg]; exact (bz_ (by repeat (with_reducible first | exact HB.out | apply p3_ | apply p1_ | apply p2_ | refine bs_ ?_ GE145.out))) : w.heap.size ≤ gb146)); have n5_ := am_ ((by rw [hg]; exact Nat.ne_of_lt (blk_lt (g := gb145) (o := .cells #[.int .i64 a0_0, .int .i64 a0_1, .string a0_2, .int .i64 a0_3, .string a0_4, .bool a0_5] 44 (0, 0)) (by (with_reducible repeat (first | refine k2_ ?_ _ | refine k3_ ?_ | refine k1_ ?_ _)); exact BK145.out)) : gb145 ≠ gb146)); have n6_ := am_ ((by rw [hg]; exact Nat.ne_of_gt (blk_lt (g := gb145) (o := .cells #[.int .i64 a0_0, .int .i64 a0_1, .string a0_2, .int .i64 a0_3, .string a0_4, .bool a0_5] 44 (0, 0)) (by (with_reducible repeat (first | refine k2_ ?_ _ | refine k3_ ?_ | refine k1_ ?_ _)); exact BK145.out)) : gb146 ≠ gb145)); clear BK145; clear HB; have BK145 := n0_; have HB := n1_; have BK146 := n2_; have GW146 := n3_; have GE146 := n4_; have NB145_146 := n5_; have NB146_145 := n6_; clear n0_ n1_ n2_ n3_ n4_ n5_ n6_; clear hb hbox hg; have hnb4 := NB145_146.out; have hnc4 := NB146_145.out; have hcz5_0 : w3.cell? ⟨gb145, 0, none⟩ = some (.int .i64 a0_0) := (bc_ BK145.out 0).trans rfl; have hcz5_1 : w3.cell? ⟨gb145, 1, none⟩ = some (.int .i64 a0_1) := (bc_ BK145.out 1).trans rfl; have hcz5_2 : w3.cell? ⟨gb145, 2, none⟩ = some (.string a0_2) := (bc_ BK145.out 2).trans rfl; have hcz5_3 : w3.cell? ⟨gb145, 3, none⟩ = some (.int .i64 a0_3) := (bc_ BK145.out 3).trans rfl; have hcz5_4 : w3.cell? ⟨gb145, 4, none⟩ = some (.string a0_4) := (bc_ BK145.out 4).trans rfl; have hcz5_5 : w3.cell? ⟨gb145, 5, none⟩ = some (.bool a0_5) := (bc_ BK145.out 5).trans rfl; have hfz5_0 := bf_ BK145.out 0; have hfz5_1 := bf_ BK145.out 1; have hfz5_2 := bf_ BK145.out 2; have hfz5_3 := bf_ BK145.out 3; have hfz5_4 := bf_ BK145.out 4; have hfz5_5 := bf_ BK145.out 5; have hcz6_0 : w3.cell? ⟨gb146, 0, none⟩ = some (.int .i64 0) := (bc_ BK146.out 0).trans rfl; have hcz6_1 : w3.cell? ⟨gb146, 1, none⟩ = some (.int .i64 0) := (bc_ BK146.out 1).trans rfl; have hcz6_2 : w3.cell? ⟨gb146, 2, none⟩ = some (.string (⟨#[]⟩ : ByteArray)) := (bc_ BK146.out 2).trans rfl; have hcz6_3 : w3.cell? ⟨gb146, 3, none⟩ = some (.int .i64 0) := (bc_ BK146.out 3).trans rfl; have hcz6_4 : w3.cell? ⟨gb146, 4, none⟩ = some (.string (⟨#[]⟩ : ByteArray)) := (bc_ BK146.out 4).trans rfl; have hcz6_5 : w3.cell? ⟨gb146, 5, none⟩ = some (.bool false) := (bc_ BK146.out 5).trans rfl; have hfz6_0 := bf_ BK146.out 0; have hfz6_1 := bf_ BK146.out 1; have hfz6_2 := bf_ BK146.out 2; have hfz6_3 := bf_ BK146.out 3; have hfz6_4 := bf_ BK146.out 4; have hfz6_5 := bf_ BK146.out 5))
 refine bodyPost_ret (results_cell_row rfl _ _ gb146 44 #[.int .i64 a0_0, .int .i64 0, .string a0_2, .int .i64 a0_3, .string (⟨#[]⟩ : ByteArray), .bool false] (0, 0) _ rfl (by (with_reducible repeat (first | refine k2_ ?_ _ | refine k3_ ?_ | refine k1_ ?_ _)); refine blk_put (cs := #[.int .i64 a0_0, .int .i64 0, .string a0_2, .int .i64 a0_3, .string (⟨#[]⟩ : ByteArray), .bool false]) ?_ 5 _ rfl; (with_reducible repeat (first | refine k2_ ?_ _ | refine k3_ ?_ | refine k1_ ?_ _)); refine blk_put (cs := #[.int .i64 a0_0, .int .i64 0, .string a0_2, .int .i64 a0_3, .string (⟨#[]⟩ : ByteArray), .bool false]) ?_ 4 _ rfl; (with_reducible repeat (first | refine k2_ ?_ _ | refine k3_ ?_ | refine k1_ ?_ _)); refine blk_put (cs := #[.int .i64 a0_0, .int .i64 0, .string a0_2, .int .i64 0, .string (⟨#[]⟩ : ByteArray), .bool false]) ?_ 3 _ rfl; (with_reducible repeat (first | refine k2_ ?_ _ | refine k3_ ?_ | refine k1_ ?_ _)); refine blk_put (cs := #[.int .i64 a0_0, .int .i64 0, .string (⟨#[]⟩ : ByteArray), .int .i64 0, .string (⟨#[]⟩ : ByteArray), .bool false]) ?_ 2 _ rfl; (with_reducible repeat (first | refine k2_ ?_ _ | refine k3_ ?_ | refine k1_ ?_ _)); refine blk_put (cs := #[.int .i64 a0_0, .int .i64 0, .string (⟨#[]⟩ : ByteArray), .int .i64 0, .string (⟨#[]⟩ : ByteArray), .bool false]) ?_ 1 _ rfl; (with_reducible repeat (first | refine k2_ ?_ _ | refine k3_ ?_ | refine k1_ ?_ _)); refine blk_put (cs := #[.int .i64 0, .int .i64 0, .string (⟨#[]⟩ : ByteArray), .int .i64 0, .string (⟨#[]⟩ : ByteArray), .bool false]) ?_ 0 _ rfl; (with_reducible repeat (first | refine k2_ ?_ _ | refine k3_ ?_ | refine k1_ ?_ _)); exact BK146.out) Tryz.underlying44 rfl (by kernel_rfl)) rfl ?_
 exact ⟨by first | rfl | (simp [errW_none, errW_some] <;> rfl) | (simp [*, errW_none, errW_some] <;> rfl), by repeat (with_reducible first | exact HB.out | apply p3_ | apply p1_ | apply p2_ | refine bs_ ?_ GE145.out | refine bs_ ?_ GE146.out)⟩

end Go.Proofs.YtdhckibkljafgaaGreatDoor.PI
