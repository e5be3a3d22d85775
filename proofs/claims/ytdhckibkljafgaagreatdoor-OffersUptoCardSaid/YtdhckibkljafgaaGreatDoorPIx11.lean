-- Made by wip/pr.py out of the translation (a turned copy of the kit's print; contracts by hand where said).
import Derived.Test.YtdhckibkljafgaaGreatDoorPIx0
import Derived.Test.YtdhckibkljafgaaGreatDoorPIx4
import Derived.Test.YtdhckibkljafgaaGreatDoorPIx6
import Derived.Test.YtdhckibkljafgaaGreatDoorPIx7
import Derived.Test.YtdhckibkljafgaaGreatDoorPIx8
namespace Go.Proofs.YtdhckibkljafgaaGreatDoor.PI
open Go.RowKit Go.Proofs.YtdhckibkljafgaaGreatDoorW.PrintWords Go.Proofs.YtdhckibkljafgaaGreatDoorW.PrintLast Go.Proofs.YtdhckibkljafgaaGreatDoorW.PrintMore
-- shrunk
attribute [local go_sem] max2_int min2_int max_two min_two max_three min_three max_four min_four   -- for this text's walks alone
set_option linter.unusedVariables false
set_option linter.unusedSimpArgs false

/-! ### offer_Drop: function 20 -/
-- BY HAND
-- 48 49
theorem offer_Drop.info : (Tryz.prog.info? 44).map (fun i => (i.zero, i.size, i.bytes)) = some (some (.agg #[.int .i64 0, .int .i64 0, .string ⟨#[]⟩, .int .i64 0, .string ⟨#[]⟩, .bool false]), 6, 64) := by kernel_rfl
theorem drop_step (p : S44 → Bool) (c : ByteArray) (now but : Int) (l : List S44) (i : Nat) (h : i < l.length) : dropL p c now but (l.take (i + 1)) = dropL p c now but (l.take i) ++ [if dropX p c now but l[i] = true then freedX l[i] else l[i]] := by
 unfold dropL
 rw [List.take_succ_eq_append_getElem h, List.map_append]
 rfl
set_option maxHeartbeats 8000000 in
set_option maxRecDepth 100000 in
theorem offer_Drop.freed (x0 x1 : Int) (x2 : ByteArray) (x3 : Int) (x4 : ByteArray) (x5 : Bool) (w : World) :
  Calls Tryz.prog 49 #[.agg #[.int .i64 x0, .int .i64 x1, .string x2, .int .i64 x3, .string x4, .bool x5]] w fun e w' => e = .returned (.agg #[.int .i64 x0, .int .i64 0, .string x2, .int .i64 x3, .string (⟨#[]⟩ : ByteArray), .bool false]) ∧ Below w.heap.size w w' := by
 go_enter Tryz.func49, Tryz.ntmps49
 go_wp2
 exact bodyPost_ret (v := .agg #[.int .i64 x0, .int .i64 0, .string x2, .int .i64 x3, .string (⟨#[]⟩ : ByteArray), .bool false]) (by simp [results, Tryz.results49, go_sem]) rfl ⟨rfl, by repeat (first | exact Below.refl _ _ | apply p3_)⟩
set_option maxHeartbeats 8000000 in
set_option maxRecDepth 100000 in
theorem offer_Drop.calls (p : S44 → Bool) (G : Nat) (lb : Array Value) (A1 : Option Addr) (c1 : Nat) (l1 : List S44) (now : Int) (client : ByteArray) (but : Int) (w : World) (hr1 : Kd.C k44 w A1 l1.length l1) (hc1 : l1.length ≤ c1) (hs : l1.length ≤ 1099511627776 ∧ ∀ x ∈ l1, x.f4.size ≤ 140737488351232)
  (eg : ∀ args w, (callFunc G args).run Tryz.prog w = .ok (.enter G args) w)
  (hp : ∀ (W : World) (gl : Nat) (x : S44), W.heap[gl]? = some (.cells #[.int .i64 x.f0, .int .i64 x.f1, .string x.f2, .int .i64 x.f3, .string x.f4, .bool x.f5] 44) → Calls Tryz.prog G (#[.pointer (some ⟨gl, 0, none⟩)] ++ lb) W fun e w' => e = .returned (.bool (p x)) ∧ Below W.heap.size W w') :
  Calls Tryz.prog 20 #[.slice A1 l1.length c1, .int .i64 now, .string client, .int .i64 but, .func (.func G) #[] lb] w fun e w' => ∃ v0_ : Value, e = .returned v0_ ∧ Kd.R k44 44 w' w.heap.size (fun _ => True) v0_ (dropL p client now but l1) ∧ Below w.heap.size w w' := by
 have HR1 := am_ hr1
 have HX := am_ hs.2
 have hl := hs.1
 have HP := am_ hp
 have HB := am_ (Below.refl w.heap.size w)
 have CF := am_ (fun x0 x1 x2 x3 x4 x5 W => offer_Drop.freed x0 x1 x2 x3 x4 x5 W)
 clear hr1 hc1 hs hp
 go_enter Tryz.func20, Tryz.ntmps20
 go_wp2
 go_loopg [11, 16] l1.length (fun d v11 v16 w' => ∃ i : Nat, i + d = l1.length ∧ v16 = .int .i64 (i : Int) ∧ Aside0 (Below w.heap.size w w') ∧ Aside0 (Kd.R k44 44 w' w.heap.size (fun _ => True) v11 (dropL p client now but (l1.take i))))
 case atStart => exact ⟨0, by omega, rfl, HB, ⟨Kd.R_nil _ _ _ _ _⟩⟩
 case round =>
  clear HB
  obtain ⟨i, hd, rfl, HB, HO⟩ := hrel
  by_cases hlt : i < l1.length
  ·have hlz : (i : Int) < (l1.length : Int) := by omega
   obtain ⟨ad, e1, hw0, hw1, hw2, hw3, hw4, hw5⟩ := at_T44 HR1.out (i : Int) (by omega) hlz
   cases e1
   rw [Int.toNat_natCast] at hw0 hw1 hw2 hw3 hw4 hw5
   have hx0 := (HB.out.cell (wb_ w _ hw0)).trans hw0; have hx1 := (HB.out.cell (wb_ w _ hw1)).trans hw1; have hx2 := (HB.out.cell (wb_ w _ hw2)).trans hw2; have hx3 := (HB.out.cell (wb_ w _ hw3)).trans hw3; have hx4 := (HB.out.cell (wb_ w _ hw4)).trans hw4; have hx5 := (HB.out.cell (wb_ w _ hw5)).trans hw5
   have hmem := (dropLease l1 (i : Int) (by omega) hlz).2
   have hsz := HX.out _ hmem
   have hrd : rd_T44 l1 (i : Int) = l1[i] := by
    unfold rd_T44
    rw [Int.toNat_natCast, List.getD_eq_getElem?_getD, List.getElem?_eq_getElem hlt]
    rfl
   have hst := drop_step p client now but l1 i hlt
   rw [← hrd] at hst
   clear hmem hrd hw0 hw1 hw2 hw3 hw4 hw5
   generalize rd_T44 l1 (i : Int) = x at hx0 hx1 hx2 hx3 hx4 hx5 hsz hst
   obtain ⟨x0, x1, x2, x3, x4, x5⟩ := x
   simp only at hx0 hx1 hx2 hx3 hx4 hx5 hsz
   obtain ⟨bh, hbh⟩ : ∃ b, holdsB x0 x1 x2 x3 x4 x5 client now = b := ⟨_, rfl⟩
   obtain ⟨bp, hbp⟩ : ∃ b, p ⟨x0, x1, x2, x3, x4, x5⟩ = b := ⟨_, rfl⟩
   have hdx : dropX p client now but ⟨x0, x1, x2, x3, x4, x5⟩ = (decide (x0 ≠ but) && (bh && bp)) := by rw [← hbh, ← hbp]; rfl
   rw [hdx] at hst
   have CH := am_ (fun W (gl : Nat) (bx : W.heap[gl]? = some (.cells #[.int .i64 x0, .int .i64 x1, .string x2, .int .i64 x3, .string x4, .bool x5] 44)) => lease_Holds.calls gl x0 x1 x2 x3 x4 x5 client now bh W bx hsz hbh)
   have HPx := am_ (fun W (gl : Nat) (bx : W.heap[gl]? = some (.cells #[.int .i64 x0, .int .i64 x1, .string x2, .int .i64 x3, .string x4, .bool x5] 44)) => HP.out W gl ⟨x0, x1, x2, x3, x4, x5⟩ bx)
   rw [hbp] at HPx
   have hlen : (dropL p client now but (l1.take i)).length ≤ i := by unfold dropL; rw [List.length_map, List.length_take]; omega
   have LEN := am_ (show ((dropL p client now but (l1.take i)).length + 1) * 64 ≤ 140737488355328 by omega)
   have BX := am_ (blk_new wr (.cells #[.int .i64 x0, .int .i64 x1, .string x2, .int .i64 x3, .string x4, .bool x5] 44))
   clear hbh hbp hdx hsz hlen
   generalize dropL p client now but (l1.take i) = acc at hst HO LEN
   by_cases q0 : x0 = but
   ·subst q0
    have qb : (x0 == x0) = true := by simp
    have HST := am_ (show dropL p client now x0 (l1.take (i + 1)) = acc ++ [(⟨x0, x1, x2, x3, x4, x5⟩ : S44)] by rw [hst, decide_eq_false (fun e => e rfl), Bool.false_and]; rfl)
    clear hst CH HPx CF
    go_upto_region 5 with (fail)
    replace HB := am_ (p3_ HB.out (.cells #[.int .i64 x0, .int .i64 x1, .string x2, .int .i64 x3, .string x4, .bool x5] 44))
    replace HO := am_ (r1_ HO.out (.cells #[.int .i64 x0, .int .i64 x1, .string x2, .int .i64 x3, .string x4, .bool x5] 44))
    clear hx0 hx1 hx2 hx3 hx4 hx5
    generalize wr.alloc (.cells #[.int .i64 x0, .int .i64 x1, .string x2, .int .i64 x3, .string x4, .bool x5] 44) = w2 at HB BX HO ⊢
    have v0 := bc_ BX.out 0; have v1 := bc_ BX.out 1; have v2 := bc_ BX.out 2; have v3 := bc_ BX.out 3; have v4 := bc_ BX.out 4; have v5 := bc_ BX.out 5
    go_wp2_with (first | ((with_reducible refine gate_builtin (b := .append) (xs := #[.tmp 35, .tmp 37]) rfl ?_); at_builtin; refine Kd.R_append k44 (w0 := w) w.heap.size rfl (.tmp 35) (.tmp 37) 27 44 (.agg #[(.int .i64 0), (.int .i64 0), (.string ⟨#[]⟩), (.int .i64 0), (.string ⟨#[]⟩), (.bool false)]) 64 rfl Tryz.underlying27 offer_Drop.info rfl (by decide) (by omega) u11 acc (⟨x0, x1, x2, x3, x4, x5⟩ : S44) [.int .i64 x0, .int .i64 x1, .string x2, .int .i64 x3, .string x4, .bool x5] (fun _ => True) (fun _ => False) rfl rfl ?aP (fun _ hk => hk.elim) ?aF ?aO ?aB ?aS ?aL ?_; (case aP => exact k44_mkM _ _ _ (⟨x0, x1, x2, x3, x4, x5⟩ : S44)); (case aF => exact (fun _ _ => trivial)); (case aO => exact (by (with_reducible repeat (first | apply r1_ | apply r2_ | apply r3_)); exact HO.out)); (case aB => exact (by repeat (with_reducible first | exact HB.out | apply p3_ | apply p1_ | apply p2_))); (case aS => exact (bz_ (by repeat (with_reducible first | exact HB.out | apply p3_ | apply p1_ | apply p2_)))); (case aL => exact LEN.out); intro v9 w9 ho hb hg hat; replace HB := am_ hb; replace HO := am_ ho; clear ho hb hg hat))
    go_roundg (l1.length - (i + 1))
    case measure => first | omega | (simp; omega)
    case rel => exact ⟨i + 1, by omega, by go_num, HB, ⟨by rw [HST.out]; exact HO.out⟩⟩
   have qb : (x0 == but) = false := by simpa using q0
   have qn : (x0 != but) = true := by simpa using q0
   rw [decide_eq_true q0, Bool.true_and] at hst
   clear q0
   cases bh with
   | false =>
    have HST := am_ (show dropL p client now but (l1.take (i + 1)) = acc ++ [(⟨x0, x1, x2, x3, x4, x5⟩ : S44)] from hst)
    clear hst HPx CF
    go_upto_region 5 with (fail)
    replace HB := am_ (p3_ HB.out (.cells #[.int .i64 x0, .int .i64 x1, .string x2, .int .i64 x3, .string x4, .bool x5] 44))
    replace HO := am_ (r1_ HO.out (.cells #[.int .i64 x0, .int .i64 x1, .string x2, .int .i64 x3, .string x4, .bool x5] 44))
    clear hx0 hx1 hx2 hx3 hx4 hx5
    generalize wr.alloc (.cells #[.int .i64 x0, .int .i64 x1, .string x2, .int .i64 x3, .string x4, .bool x5] 44) = w2 at HB BX HO ⊢
    have v0 := bc_ BX.out 0; have v1 := bc_ BX.out 1; have v2 := bc_ BX.out 2; have v3 := bc_ BX.out 3; have v4 := bc_ BX.out 4; have v5 := bc_ BX.out 5
    go_wp2_with (first | (go_at_call 48; (with_reducible refine (CH.out _ _ BX.out).mono ?_); rintro e w3 ⟨rfl, hb2⟩; have HO3 := am_ (Kd.R_below (by (with_reducible repeat (first | apply r1_ | apply r2_ | apply r3_)); exact HO.out) hb2); replace HO := HO3; clear HO3; replace BX := am_ (kb_ BX.out hb2); replace HB := am_ (bt_ HB.out hb2); clear hb2 v0 v1 v2 v3 v4 v5; have v0 := bc_ BX.out 0; have v1 := bc_ BX.out 1; have v2 := bc_ BX.out 2; have v3 := bc_ BX.out 3; have v4 := bc_ BX.out 4; have v5 := bc_ BX.out 5) | ((with_reducible refine gate_builtin (b := .append) (xs := #[.tmp 35, .tmp 37]) rfl ?_); at_builtin; refine Kd.R_append k44 (w0 := w) w.heap.size rfl (.tmp 35) (.tmp 37) 27 44 (.agg #[(.int .i64 0), (.int .i64 0), (.string ⟨#[]⟩), (.int .i64 0), (.string ⟨#[]⟩), (.bool false)]) 64 rfl Tryz.underlying27 offer_Drop.info rfl (by decide) (by omega) u11 acc (⟨x0, x1, x2, x3, x4, x5⟩ : S44) [.int .i64 x0, .int .i64 x1, .string x2, .int .i64 x3, .string x4, .bool x5] (fun _ => True) (fun _ => False) rfl rfl ?aP (fun _ hk => hk.elim) ?aF ?aO ?aB ?aS ?aL ?_; (case aP => exact k44_mkM _ _ _ (⟨x0, x1, x2, x3, x4, x5⟩ : S44)); (case aF => exact (fun _ _ => trivial)); (case aO => exact (by (with_reducible repeat (first | apply r1_ | apply r2_ | apply r3_)); exact HO.out)); (case aB => exact (by repeat (with_reducible first | exact HB.out | apply p3_ | apply p1_ | apply p2_))); (case aS => exact (bz_ (by repeat (with_reducible first | exact HB.out | apply p3_ | apply p1_ | apply p2_)))); (case aL => exact LEN.out); intro v9 w9 ho hb hg hat; replace HB := am_ hb; replace HO := am_ ho; clear ho hb hg hat))
    go_roundg (l1.length - (i + 1))
    case measure => first | omega | (simp; omega)
    case rel => exact ⟨i + 1, by omega, by go_num, HB, ⟨by rw [HST.out]; exact HO.out⟩⟩
   | true =>
   cases bp with
   | false =>
    have HST := am_ (show dropL p client now but (l1.take (i + 1)) = acc ++ [(⟨x0, x1, x2, x3, x4, x5⟩ : S44)] from hst)
    clear hst CF
    go_upto_region 5 with (fail)
    replace HB := am_ (p3_ HB.out (.cells #[.int .i64 x0, .int .i64 x1, .string x2, .int .i64 x3, .string x4, .bool x5] 44))
    replace HO := am_ (r1_ HO.out (.cells #[.int .i64 x0, .int .i64 x1, .string x2, .int .i64 x3, .string x4, .bool x5] 44))
    clear hx0 hx1 hx2 hx3 hx4 hx5
    generalize wr.alloc (.cells #[.int .i64 x0, .int .i64 x1, .string x2, .int .i64 x3, .string x4, .bool x5] 44) = w2 at HB BX HO ⊢
    have v0 := bc_ BX.out 0; have v1 := bc_ BX.out 1; have v2 := bc_ BX.out 2; have v3 := bc_ BX.out 3; have v4 := bc_ BX.out 4; have v5 := bc_ BX.out 5
    go_wp2_with (first | (go_at_call 48; (with_reducible refine (CH.out _ _ BX.out).mono ?_); rintro e w3 ⟨rfl, hb2⟩; have HO3 := am_ (Kd.R_below (by (with_reducible repeat (first | apply r1_ | apply r2_ | apply r3_)); exact HO.out) hb2); replace HO := HO3; clear HO3; replace BX := am_ (kb_ BX.out hb2); replace HB := am_ (bt_ HB.out hb2); clear hb2 v0 v1 v2 v3 v4 v5; have v0 := bc_ BX.out 0; have v1 := bc_ BX.out 1; have v2 := bc_ BX.out 2; have v3 := bc_ BX.out 3; have v4 := bc_ BX.out 4; have v5 := bc_ BX.out 5))
    refine (HPx.out _ _ BX.out).mono ?_
    rintro e w4 ⟨rfl, hb2⟩
    replace HO := am_ (Kd.R_below HO.out hb2)
    replace BX := am_ (kb_ BX.out hb2)
    replace HB := am_ (bt_ HB.out hb2)
    clear hb2 v0 v1 v2 v3 v4 v5
    have v0 := bc_ BX.out 0; have v1 := bc_ BX.out 1; have v2 := bc_ BX.out 2; have v3 := bc_ BX.out 3; have v4 := bc_ BX.out 4; have v5 := bc_ BX.out 5
    have fz0 := bf_ BX.out 0; have fz1 := bf_ BX.out 1; have fz2 := bf_ BX.out 2; have fz3 := bf_ BX.out 3; have fz4 := bf_ BX.out 4; have fz5 := bf_ BX.out 5
    go_wp2_with (first | ((with_reducible refine gate_builtin (b := .append) (xs := #[.tmp 35, .tmp 37]) rfl ?_); at_builtin; refine Kd.R_append k44 (w0 := w) w.heap.size rfl (.tmp 35) (.tmp 37) 27 44 (.agg #[(.int .i64 0), (.int .i64 0), (.string ⟨#[]⟩), (.int .i64 0), (.string ⟨#[]⟩), (.bool false)]) 64 rfl Tryz.underlying27 offer_Drop.info rfl (by decide) (by omega) u11 acc (⟨x0, x1, x2, x3, x4, x5⟩ : S44) [.int .i64 x0, .int .i64 x1, .string x2, .int .i64 x3, .string x4, .bool x5] (fun _ => True) (fun _ => False) rfl rfl ?aP (fun _ hk => hk.elim) ?aF ?aO ?aB ?aS ?aL ?_; (case aP => exact k44_mkM _ _ _ (⟨x0, x1, x2, x3, x4, x5⟩ : S44)); (case aF => exact (fun _ _ => trivial)); (case aO => exact (by (with_reducible repeat (first | apply r1_ | apply r2_ | apply r3_)); exact HO.out)); (case aB => exact (by repeat (with_reducible first | exact HB.out | apply p3_ | apply p1_ | apply p2_))); (case aS => exact (bz_ (by repeat (with_reducible first | exact HB.out | apply p3_ | apply p1_ | apply p2_)))); (case aL => exact LEN.out); intro v9 w9 ho hb hg hat; replace HB := am_ hb; replace HO := am_ ho; clear ho hb hg hat))
    go_roundg (l1.length - (i + 1))
    case measure => first | omega | (simp; omega)
    case rel => exact ⟨i + 1, by omega, by go_num, HB, ⟨by rw [HST.out]; exact HO.out⟩⟩
   | true =>
    have HST := am_ (show dropL p client now but (l1.take (i + 1)) = acc ++ [(⟨x0, 0, x2, x3, (⟨#[]⟩ : ByteArray), false⟩ : S44)] from hst)
    have CFx := am_ (fun W => CF.out x0 x1 x2 x3 x4 x5 W)
    clear hst CF
    have CF := CFx
    have SZ := am_ (show w.heap.size ≤ wr.heap.size from HB.out.size)
    replace HO := am_ (Kd.R_mono (ok' := fun k => k ≠ wr.heap.size) (Kd.R_bound HO.out) (fun k hk => by have := hk.2.2.1; omega))
    go_upto_region 5 with (fail)
    replace HB := am_ (p3_ HB.out (.cells #[.int .i64 x0, .int .i64 x1, .string x2, .int .i64 x3, .string x4, .bool x5] 44))
    replace HO := am_ (r1_ HO.out (.cells #[.int .i64 x0, .int .i64 x1, .string x2, .int .i64 x3, .string x4, .bool x5] 44))
    clear hx0 hx1 hx2 hx3 hx4 hx5
    generalize wr.alloc (.cells #[.int .i64 x0, .int .i64 x1, .string x2, .int .i64 x3, .string x4, .bool x5] 44) = w2 at HB BX HO ⊢
    have v0 := bc_ BX.out 0; have v1 := bc_ BX.out 1; have v2 := bc_ BX.out 2; have v3 := bc_ BX.out 3; have v4 := bc_ BX.out 4; have v5 := bc_ BX.out 5
    go_wp2_with (first | (go_at_call 48; (with_reducible refine (CH.out _ _ BX.out).mono ?_); rintro e w3 ⟨rfl, hb2⟩; have HO3 := am_ (Kd.R_below (by (with_reducible repeat (first | apply r1_ | apply r2_ | apply r3_)); exact HO.out) hb2); replace HO := HO3; clear HO3; replace BX := am_ (kb_ BX.out hb2); replace HB := am_ (bt_ HB.out hb2); clear hb2 v0 v1 v2 v3 v4 v5; have v0 := bc_ BX.out 0; have v1 := bc_ BX.out 1; have v2 := bc_ BX.out 2; have v3 := bc_ BX.out 3; have v4 := bc_ BX.out 4; have v5 := bc_ BX.out 5))
    refine (HPx.out _ _ BX.out).mono ?_
    rintro e w4 ⟨rfl, hb2⟩
    replace HO := am_ (Kd.R_below HO.out hb2)
    replace BX := am_ (kb_ BX.out hb2)
    replace HB := am_ (bt_ HB.out hb2)
    clear hb2 v0 v1 v2 v3 v4 v5
    have v0 := bc_ BX.out 0; have v1 := bc_ BX.out 1; have v2 := bc_ BX.out 2; have v3 := bc_ BX.out 3; have v4 := bc_ BX.out 4; have v5 := bc_ BX.out 5
    have fz0 := bf_ BX.out 0; have fz1 := bf_ BX.out 1; have fz2 := bf_ BX.out 2; have fz3 := bf_ BX.out 3; have fz4 := bf_ BX.out 4; have fz5 := bf_ BX.out 5
    go_upto_region 7 with (first | (go_at_call 49; (with_reducible refine (CF.out _).mono ?_); rintro e w5 ⟨rfl, hb2⟩; have HO3 := am_ (Kd.R_below HO.out hb2); replace HO := HO3; clear HO3; replace BX := am_ (kb_ BX.out hb2); replace HB := am_ (bt_ HB.out hb2); clear hb2 v0 v1 v2 v3 v4 v5; have v0 := bc_ BX.out 0; have v1 := bc_ BX.out 1; have v2 := bc_ BX.out 2; have v3 := bc_ BX.out 3; have v4 := bc_ BX.out 4; have v5 := bc_ BX.out 5; have fz0 := bf_ BX.out 0; have fz1 := bf_ BX.out 1; have fz2 := bf_ BX.out 2; have fz3 := bf_ BX.out 3; have fz4 := bf_ BX.out 4; have fz5 := bf_ BX.out 5))
    have HBW := am_ (show Below w.heap.size w ((((((w5.setCell ⟨wr.heap.size, 0, none⟩ (.int .i64 x0)).setCell ⟨wr.heap.size, 1, none⟩ (.int .i64 0)).setCell ⟨wr.heap.size, 2, none⟩ (.string x2)).setCell ⟨wr.heap.size, 3, none⟩ (.int .i64 x3)).setCell ⟨wr.heap.size, 4, none⟩ (.string (⟨#[]⟩ : ByteArray))).setCell ⟨wr.heap.size, 5, none⟩ (.bool false)) from by repeat (first | exact HB.out | refine bs_ ?_ SZ.out))
    have BXW := am_ (show ((((((w5.setCell ⟨wr.heap.size, 0, none⟩ (.int .i64 x0)).setCell ⟨wr.heap.size, 1, none⟩ (.int .i64 0)).setCell ⟨wr.heap.size, 2, none⟩ (.string x2)).setCell ⟨wr.heap.size, 3, none⟩ (.int .i64 x3)).setCell ⟨wr.heap.size, 4, none⟩ (.string (⟨#[]⟩ : ByteArray))).setCell ⟨wr.heap.size, 5, none⟩ (.bool false)).heap[wr.heap.size]? = some (.cells #[.int .i64 x0, .int .i64 0, .string x2, .int .i64 x3, .string (⟨#[]⟩ : ByteArray), .bool false] 44) from by refine blk_put (cs := #[.int .i64 x0, .int .i64 0, .string x2, .int .i64 x3, .string (⟨#[]⟩ : ByteArray), .bool x5]) ?_ 5 _ rfl; refine blk_put (cs := #[.int .i64 x0, .int .i64 0, .string x2, .int .i64 x3, .string x4, .bool x5]) ?_ 4 _ rfl; refine blk_put (cs := #[.int .i64 x0, .int .i64 0, .string x2, .int .i64 x3, .string x4, .bool x5]) ?_ 3 _ rfl; refine blk_put (cs := #[.int .i64 x0, .int .i64 0, .string x2, .int .i64 x3, .string x4, .bool x5]) ?_ 2 _ rfl; refine blk_put (cs := #[.int .i64 x0, .int .i64 x1, .string x2, .int .i64 x3, .string x4, .bool x5]) ?_ 1 _ rfl; refine blk_put (cs := #[.int .i64 x0, .int .i64 x1, .string x2, .int .i64 x3, .string x4, .bool x5]) ?_ 0 _ rfl; exact BX.out)
    have HOW := am_ (show Kd.R k44 44 ((((((w5.setCell ⟨wr.heap.size, 0, none⟩ (.int .i64 x0)).setCell ⟨wr.heap.size, 1, none⟩ (.int .i64 0)).setCell ⟨wr.heap.size, 2, none⟩ (.string x2)).setCell ⟨wr.heap.size, 3, none⟩ (.int .i64 x3)).setCell ⟨wr.heap.size, 4, none⟩ (.string (⟨#[]⟩ : ByteArray))).setCell ⟨wr.heap.size, 5, none⟩ (.bool false)) w.heap.size (fun k => k ≠ wr.heap.size) u11 acc from (Kd.R_far (p := ⟨wr.heap.size, 5, none⟩) (Kd.R_far (p := ⟨wr.heap.size, 4, none⟩) (Kd.R_far (p := ⟨wr.heap.size, 3, none⟩) (Kd.R_far (p := ⟨wr.heap.size, 2, none⟩) (Kd.R_far (p := ⟨wr.heap.size, 1, none⟩) (Kd.R_far (p := ⟨wr.heap.size, 0, none⟩) HO.out (fun _ hk => hk) (.int .i64 x0)) (fun _ hk => hk) (.int .i64 0)) (fun _ hk => hk) (.string x2)) (fun _ hk => hk) (.int .i64 x3)) (fun _ hk => hk) (.string (⟨#[]⟩ : ByteArray))) (fun _ hk => hk) (.bool false)))
    clear HB BX HO v0 v1 v2 v3 v4 v5 fz0 fz1 fz2 fz3 fz4 fz5
    generalize ((((((w5.setCell ⟨wr.heap.size, 0, none⟩ (.int .i64 x0)).setCell ⟨wr.heap.size, 1, none⟩ (.int .i64 0)).setCell ⟨wr.heap.size, 2, none⟩ (.string x2)).setCell ⟨wr.heap.size, 3, none⟩ (.int .i64 x3)).setCell ⟨wr.heap.size, 4, none⟩ (.string (⟨#[]⟩ : ByteArray))).setCell ⟨wr.heap.size, 5, none⟩ (.bool false)) = w7 at HBW BXW HOW ⊢
    have HB := HBW
    have BX := BXW
    have HO := HOW
    clear HBW BXW HOW
    have v0 := bc_ BX.out 0; have v1 := bc_ BX.out 1; have v2 := bc_ BX.out 2; have v3 := bc_ BX.out 3; have v4 := bc_ BX.out 4; have v5 := bc_ BX.out 5
    go_wp2_with (first | ((with_reducible refine gate_builtin (b := .append) (xs := #[.tmp 35, .tmp 37]) rfl ?_); at_builtin; refine Kd.R_append k44 (w0 := w) w.heap.size rfl (.tmp 35) (.tmp 37) 27 44 (.agg #[(.int .i64 0), (.int .i64 0), (.string ⟨#[]⟩), (.int .i64 0), (.string ⟨#[]⟩), (.bool false)]) 64 rfl Tryz.underlying27 offer_Drop.info rfl (by decide) (by omega) u11 acc (⟨x0, 0, x2, x3, (⟨#[]⟩ : ByteArray), false⟩ : S44) [.int .i64 x0, .int .i64 0, .string x2, .int .i64 x3, .string (⟨#[]⟩ : ByteArray), .bool false] (fun k_ => k_ ≠ wr.heap.size) (fun _ => False) rfl rfl ?aP (fun _ hk => hk.elim) ?aF ?aO ?aB ?aS ?aL ?_; (case aP => exact k44_mkM _ _ _ (⟨x0, 0, x2, x3, (⟨#[]⟩ : ByteArray), false⟩ : S44)); (case aF => exact (fun k_ hk => Kd.freshB (g := wr.heap.size) (o := (.cells #[.int .i64 x0, .int .i64 0, .string x2, .int .i64 x3, .string (⟨#[]⟩ : ByteArray), .bool false] 44)) BX.out k_ hk)); (case aO => exact (by (with_reducible repeat (first | apply r1_ | apply r2_ | apply r3_)); exact HO.out)); (case aB => exact (by repeat (with_reducible first | exact HB.out | apply p3_ | apply p1_ | apply p2_))); (case aS => exact (bz_ (by repeat (with_reducible first | exact HB.out | apply p3_ | apply p1_ | apply p2_)))); (case aL => exact LEN.out); intro v9 w9 ho hb hg hat; replace HB := am_ hb; replace HO := am_ (Kd.R_mono ho (fun _ _ => trivial)); clear ho hb hg hat))
    go_roundg (l1.length - (i + 1))
    case measure => first | omega | (simp; omega)
    case rel => exact ⟨i + 1, by omega, by go_num, HB, ⟨by rw [HST.out]; exact HO.out⟩⟩
  ·have HF := am_ (show dropL p client now but (l1.take i) = dropL p client now but l1 by rw [List.take_of_length_le (by omega)])
   have hlz : ¬ (i : Int) < (l1.length : Int) := by omega
   clear CF HP
   go_wp2
   go_ret
   exact ⟨_, rfl, by rw [← HF.out]; exact HO.out, HB.out⟩

/-! ### offer_Offered: function 21 -/
def offer_Offered.f (s0_0 : Int) (s0_1 : Int) (s0_2 : ByteArray) (s0_3 : Int) (s0_4 : ByteArray) (s0_5 : Bool) : Option (Bool × Int × Int × ByteArray × Int × ByteArray × Bool) := some ((s0_1 == 1), s0_0, s0_1, s0_2, s0_3, s0_4, s0_5)
set_option maxHeartbeats 8000000 in
set_option maxRecDepth 100000 in
theorem offer_Offered.calls (g : Nat) (s0_0 : Int) (s0_1 : Int) (s0_2 : ByteArray) (s0_3 : Int) (s0_4 : ByteArray) (s0_5 : Bool) (r1 : Bool) (r2 : Int) (r3 : Int) (r4 : ByteArray) (r5 : Int) (r6 : ByteArray) (r7 : Bool) (w0 w : World) (hI : IsS44 w0 w g s0_0 s0_1 s0_2 s0_3 s0_4 s0_5) (hB : Below w0.heap.size w0 w) (h : offer_Offered.f s0_0 s0_1 s0_2 s0_3 s0_4 s0_5 = some (r1, r2, r3, r4, r5, r6, r7)) :
  Calls Tryz.prog 21 #[.pointer (some ⟨g, 0, none⟩)] w fun e w' => e = .returned (.bool r1) ∧ IsS44 w0 w' g r2 r3 r4 r5 r6 r7 ∧ Below w0.heap.size w0 w' ∧ KeepBut w w' g none := by
 have HI0 := am_ hI
 have HK := am_ (KeepBut.refl w g none)
 have HL := am_ hB.size
 clear hI
 have HW0 := am_ hB.size
 have HB := am_ hB
 clear hB
 have H : (some ((s0_1 == 1), s0_0, s0_1, s0_2, s0_3, s0_4, s0_5)) = some (r1, r2, r3, r4, r5, r6, r7) := h
 clear h
 simp only [Option.some.injEq, Prod.mk.injEq] at H
 obtain ⟨rfl, rfl, rfl, rfl, rfl, rfl, rfl⟩ := H
 obtain ⟨HGz2, hgz2⟩ := HI0.out
 have hcz2_0 := cellS44_0 HGz2
 have hcz2_1 := cellS44_1 HGz2
 have hcz2_2 := cellS44_2 HGz2
 have hcz2_3 := cellS44_3 HGz2
 have hcz2_4 := cellS44_4 HGz2
 have hcz2_5 := cellS44_5 HGz2
 have hfz2_0 := bf_ HGz2 0; have hfz2_1 := bf_ HGz2 1; have hfz2_2 := bf_ HGz2 2; have hfz2_3 := bf_ HGz2 3; have hfz2_4 := bf_ HGz2 4; have hfz2_5 := bf_ HGz2 5
 clear HGz2 hgz2
 go_enter Tryz.func21, Tryz.ntmps21
 go_wp2
 go_ret
 exact ⟨by first | rfl | (simp [errW_none, errW_some] <;> rfl) | (simp [*, errW_none, errW_some] <;> rfl), by repeat (with_reducible first | exact HI0.out | apply IsS44.alloc | apply IsS44.drewN | apply IsS44.drew | apply IsS44.set_0 | apply IsS44.set_1 | apply IsS44.set_2 | apply IsS44.set_3 | apply IsS44.set_4 | apply IsS44.set_5), by repeat (first | (with_reducible first | exact HB.out | apply p3_ | apply p1_ | apply p2_ | refine bs_ ?_ (IsS44.ge HI0.out)) | exact HB.out), by repeat (with_reducible first | exact HK.out | apply KeepBut.set_ | apply keep_drewN | apply keep_drew | apply keep_alloc)⟩

/-! ### lease_Bound: function 23 -/
-- BY HAND
set_option maxHeartbeats 8000000 in
set_option maxRecDepth 100000 in
theorem lease_Bound.calls (g : Nat) (s0 s1 : Int) (s2 : ByteArray) (s3 : Int) (s4 : ByteArray) (s5 : Bool) (c : ByteArray) (now : Int) (r : Bool) (w : World) (hb : w.heap[g]? = some (.cells #[.int .i64 s0, .int .i64 s1, .string s2, .int .i64 s3, .string s4, .bool s5] 44)) (hs : s4.size ≤ 140737488351232) (h : boundB s0 s1 s2 s3 s4 s5 c now = r) :
  Calls Tryz.prog 23 #[.pointer (some ⟨g, 0, none⟩), .string c, .int .i64 now] w fun e w' => e = .returned (.bool r) ∧ Below w.heap.size w w' := by
 unfold boundB at h
 obtain ⟨b1, h1⟩ : ∃ b, holdsB s0 s1 s2 s3 s4 s5 c now = b := ⟨_, rfl⟩
 rw [h1] at h
 have C1 := am_ (fun W (bk : W.heap[g]? = some (.cells #[.int .i64 s0, .int .i64 s1, .string s2, .int .i64 s3, .string s4, .bool s5] 44)) => lease_Holds.calls g s0 s1 s2 s3 s4 s5 c now b1 W bk hs h1)
 have HR := am_ h
 have HB := am_ (Below.refl w.heap.size w)
 have BK := am_ hb
 have v0 := bc_ hb 0
 have v1 := bc_ hb 1
 have v2 := bc_ hb 2
 have v3 := bc_ hb 3
 have v4 := bc_ hb 4
 have v5 := bc_ hb 5
 clear h hb hs h1
 go_enter Tryz.func23, Tryz.ntmps23
 go_wp2_with (first
  | (go_at_call 48; (with_reducible refine (C1.out _ (by (with_reducible repeat (first | exact BK.out | refine k2_ ?_ _ | refine k3_ ?_ | refine k1_ ?_ _)))).mono ?_); rintro e w1 ⟨rfl, hb2⟩; replace BK := am_ (kb_ (show _ from (by (with_reducible repeat (first | exact BK.out | refine k2_ ?_ _ | refine k3_ ?_ | refine k1_ ?_ _)))) hb2); replace HB := am_ (bt_ (show Below w.heap.size w _ by repeat (with_reducible first | exact HB.out | apply p3_ | apply p1_ | apply p2_)) hb2); clear hb2; have u0 := bc_ BK.out 0; have u1 := bc_ BK.out 1; have u2 := bc_ BK.out 2; have u3 := bc_ BK.out 3; have u4 := bc_ BK.out 4; have u5 := bc_ BK.out 5))
 all_goals (try go_ret)
 all_goals refine ⟨ret_bool ?_, ?_⟩
 all_goals first
  | ((repeat (with_reducible first | exact HB.out | apply p3_ | apply p1_ | apply p2_)); done)
  | (rw [← HR.out]; clear HR HB C1 BK; (try clear v0 v1 v2 v3 v4 v5); (try clear u0 u1 u2 u3 u4 u5); rw [Bool.eq_iff_iff]; (simp_all; done))
  | (rw [← HR.out]; clear HR HB C1 BK; simp_all <;> omega)

/-! ### table_With: function 24 -/
-- BY HAND
-- 54 50
instance table_With.inh : Inhabited S44 := ⟨z44⟩
def table_With.enc (x : S44) : List Value := [.int .i64 x.f0, .int .i64 x.f1, .string x.f2, .int .i64 x.f3, .string x.f4, .bool x.f5]
def table_With.cf (x y : S44) : Int := wrap64 (x.f0 - y.f0)
def table_With.ren : Go.Shelf.Ren := ⟨fun i => if i = 20 then 86 else 0, fun i => if i = 3 then 3 else if i = 4 then 4 else if i = 22 then 27 else if i = 24 then 44 else if i = 25 then 78 else 0, fun i => i⟩
theorem table_With.lays : SlLaysF0.n20 Tryz.prog table_With.ren where
 mixed := by kernel_rfl
 f20 := ⟨"slices.insertionSortCmpFunc[pinfold/api.Lease]", by decide, by kernel_rfl⟩
 t0 := by kernel_rfl
 a0 := fun w => by kernel_rfl
 z0 := fun w => by kernel_rfl
 v0 := fun w => by kernel_rfl
 t3 := by kernel_rfl
 a3 := fun w => by kernel_rfl
 z3 := fun w => by kernel_rfl
 v3 := fun w => by kernel_rfl
 t4 := by kernel_rfl
 a4 := fun w => by kernel_rfl
 z4 := fun w => by kernel_rfl
 v4 := fun w => by kernel_rfl
 t22 := by kernel_rfl
 a22 := fun w => by kernel_rfl
 z22 := fun w => by kernel_rfl
 v22 := fun w => by kernel_rfl
 t25 := by kernel_rfl
 a25 := fun w => by kernel_rfl
 z25 := fun w => by kernel_rfl
 v25 := fun w => by kernel_rfl
set_option maxHeartbeats 8000000 in
set_option maxRecDepth 100000 in
theorem table_With.cmp (x y : S44) (W : World) :
  Calls Tryz.prog 53 #[.agg #[.int .i64 x.f0, .int .i64 x.f1, .string x.f2, .int .i64 x.f3, .string x.f4, .bool x.f5], .agg #[.int .i64 y.f0, .int .i64 y.f1, .string y.f2, .int .i64 y.f3, .string y.f4, .bool y.f5]] W fun e w' => e = .returned (.int .i64 (table_With.cf x y)) ∧ ∃ q os', w' = Go.Sort.grow (W.drewN q) os' := by
 go_enter Tryz.func53, Tryz.ntmps53
 go_wp2
 go_ret
 refine ⟨rfl, 0, #[.cells #[.int .i64 x.f0, .int .i64 x.f1, .string x.f2, .int .i64 x.f3, .string x.f4, .bool x.f5] 44, .cells #[.int .i64 y.f0, .int .i64 y.f1, .string y.f2, .int .i64 y.f3, .string y.f4, .bool y.f5] 44], ?_⟩
 rfl
/-- a row's cells. -/
def table_With.Cells (cur : Array Value) (xs : List S44) : Prop := ∀ t, t < xs.length * 6 → cur[t]? = some ((table_With.enc (xs.toArray[t / 6]!))[t % 6]!)
theorem table_With.get (xs : List S44) (j : Nat) (h : j < xs.length) : xs.toArray[j]! = xs[j] := by
 simp [h]
theorem table_With.cells_of {w : World} {base n cap g : Nat} {ok : Nat → Prop} {xs : List S44} (h : Kd.R k44 44 w base ok (.slice (some ⟨g, 0, none⟩) n cap) xs) :
  ∃ cur, w.heap[g]? = some (.cells cur 44 (0, 0)) ∧ n = xs.length ∧ n ≤ cap ∧ cap ≤ maxLen ∧ cur.size = cap * 6 ∧ base ≤ g ∧ ok g ∧ table_With.Cells cur xs := by
 obtain ⟨h0, inner, ⟨hil, hv⟩, hr⟩ := h
 rcases hv with ⟨hv, _⟩ | ⟨g', cap', cur, hv, hb, hc, hn, hm, hs, ht⟩
 ·cases hv
 ·have hn2 : n = xs.length := by cases hv; rfl
  obtain rfl : cap = cap' := by cases hv; rfl
  obtain rfl : g = g' := by cases hv; rfl
  refine ⟨cur, hc, hn2, by omega, hm, hs, hb, h0 g (by simp [Value.ownBlock]), fun t ht2 => ?_⟩
  have hj : t / 6 < xs.length := by omega
  have h1 := k44_openM (hr.2 (t / 6) _ (List.getElem?_eq_getElem hj))
  have h2 : inner[t]? = (table_With.enc xs[t / 6])[t % 6]? := by
   have h1' : ((List.drop (t / 6 * 6) inner).take 6)[t % 6]? = (table_With.enc xs[t / 6])[t % 6]? := congrArg (fun l : List Value => l[t % 6]?) h1
   rw [← h1']
   rw [List.getElem?_take_of_lt (by omega), List.getElem?_drop, show t / 6 * 6 + t % 6 = t by omega]
  have h3 : cur[t]? = inner[t]? := by
   have ht' : cur.toList.take (xs.length * 6) = inner := ht
   rw [← ht', List.getElem?_take_of_lt ht2, Array.getElem?_toList]
  have h4 : t % 6 < (table_With.enc xs[t / 6]).length := by show t % 6 < 6; omega
  rw [h3, h2, table_With.get xs _ hj, List.getElem?_eq_getElem h4, getElem!_pos (table_With.enc xs[t / 6]) (t % 6) h4]
theorem table_With.of_cells {w : World} {base n cap g : Nat} {ok : Nat → Prop} {xs : List S44} {cur : Array Value} (hc : w.heap[g]? = some (.cells cur 44 (0, 0))) (hn : n = xs.length) (hcap : n ≤ cap) (hm : cap ≤ maxLen) (hs : cur.size = cap * 6) (hb : base ≤ g) (ho : ok g) (hx : table_With.Cells cur xs) :
  Kd.R k44 44 w base ok (.slice (some ⟨g, 0, none⟩) n cap) xs := by
 subst hn
 have hl : (cur.toList.take (xs.length * 6)).length = xs.length * 6 := by
  have hz : cur.toList.length = cap * 6 := by simpa using hs
  rw [List.length_take, hz]
  exact Nat.min_eq_left (Nat.mul_le_mul_right _ hcap)
 refine ⟨fun k hk => ?_, cur.toList.take (xs.length * 6), ⟨hl, .inr ⟨g, cap, cur, rfl, hb, hc, hcap, hm, hs, rfl⟩⟩, hl, fun j p hp => ?_⟩
 ·simp only [Value.ownBlock, Option.some.injEq] at hk
  rw [← hk]
  exact ho
 ·obtain ⟨hj, rfl⟩ := List.getElem?_eq_some_iff.1 hp
  have e : ((cur.toList.take (xs.length * 6)).drop (j * 6)).take 6 = table_With.enc xs[j] := by
   apply List.ext_getElem?
   intro r
   by_cases hr : r < 6
   ·have h1 := hx (j * 6 + r) (by omega)
    rw [show (j * 6 + r) / 6 = j by omega, show (j * 6 + r) % 6 = r by omega, table_With.get xs j hj] at h1
    have h4 : r < (table_With.enc xs[j]).length := hr
    rw [getElem!_pos (table_With.enc xs[j]) r h4] at h1
    rw [List.getElem?_take_of_lt hr, List.getElem?_drop, List.getElem?_take_of_lt (by omega), Array.getElem?_toList, h1, List.getElem?_eq_getElem h4]
   ·rw [List.getElem?_eq_none (by rw [List.length_take]; omega), List.getElem?_eq_none (by show 6 ≤ r; omega)]
  show (k44).M _ _ _ _ (((cur.toList.take (xs.length * 6)).drop (j * 6)).take 6)
  rw [e]
  exact k44_mkM _ _ _ _
/-- the rounds of an insertion sort. -/
def table_With.outer (lt : S44 → S44 → Bool) : Nat → Nat → Array S44 → Array S44
 | 0, _, d => d
 | m + 1, i, d => table_With.outer lt m (i + 1) (Go.Sort.insInner lt 0 i d)
theorem table_With.outer_eq (lt : S44 → S44 → Bool) (m : Nat) : ∀ (i b : Nat) (d : Array S44), i + m = b → Go.Sort.insOuter lt 0 b i d = table_With.outer lt m i d := by
 induction m with
 | zero =>
  intro i b d h
  rw [Go.Sort.insOuter, if_neg (by omega)]
  rfl
 | succ m ih =>
  intro i b d h
  rw [Go.Sort.insOuter, if_pos (by omega)]
  exact ih (i + 1) b _ (by omega)
theorem table_With.size_inner (lt : S44 → S44 → Bool) : ∀ (j : Nat) (d : Array S44), (Go.Sort.insInner lt 0 j d).size = d.size
 | 0, d => rfl
 | j + 1, d => by
  unfold Go.Sort.insInner
  split
  ·rw [table_With.size_inner lt j, Go.Sort.size_swp]
  ·rfl
theorem table_With.size_outer (lt : S44 → S44 → Bool) : ∀ (m i : Nat) (d : Array S44), (table_With.outer lt m i d).size = d.size
 | 0, _, d => rfl
 | m + 1, i, d => by rw [table_With.outer, table_With.size_outer lt m, table_With.size_inner]
def table_With.srt (xs : List S44) : List S44 := (table_With.outer (ltOf table_With.cf) (xs.length - 1) 1 xs.toArray).toList
theorem table_With.srt_length (xs : List S44) : (table_With.srt xs).length = xs.length := by
 unfold table_With.srt
 rw [Array.length_toList, table_With.size_outer]
 rfl
/-- what a sort leaves. -/
def table_With.Done (W : World) (g cap : Nat) (xs : List S44) (w' : World) : Prop := ∃ cur', w'.heap[g]? = some (.cells cur' 44 (0, 0)) ∧ cur'.size = cap * 6 ∧ table_With.Cells cur' xs ∧ W.grownBy w' (some g)
theorem table_With.done {W : World} {g cap m : Nat} {cur : Array Value} {dk : Array S44} {os : Array Obj} (hc : W.heap[g]? = some (.cells cur 44 (0, 0))) (hcap : dk.size ≤ cap) (hs : cur.size = cap * 6) :
  table_With.Done W g cap dk.toList (sortWorldK table_With.enc 6 W g 0 m dk os) := by
 have hlt : g < W.heap.size := (Array.getElem?_eq_some_iff.1 hc).1
 have hb : (sortWorldK table_With.enc 6 W g 0 m dk os).heap = (W.heap.modify g (Go.Sort.onCells (Go.Sort.putCells id 0 (Go.Sort.flatK table_With.enc 6 dk)))) ++ os := rfl
 refine ⟨Go.Sort.putCells id 0 (Go.Sort.flatK table_With.enc 6 dk) cur, ?_, ?_, fun t ht => ?_, ⟨rfl, rfl, rfl, ?_, fun k hk hne => ?_⟩⟩
 ·rw [hb, Array.getElem?_append_left (by simpa using hlt), Array.getElem?_modify, if_pos rfl, hc]
  rfl
 ·unfold Go.Sort.putCells
  simpa using hs
 ·have htl : t < dk.size * 6 := by simpa using ht
  have hcur : t < cur.size := by omega
  unfold Go.Sort.putCells
  rw [Array.getElem?_mapIdx, Array.getElem?_eq_getElem hcur]
  simp only [Option.map_some, Go.Sort.size_flatK, Nat.zero_add, Nat.zero_le, true_and, Nat.sub_zero, id_eq]
  rw [if_pos htl, Go.Sort.get_flatK _ _ _ _ htl]
 ·rw [hb]
  simp
 ·have hkg : g ≠ k := fun e => hne (by rw [e])
  rw [hb, Array.getElem?_append_left (by simpa using hk), Array.getElem?_modify, if_neg hkg]
set_option maxHeartbeats 8000000 in
set_option maxRecDepth 100000 in
theorem table_With.stable (xs : List S44) (g cap : Nat) (cur : Array Value) (W : World) (hc : W.heap[g]? = some (.cells cur 44 (0, 0))) (hcap : xs.length ≤ cap) (hs : cur.size = cap * 6) (hx : table_With.Cells cur xs) (hn : xs.length ≤ 19) (hn0 : 0 < xs.length) :
  Calls Tryz.prog 71 #[.slice (some ⟨g, 0, none⟩) xs.length cap, .int .i64 xs.length, .func (.func 53) #[] #[]] W fun e w' => e = .returned (.tuple #[]) ∧ table_With.Done W g cap (table_With.srt xs) w' := by
 have eg : ∀ args w, (callFunc 53 args).run Tryz.prog w = .ok (.enter 53 args) w := enters_of Tryz.func53 (by kernel_rfl) rfl
 have hH : Go.Sort.HoldsK table_With.enc 6 W g 0 xs.toArray := fun j hj => by
  have hj2 : j < xs.length * 6 := by simpa using hj
  rw [Nat.zero_add]
  refine ⟨?_, bf_ hc j⟩
  rw [bc_ hc j, hx j hj2, Go.Sort.get_flatK _ _ _ _ (by simpa using hj2)]
  rfl
 have hI := AnyQ.insertionSortCmpFunc table_With.lays 6 (fun w => by kernel_rfl) (fun w => by kernel_rfl) table_With.enc (fun x => rfl) (fun x v hv => by
  simp only [table_With.enc, List.mem_cons, List.mem_nil_iff, or_false] at hv
  rcases hv with rfl | rfl | rfl | rfl | rfl | rfl <;> rfl) table_With.cf 53 #[] g 0 cap 0 xs.length xs.toArray W eg (fun m os dk _ x y => table_With.cmp x y _) hH (Array.getElem?_eq_some_iff.1 hc).1 (Nat.zero_le _) (by simp) (by simp; omega)
 have hD : ∀ m os, table_With.Done W g cap (table_With.srt xs) (sortWorldK table_With.enc 6 W g 0 m (Go.Sort.insertionSort (ltOf table_With.cf) xs.toArray 0 xs.length) os) := fun m os => by
  have e : Go.Sort.insertionSort (ltOf table_With.cf) xs.toArray 0 xs.length = table_With.outer (ltOf table_With.cf) (xs.length - 1) 1 xs.toArray := table_With.outer_eq _ _ 1 _ _ (by omega)
  rw [e]
  exact table_With.done hc (by rw [table_With.size_outer]; simpa using hcap) hs
 replace hI := am_ (show Calls Tryz.prog 86 #[.slice (some ⟨g, 0, none⟩) xs.length cap, .int .i64 0, .int .i64 xs.length, .func (.func 53) #[] #[]] W fun e w' => e = .returned (.tuple #[]) ∧ table_With.Done W g cap (table_With.srt xs) w' from hI.mono (by
  rintro e w' ⟨rfl, m, os, rfl⟩
  exact ⟨rfl, hD m os⟩))
 clear hD hH eg hc hx hs
 have d1 : decide ((20 : Int) ≤ (xs.length : Int)) = false := decide_eq_false (by omega)
 have d2 : decide ((20 : Int) < (xs.length : Int)) = false := decide_eq_false (by omega)
 go_enter Tryz.func71, Tryz.ntmps71
 go_wp2
 refine wp_loop_rounds 1 ?_
 rw [rounds_succ]
 go_wp2_with (first | (go_at_call 86; refine hI.out.mono ?_; rintro e w' ⟨rfl, hd⟩))
 refine wp_loop_rounds 1 ?_
 rw [rounds_succ]
 go_wp2
 go_end0
 exact ⟨rfl, hd⟩
set_option maxHeartbeats 8000000 in
set_option maxRecDepth 100000 in
theorem table_With.sort (xs : List S44) (g cap : Nat) (cur : Array Value) (W : World) (hc : W.heap[g]? = some (.cells cur 44 (0, 0))) (hcap : xs.length ≤ cap) (hs : cur.size = cap * 6) (hx : table_With.Cells cur xs) (hn : xs.length ≤ 19) (hn0 : 0 < xs.length) :
  Calls Tryz.prog 52 #[.slice (some ⟨g, 0, none⟩) xs.length cap, .func (.func 53) #[] #[]] W fun e w' => e = .returned (.tuple #[]) ∧ table_With.Done W g cap (table_With.srt xs) w' := by
 have hI := am_ (table_With.stable xs g cap cur W hc hcap hs hx hn hn0)
 clear hc hs hx
 go_enter Tryz.func52, Tryz.ntmps52
 go_wp2_with (first | (go_at_call 71; refine hI.out.mono ?_; rintro e w' ⟨rfl, hd⟩))
 go_end0
 exact ⟨rfl, hd⟩
theorem table_With.nil1 (c : Nat) (w : World) : (binOp .eql 27 (.slice none 0 c) (.slice none 0 0)).run Tryz.prog w = .ok (.bool true) w := by kernel_rfl
theorem table_With.nil2 (ad : Addr) (n c : Nat) (w : World) : (binOp .eql 27 (.slice (some ad) n c) (.slice none 0 0)).run Tryz.prog w = .ok (.bool false) w := by kernel_rfl
theorem table_With.info : (Tryz.prog.info? 44).map (fun i => (i.zero, i.size, i.bytes)) = some (some (.agg #[.int .i64 0, .int .i64 0, .string ⟨#[]⟩, .int .i64 0, .string ⟨#[]⟩, .bool false]), 6, 64) := by kernel_rfl
set_option maxHeartbeats 8000000 in
set_option maxRecDepth 100000 in
theorem table_With.clone (A0 : Option Addr) (c0 : Nat) (l0 : List (S44)) (w : World) (hr0 : Kd.C k44 w A0 l0.length l0) (hc0 : l0.length ≤ c0) (hs : l0.length ≤ 1000) :
  Calls Tryz.prog 51 #[.slice A0 l0.length c0] w fun e w' => ∃ v : Value, e = .returned v ∧ Kd.R k44 44 w' w.heap.size (fun _ => True) v l0 ∧ Below w.heap.size w w' := by
 have HR := am_ hr0
 have HC := am_ hc0
 cases A0 with
 | none =>
  have hn : l0 = [] := by
   cases l0 with
   | nil => rfl
   | cons x r =>
    obtain ⟨ad, e, _⟩ := hr0.2.2 (by simp)
    cases e
  clear hr0 hc0
  subst hn
  have he := table_With.nil1 c0
  go_enter Tryz.func51, Tryz.ntmps51
  go_wp2
  go_ret
  exact ⟨_, rfl, Kd.R_nil _ _ _ _ _, Below.refl _ _⟩
 | some ad =>
  clear hr0 hc0
  have he := table_With.nil2 ad l0.length c0
  go_enter Tryz.func51, Tryz.ntmps51
  go_wp2_with (first
   | ((with_reducible refine gate_dst (N := 5) rfl ?_); refine Kd.R_lit k44 _ 44 ?hg (N := 5) ?hd (xs := ([] : List S44)) (inner := []) (ok := fun _ => True) (okp := fun _ => True) ?hr ?hp (fun _ hk => hk) trivial (Below.refl _ _) (Nat.le_refl _) (by simp) ?_; (case hd => rfl); (case hg => rfl); (case hr => first | (go_simp; done) | (go_simp; rfl)); (case hp => exact (Reps.none _ _)); intro v104 w5 ho6 hb hg_ hnew_; clear hg_ hnew_; have HO := am_ ho6; have HB := am_ hb; clear hb ho6)
   | ((with_reducible refine gate_builtin (b := .append) (xs := #[.tmp 5, .tmp 6]) rfl ?_); at_builtin; refine Kd.R_append_rows k44 (w0 := w) w.heap.size rfl (.tmp 5) (.tmp 6) 27 44 (.agg #[.int .i64 0, .int .i64 0, .string ⟨#[]⟩, .int .i64 0, .string ⟨#[]⟩, .bool false]) 64 rfl Tryz.underlying27 table_With.info rfl (by decide) (by omega) v104 [] l0 _ _ _ (fun _ => True) (fun _ => False) rfl rfl ?aO ?aR (fun _ _ h => h) (fun _ h => h.elim) ?aF ?aB ?aS ?aL ?_; (case aR => exact c4_ HR.out HB.out); (case aB => exact HB.out); (case aF => exact (fun _ _ => trivial)); (case aO => exact HO.out); (case aS => exact HB.out.size); (case aL => simp; omega); intro v107 w9 ho hb hg hat; rw [List.nil_append] at ho; clear hg hat))
  go_ret
  exact ⟨_, rfl, ho, hb⟩
theorem table_With.set_cells {cur : Array Value} {l0 : List S44} (hx : table_With.Cells cur l0) (ii : Nat) (hi : ii < l0.length) (hs : l0.length * 6 ≤ cur.size) (x : S44) :
  table_With.Cells ((((((cur.setIfInBounds (ii * 6) (.int .i64 x.f0)).setIfInBounds (ii * 6 + 1) (.int .i64 x.f1)).setIfInBounds (ii * 6 + 2) (.string x.f2)).setIfInBounds (ii * 6 + 3) (.int .i64 x.f3)).setIfInBounds (ii * 6 + 4) (.string x.f4)).setIfInBounds (ii * 6 + 5) (.bool x.f5)) (l0.set ii x) := by
 intro t ht
 rw [List.length_set] at ht
 have h0 := hx t ht
 have hj : t / 6 < l0.length := by omega
 by_cases e : t / 6 = ii
 ·have hg : (l0.set ii x).toArray[t / 6]! = x := by
   rw [table_With.get _ _ (by rw [List.length_set]; exact hj), List.getElem_set, if_pos e.symm]
  rw [hg]
  obtain ⟨r, hr, hr6⟩ : ∃ r, t = ii * 6 + r ∧ r < 6 := ⟨t - ii * 6, by omega, by omega⟩
  subst hr
  rw [show (ii * 6 + r) % 6 = r by omega]
  have hk : ii * 6 + 6 ≤ cur.size := by omega
  match r, hr6 with
  | 0, _ => (have h9 : ii * 6 < cur.size := (by omega)); simp [Array.getElem?_setIfInBounds, h9, table_With.enc]
  | 1, _ => (have h9 : ii * 6 + 1 < cur.size := (by omega)); simp [Array.getElem?_setIfInBounds, h9, table_With.enc]
  | 2, _ => (have h9 : ii * 6 + 2 < cur.size := (by omega)); simp [Array.getElem?_setIfInBounds, h9, table_With.enc]
  | 3, _ => (have h9 : ii * 6 + 3 < cur.size := (by omega)); simp [Array.getElem?_setIfInBounds, h9, table_With.enc]
  | 4, _ => (have h9 : ii * 6 + 4 < cur.size := (by omega)); simp [Array.getElem?_setIfInBounds, h9, table_With.enc]
  | 5, _ => (have h9 : ii * 6 + 5 < cur.size := (by omega)); simp [Array.getElem?_setIfInBounds, h9, table_With.enc]
  | q + 6, h => omega
 ·have hg : (l0.set ii x).toArray[t / 6]! = l0.toArray[t / 6]! := by
   rw [table_With.get _ _ (by rw [List.length_set]; exact hj), table_With.get _ _ hj, List.getElem_set, if_neg (fun h => e h.symm)]
  rw [hg, ← h0]
  simp only [Array.getElem?_setIfInBounds, Array.size_setIfInBounds]
  rw [if_neg (by omega), if_neg (by omega), if_neg (by omega), if_neg (by omega), if_neg (by omega), if_neg (by omega)]
/-- what leaves become with one more. -/
def table_With.out (l0 : List S44) (x : S44) : List S44 := if table_at.idx (fun y => y.f0 == x.f0) l0 ≥ 0 then l0.set (table_at.idx (fun y => y.f0 == x.f0) l0).toNat x else table_With.srt (l0 ++ [x])
def table_With.f (l0 : List S44) (a1_0 : Int) (a1_1 : Int) (a1_2 : ByteArray) (a1_3 : Int) (a1_4 : ByteArray) (a1_5 : Bool) : Option (List S44 × Int) :=
 if l0.length ≤ 18 then ((table_May_c.f l0).bind fun m => if m = true then ((table_May_c.f (table_With.out l0 (⟨a1_0, a1_1, a1_2, a1_3, a1_4, a1_5⟩ : S44))).bind fun q => if q = true then some (table_With.out l0 (⟨a1_0, a1_1, a1_2, a1_3, a1_4, a1_5⟩ : S44), 0) else some ([], 1300)) else some ([], 1300)) else none
set_option maxHeartbeats 8000000 in
set_option maxRecDepth 100000 in
theorem table_With.calls (A0 : Option Addr) (c0 : Nat) (l0 : List (S44)) (a1_0 : Int) (a1_1 : Int) (a1_2 : ByteArray) (a1_3 : Int) (a1_4 : ByteArray) (a1_5 : Bool) (r1 : List (S44)) (r2 : Int) (w : World) (hr0 : Kd.C k44 w A0 l0.length l0) (hc0 : l0.length ≤ c0) (h : table_With.f l0 a1_0 a1_1 a1_2 a1_3 a1_4 a1_5 = some (r1, r2)) :
  Calls Tryz.prog 24 #[.slice A0 l0.length c0, .agg #[.int .i64 a1_0, .int .i64 a1_1, .string a1_2, .int .i64 a1_3, .string a1_4, .bool a1_5]] w fun e w' => ∃ v0_ : Value, e = .returned (.tuple #[v0_, .int .i64 r2]) ∧ Kd.R k44 44 w' w.heap.size (fun _ => True) v0_ r1 ∧ Below w.heap.size w w' := by
 have HR := am_ hr0
 have HC := am_ hc0
 clear hr0 hc0
 unfold table_With.f at h
 by_cases hs : l0.length ≤ 18
 rotate_left
 ·rw [if_neg hs] at h
  cases h
 rw [if_pos hs] at h
 replace h := Option.bind_eq_some_iff.1 h
 obtain ⟨m, hm, h⟩ := h
 have HM := am_ (fun W hr => table_May_c.calls A0 c0 l0 m W hr HC.out hm)
 clear hm
 have HCL := am_ (fun W hr => table_With.clone A0 c0 l0 W hr HC.out (by omega))
 have HAT := am_ (fun W hr => table_at.calls A0 c0 l0 a1_0 (table_at.idx (fun y => y.f0 == a1_0) l0) W hr HC.out (by unfold table_at.f; rw [if_pos (by omega)]))
 unfold table_With.out at h
 by_cases hi : table_at.idx (fun y => y.f0 == a1_0) l0 ≥ 0
 ·rw [if_pos (show table_at.idx (fun y => y.f0 == ((⟨a1_0, a1_1, a1_2, a1_3, a1_4, a1_5⟩ : S44)).f0) l0 ≥ 0 from hi)] at h
  have hlt := (table_at.idx_lt (fun y => y.f0 == a1_0) l0).1
  replace h : ((if m = true then ((table_May_c.f (l0.set (table_at.idx (fun y => y.f0 == a1_0) l0).toNat (⟨a1_0, a1_1, a1_2, a1_3, a1_4, a1_5⟩ : S44))).bind fun q => if q = true then some (l0.set (table_at.idx (fun y => y.f0 == a1_0) l0).toNat (⟨a1_0, a1_1, a1_2, a1_3, a1_4, a1_5⟩ : S44), (0 : Int)) else some ([], 1300)) else some ([], 1300)) : Option (List S44 × Int)) = some (r1, r2) := h
  obtain ⟨ii, hii⟩ : ∃ ii : Nat, table_at.idx (fun y => y.f0 == a1_0) l0 = (ii : Int) := ⟨(table_at.idx (fun y => y.f0 == a1_0) l0).toNat, by omega⟩
  rw [hii] at h hlt
  rw [hii] at HAT
  rw [Int.toNat_natCast] at h
  have hib : decide ((0 : Int) ≤ (ii : Int)) = true := decide_eq_true (by omega)
  have hil : ii < l0.length := by omega
  have hilz : (ii : Int) < (l0.length : Int) := hlt
  clear hi hii hlt
  cases m with
  | false =>
   rw [if_neg (by decide)] at h
   simp only [Option.some.injEq, Prod.mk.injEq] at h
   obtain ⟨rfl, rfl⟩ := h
   go_enter Tryz.func24, Tryz.ntmps24
   go_wp2_with (first
    | (go_at_call 51; refine (HCL.out _ (c4_ HR.out (p3_ (Below.refl _ _) _))).mono ?_; rintro e w1 ⟨v, rfl, hv, hb1⟩; have HV := am_ (Kd.R_lower hv (show w.heap.size ≤ _ by first | (simp; done) | exact Nat.le_succ _)); have HVB := am_ hv; have E1 := am_ (kb_ (blk_new w (.cells #[.int .i64 a1_0, .int .i64 a1_1, .string a1_2, .int .i64 a1_3, .string a1_4, .bool a1_5] 44)) hb1); have HB := am_ (bt_ (p3_ (Below.refl _ _) _) hb1); have u0 := bc_ E1.out 0; clear hb1 hv)
    | (go_at_call 50; refine (HAT.out _ (c4_ HR.out HB.out)).mono ?_; rintro e w2 ⟨rfl, hb2⟩; have HVB2 := Kd.R_below HVB.out hb2; have E2 := am_ (kb_ E1.out hb2); have HB2 := am_ (bt_ HB.out hb2); have x0 := bc_ E2.out 0; have x1 := bc_ E2.out 1; have x2 := bc_ E2.out 2; have x3 := bc_ E2.out 3; have x4 := bc_ E2.out 4; have x5 := bc_ E2.out 5; obtain ⟨g, cap, rfl, hbg, _, _⟩ := Kd.R_form HVB2 (by omega); obtain ⟨cur, hc, _, hcap, hmx, hsz, _, _, hx⟩ := table_With.cells_of HVB2; have hbg0 : w.heap.size ≤ g := Nat.le_trans (by first | (simp; done) | exact Nat.le_succ _) hbg; have hgne : w.heap.size ≠ g := Nat.ne_of_lt (Nat.lt_of_lt_of_le (by simp) hbg); have y0 := bc_ hc (ii * 6); have yh0 := hx (ii * 6 + 0) (by omega); have z0 := bf_ hc (ii * 6); have y1 := bc_ hc (ii * 6 + 1); have yh1 := hx (ii * 6 + 1) (by omega); have z1 := bf_ hc (ii * 6 + 1); have y2 := bc_ hc (ii * 6 + 2); have yh2 := hx (ii * 6 + 2) (by omega); have z2 := bf_ hc (ii * 6 + 2); have y3 := bc_ hc (ii * 6 + 3); have yh3 := hx (ii * 6 + 3) (by omega); have z3 := bf_ hc (ii * 6 + 3); have y4 := bc_ hc (ii * 6 + 4); have yh4 := hx (ii * 6 + 4) (by omega); have z4 := bf_ hc (ii * 6 + 4); have y5 := bc_ hc (ii * 6 + 5); have yh5 := hx (ii * 6 + 5) (by omega); have z5 := bf_ hc (ii * 6 + 5); rw [Nat.add_zero] at yh0; rw [yh0] at y0; rw [yh1] at y1; rw [yh2] at y2; rw [yh3] at y3; rw [yh4] at y4; rw [yh5] at y5; clear yh0 yh1 yh2 yh3 yh4 yh5; have HC3 := am_ (blk_set (blk_set (blk_set (blk_set (blk_set (blk_set hc (ii * 6) (.int .i64 a1_0)) (ii * 6 + 1) (.int .i64 a1_1)) (ii * 6 + 2) (.string a1_2)) (ii * 6 + 3) (.int .i64 a1_3)) (ii * 6 + 4) (.string a1_4)) (ii * 6 + 5) (.bool a1_5)); have HX3 := am_ (table_With.set_cells hx ii hil (by omega) (⟨a1_0, a1_1, a1_2, a1_3, a1_4, a1_5⟩ : S44)); have HB4 := am_ (show Below w.heap.size w ((((((w2.setCell ⟨g, ii * 6, none⟩ (.int .i64 a1_0)).setCell ⟨g, ii * 6 + 1, none⟩ (.int .i64 a1_1)).setCell ⟨g, ii * 6 + 2, none⟩ (.string a1_2)).setCell ⟨g, ii * 6 + 3, none⟩ (.int .i64 a1_3)).setCell ⟨g, ii * 6 + 4, none⟩ (.string a1_4)).setCell ⟨g, ii * 6 + 5, none⟩ (.bool a1_5)) from ((((((HB2.out.setCell hbg0 _).setCell hbg0 _).setCell hbg0 _).setCell hbg0 _).setCell hbg0 _).setCell hbg0 _)); have HV4 := am_ (show Kd.R k44 44 ((((((w2.setCell ⟨g, ii * 6, none⟩ (.int .i64 a1_0)).setCell ⟨g, ii * 6 + 1, none⟩ (.int .i64 a1_1)).setCell ⟨g, ii * 6 + 2, none⟩ (.string a1_2)).setCell ⟨g, ii * 6 + 3, none⟩ (.int .i64 a1_3)).setCell ⟨g, ii * 6 + 4, none⟩ (.string a1_4)).setCell ⟨g, ii * 6 + 5, none⟩ (.bool a1_5)) w.heap.size (fun _ => True) (.slice (some ⟨g, 0, none⟩) l0.length cap) (l0.set ii (⟨a1_0, a1_1, a1_2, a1_3, a1_4, a1_5⟩ : S44)) from table_With.of_cells HC3.out (List.length_set).symm hcap hmx (by simpa using hsz) hbg0 trivial HX3.out); have HN := am_ hcap; clear hb2 HVB2 hx hc hcap hmx hsz hbg HC3 HX3)
    | (go_at_call 54; with_reducible refine (HM.out _ (c4_ HR.out HB4.out)).mono ?_; rintro e w5 ⟨rfl, hb5⟩; have HB5 := am_ (bt_ HB4.out hb5); have HV5 := am_ (Kd.R_below HV4.out hb5); clear hb5))
   go_ret2
   exact ⟨_, rfl, Kd.R_nil _ _ _ _ _, HB5.out⟩
  | true =>
   rw [if_pos rfl] at h
   replace h := Option.bind_eq_some_iff.1 h
   obtain ⟨q, hq, h⟩ := h
   have HQ := am_ (show ∀ (W : World) (A : Option Addr) (c : Nat), Kd.C k44 W A l0.length (l0.set ii (⟨a1_0, a1_1, a1_2, a1_3, a1_4, a1_5⟩ : S44)) → l0.length ≤ c → Calls Tryz.prog 54 #[.slice A l0.length c] W fun e w' => e = .returned (.bool q) ∧ Below W.heap.size W w' from fun W A c hr hc => by
    have := table_May_c.calls A c (l0.set ii (⟨a1_0, a1_1, a1_2, a1_3, a1_4, a1_5⟩ : S44)) q W (by rw [List.length_set]; exact hr) (by rw [List.length_set]; exact hc) hq
    rw [List.length_set] at this
    exact this)
   clear hq
   cases q with
   | false =>
    rw [if_neg (by decide)] at h
    simp only [Option.some.injEq, Prod.mk.injEq] at h
    obtain ⟨rfl, rfl⟩ := h
    go_enter Tryz.func24, Tryz.ntmps24
    go_wp2_with (first
     | (go_at_call 51; refine (HCL.out _ (c4_ HR.out (p3_ (Below.refl _ _) _))).mono ?_; rintro e w1 ⟨v, rfl, hv, hb1⟩; have HV := am_ (Kd.R_lower hv (show w.heap.size ≤ _ by first | (simp; done) | exact Nat.le_succ _)); have HVB := am_ hv; have E1 := am_ (kb_ (blk_new w (.cells #[.int .i64 a1_0, .int .i64 a1_1, .string a1_2, .int .i64 a1_3, .string a1_4, .bool a1_5] 44)) hb1); have HB := am_ (bt_ (p3_ (Below.refl _ _) _) hb1); have u0 := bc_ E1.out 0; clear hb1 hv)
     | (go_at_call 50; refine (HAT.out _ (c4_ HR.out HB.out)).mono ?_; rintro e w2 ⟨rfl, hb2⟩; have HVB2 := Kd.R_below HVB.out hb2; have E2 := am_ (kb_ E1.out hb2); have HB2 := am_ (bt_ HB.out hb2); have x0 := bc_ E2.out 0; have x1 := bc_ E2.out 1; have x2 := bc_ E2.out 2; have x3 := bc_ E2.out 3; have x4 := bc_ E2.out 4; have x5 := bc_ E2.out 5; obtain ⟨g, cap, rfl, hbg, _, _⟩ := Kd.R_form HVB2 (by omega); obtain ⟨cur, hc, _, hcap, hmx, hsz, _, _, hx⟩ := table_With.cells_of HVB2; have hbg0 : w.heap.size ≤ g := Nat.le_trans (by first | (simp; done) | exact Nat.le_succ _) hbg; have hgne : w.heap.size ≠ g := Nat.ne_of_lt (Nat.lt_of_lt_of_le (by simp) hbg); have y0 := bc_ hc (ii * 6); have yh0 := hx (ii * 6 + 0) (by omega); have z0 := bf_ hc (ii * 6); have y1 := bc_ hc (ii * 6 + 1); have yh1 := hx (ii * 6 + 1) (by omega); have z1 := bf_ hc (ii * 6 + 1); have y2 := bc_ hc (ii * 6 + 2); have yh2 := hx (ii * 6 + 2) (by omega); have z2 := bf_ hc (ii * 6 + 2); have y3 := bc_ hc (ii * 6 + 3); have yh3 := hx (ii * 6 + 3) (by omega); have z3 := bf_ hc (ii * 6 + 3); have y4 := bc_ hc (ii * 6 + 4); have yh4 := hx (ii * 6 + 4) (by omega); have z4 := bf_ hc (ii * 6 + 4); have y5 := bc_ hc (ii * 6 + 5); have yh5 := hx (ii * 6 + 5) (by omega); have z5 := bf_ hc (ii * 6 + 5); rw [Nat.add_zero] at yh0; rw [yh0] at y0; rw [yh1] at y1; rw [yh2] at y2; rw [yh3] at y3; rw [yh4] at y4; rw [yh5] at y5; clear yh0 yh1 yh2 yh3 yh4 yh5; have HC3 := am_ (blk_set (blk_set (blk_set (blk_set (blk_set (blk_set hc (ii * 6) (.int .i64 a1_0)) (ii * 6 + 1) (.int .i64 a1_1)) (ii * 6 + 2) (.string a1_2)) (ii * 6 + 3) (.int .i64 a1_3)) (ii * 6 + 4) (.string a1_4)) (ii * 6 + 5) (.bool a1_5)); have HX3 := am_ (table_With.set_cells hx ii hil (by omega) (⟨a1_0, a1_1, a1_2, a1_3, a1_4, a1_5⟩ : S44)); have HB4 := am_ (show Below w.heap.size w ((((((w2.setCell ⟨g, ii * 6, none⟩ (.int .i64 a1_0)).setCell ⟨g, ii * 6 + 1, none⟩ (.int .i64 a1_1)).setCell ⟨g, ii * 6 + 2, none⟩ (.string a1_2)).setCell ⟨g, ii * 6 + 3, none⟩ (.int .i64 a1_3)).setCell ⟨g, ii * 6 + 4, none⟩ (.string a1_4)).setCell ⟨g, ii * 6 + 5, none⟩ (.bool a1_5)) from ((((((HB2.out.setCell hbg0 _).setCell hbg0 _).setCell hbg0 _).setCell hbg0 _).setCell hbg0 _).setCell hbg0 _)); have HV4 := am_ (show Kd.R k44 44 ((((((w2.setCell ⟨g, ii * 6, none⟩ (.int .i64 a1_0)).setCell ⟨g, ii * 6 + 1, none⟩ (.int .i64 a1_1)).setCell ⟨g, ii * 6 + 2, none⟩ (.string a1_2)).setCell ⟨g, ii * 6 + 3, none⟩ (.int .i64 a1_3)).setCell ⟨g, ii * 6 + 4, none⟩ (.string a1_4)).setCell ⟨g, ii * 6 + 5, none⟩ (.bool a1_5)) w.heap.size (fun _ => True) (.slice (some ⟨g, 0, none⟩) l0.length cap) (l0.set ii (⟨a1_0, a1_1, a1_2, a1_3, a1_4, a1_5⟩ : S44)) from table_With.of_cells HC3.out (List.length_set).symm hcap hmx (by simpa using hsz) hbg0 trivial HX3.out); have HN := am_ hcap; clear hb2 HVB2 hx hc hcap hmx hsz hbg HC3 HX3)
     | (go_at_call 54; with_reducible refine (HM.out _ (c4_ HR.out HB4.out)).mono ?_; rintro e w5 ⟨rfl, hb5⟩; have HB5 := am_ (bt_ HB4.out hb5); have HV5 := am_ (Kd.R_below HV4.out hb5); clear hb5)
     | (go_at_call 54; with_reducible refine (HQ.out _ _ _ (by have := (Kd.R_reads' HV5.out).2.2; rw [List.length_set] at this; exact this) HN.out).mono ?_; rintro e w6 ⟨rfl, hb6⟩; have HB6 := am_ (bt_ HB5.out hb6); have HV6 := am_ (Kd.R_below HV5.out hb6); clear hb6))
    go_ret2
    exact ⟨_, rfl, Kd.R_nil _ _ _ _ _, HB6.out⟩
   | true =>
    rw [if_pos rfl] at h
    simp only [Option.some.injEq, Prod.mk.injEq] at h
    obtain ⟨rfl, rfl⟩ := h
    go_enter Tryz.func24, Tryz.ntmps24
    go_wp2_with (first
     | (go_at_call 51; refine (HCL.out _ (c4_ HR.out (p3_ (Below.refl _ _) _))).mono ?_; rintro e w1 ⟨v, rfl, hv, hb1⟩; have HV := am_ (Kd.R_lower hv (show w.heap.size ≤ _ by first | (simp; done) | exact Nat.le_succ _)); have HVB := am_ hv; have E1 := am_ (kb_ (blk_new w (.cells #[.int .i64 a1_0, .int .i64 a1_1, .string a1_2, .int .i64 a1_3, .string a1_4, .bool a1_5] 44)) hb1); have HB := am_ (bt_ (p3_ (Below.refl _ _) _) hb1); have u0 := bc_ E1.out 0; clear hb1 hv)
     | (go_at_call 50; refine (HAT.out _ (c4_ HR.out HB.out)).mono ?_; rintro e w2 ⟨rfl, hb2⟩; have HVB2 := Kd.R_below HVB.out hb2; have E2 := am_ (kb_ E1.out hb2); have HB2 := am_ (bt_ HB.out hb2); have x0 := bc_ E2.out 0; have x1 := bc_ E2.out 1; have x2 := bc_ E2.out 2; have x3 := bc_ E2.out 3; have x4 := bc_ E2.out 4; have x5 := bc_ E2.out 5; obtain ⟨g, cap, rfl, hbg, _, _⟩ := Kd.R_form HVB2 (by omega); obtain ⟨cur, hc, _, hcap, hmx, hsz, _, _, hx⟩ := table_With.cells_of HVB2; have hbg0 : w.heap.size ≤ g := Nat.le_trans (by first | (simp; done) | exact Nat.le_succ _) hbg; have hgne : w.heap.size ≠ g := Nat.ne_of_lt (Nat.lt_of_lt_of_le (by simp) hbg); have y0 := bc_ hc (ii * 6); have yh0 := hx (ii * 6 + 0) (by omega); have z0 := bf_ hc (ii * 6); have y1 := bc_ hc (ii * 6 + 1); have yh1 := hx (ii * 6 + 1) (by omega); have z1 := bf_ hc (ii * 6 + 1); have y2 := bc_ hc (ii * 6 + 2); have yh2 := hx (ii * 6 + 2) (by omega); have z2 := bf_ hc (ii * 6 + 2); have y3 := bc_ hc (ii * 6 + 3); have yh3 := hx (ii * 6 + 3) (by omega); have z3 := bf_ hc (ii * 6 + 3); have y4 := bc_ hc (ii * 6 + 4); have yh4 := hx (ii * 6 + 4) (by omega); have z4 := bf_ hc (ii * 6 + 4); have y5 := bc_ hc (ii * 6 + 5); have yh5 := hx (ii * 6 + 5) (by omega); have z5 := bf_ hc (ii * 6 + 5); rw [Nat.add_zero] at yh0; rw [yh0] at y0; rw [yh1] at y1; rw [yh2] at y2; rw [yh3] at y3; rw [yh4] at y4; rw [yh5] at y5; clear yh0 yh1 yh2 yh3 yh4 yh5; have HC3 := am_ (blk_set (blk_set (blk_set (blk_set (blk_set (blk_set hc (ii * 6) (.int .i64 a1_0)) (ii * 6 + 1) (.int .i64 a1_1)) (ii * 6 + 2) (.string a1_2)) (ii * 6 + 3) (.int .i64 a1_3)) (ii * 6 + 4) (.string a1_4)) (ii * 6 + 5) (.bool a1_5)); have HX3 := am_ (table_With.set_cells hx ii hil (by omega) (⟨a1_0, a1_1, a1_2, a1_3, a1_4, a1_5⟩ : S44)); have HB4 := am_ (show Below w.heap.size w ((((((w2.setCell ⟨g, ii * 6, none⟩ (.int .i64 a1_0)).setCell ⟨g, ii * 6 + 1, none⟩ (.int .i64 a1_1)).setCell ⟨g, ii * 6 + 2, none⟩ (.string a1_2)).setCell ⟨g, ii * 6 + 3, none⟩ (.int .i64 a1_3)).setCell ⟨g, ii * 6 + 4, none⟩ (.string a1_4)).setCell ⟨g, ii * 6 + 5, none⟩ (.bool a1_5)) from ((((((HB2.out.setCell hbg0 _).setCell hbg0 _).setCell hbg0 _).setCell hbg0 _).setCell hbg0 _).setCell hbg0 _)); have HV4 := am_ (show Kd.R k44 44 ((((((w2.setCell ⟨g, ii * 6, none⟩ (.int .i64 a1_0)).setCell ⟨g, ii * 6 + 1, none⟩ (.int .i64 a1_1)).setCell ⟨g, ii * 6 + 2, none⟩ (.string a1_2)).setCell ⟨g, ii * 6 + 3, none⟩ (.int .i64 a1_3)).setCell ⟨g, ii * 6 + 4, none⟩ (.string a1_4)).setCell ⟨g, ii * 6 + 5, none⟩ (.bool a1_5)) w.heap.size (fun _ => True) (.slice (some ⟨g, 0, none⟩) l0.length cap) (l0.set ii (⟨a1_0, a1_1, a1_2, a1_3, a1_4, a1_5⟩ : S44)) from table_With.of_cells HC3.out (List.length_set).symm hcap hmx (by simpa using hsz) hbg0 trivial HX3.out); have HN := am_ hcap; clear hb2 HVB2 hx hc hcap hmx hsz hbg HC3 HX3)
     | (go_at_call 54; with_reducible refine (HM.out _ (c4_ HR.out HB4.out)).mono ?_; rintro e w5 ⟨rfl, hb5⟩; have HB5 := am_ (bt_ HB4.out hb5); have HV5 := am_ (Kd.R_below HV4.out hb5); clear hb5)
     | (go_at_call 54; with_reducible refine (HQ.out _ _ _ (by have := (Kd.R_reads' HV5.out).2.2; rw [List.length_set] at this; exact this) HN.out).mono ?_; rintro e w6 ⟨rfl, hb6⟩; have HB6 := am_ (bt_ HB5.out hb6); have HV6 := am_ (Kd.R_below HV5.out hb6); clear hb6))
    go_ret2
    exact ⟨_, rfl, HV6.out, HB6.out⟩
 ·have hi2 : ¬ (table_at.idx (fun y => y.f0 == ((⟨a1_0, a1_1, a1_2, a1_3, a1_4, a1_5⟩ : S44)).f0) l0 ≥ 0) := hi
  rw [if_neg hi2] at h
  have hib : decide ((0 : Int) ≤ table_at.idx (fun y => y.f0 == a1_0) l0) = false := decide_eq_false hi
  clear hi hi2
  generalize table_at.idx (fun y => y.f0 == a1_0) l0 = i at HAT hib
  obtain ⟨xs, hxs⟩ : ∃ xs, l0 ++ [(⟨a1_0, a1_1, a1_2, a1_3, a1_4, a1_5⟩ : S44)] = xs := ⟨_, rfl⟩
  rw [hxs] at h
  have HXL := am_ (show xs.length = l0.length + 1 by rw [← hxs]; simp)
  cases m with
  | false =>
   rw [if_neg (by decide)] at h
   simp only [Option.some.injEq, Prod.mk.injEq] at h
   obtain ⟨rfl, rfl⟩ := h
   go_enter Tryz.func24, Tryz.ntmps24
   go_wp2_with (first
    | (go_at_call 51; refine (HCL.out _ (c4_ HR.out (p3_ (Below.refl _ _) _))).mono ?_; rintro e w1 ⟨v, rfl, hv, hb1⟩; have HV := am_ (Kd.R_lower hv (show w.heap.size ≤ _ by first | (simp; done) | exact Nat.le_succ _)); have HVB := am_ hv; have E1 := am_ (kb_ (blk_new w (.cells #[.int .i64 a1_0, .int .i64 a1_1, .string a1_2, .int .i64 a1_3, .string a1_4, .bool a1_5] 44)) hb1); have HB := am_ (bt_ (p3_ (Below.refl _ _) _) hb1); have u0 := bc_ E1.out 0; clear hb1 hv)
    | (go_at_call 50; refine (HAT.out _ (c4_ HR.out HB.out)).mono ?_; rintro e w2 ⟨rfl, hb2⟩; have HV2 := am_ (Kd.R_below HV.out hb2); have HVB2 := am_ (Kd.R_below HVB.out hb2); have E2 := am_ (kb_ E1.out hb2); have HB2 := am_ (bt_ HB.out hb2); have x0 := bc_ E2.out 0; have x1 := bc_ E2.out 1; have x2 := bc_ E2.out 2; have x3 := bc_ E2.out 3; have x4 := bc_ E2.out 4; have x5 := bc_ E2.out 5; clear hb2)
    | ((with_reducible refine gate_builtin (b := .append) (xs := #[.tmp 20, .tmp 22]) rfl ?_); at_builtin; refine Kd.R_append k44 (w0 := w) w.heap.size rfl (.tmp 20) (.tmp 22) 27 44 (.agg #[.int .i64 0, .int .i64 0, .string ⟨#[]⟩, .int .i64 0, .string ⟨#[]⟩, .bool false]) 64 rfl Tryz.underlying27 table_With.info rfl (by decide) (by omega) v l0 (⟨a1_0, a1_1, a1_2, a1_3, a1_4, a1_5⟩ : S44) [.int .i64 a1_0, .int .i64 a1_1, .string a1_2, .int .i64 a1_3, .string a1_4, .bool a1_5] (fun _ => True) (fun _ => False) rfl rfl ?aP (fun _ hk => hk.elim) ?aF ?aO ?aB ?aS ?aL ?_; (case aP => exact k44_mkM _ _ _ (⟨a1_0, a1_1, a1_2, a1_3, a1_4, a1_5⟩ : S44)); (case aF => exact fun _ _ => trivial); (case aO => exact HV2.out); (case aB => exact HB2.out); (case aS => exact HB2.out.size); (case aL => omega); intro v1 w3 ho hb hg hat; rw [hxs] at ho; obtain ⟨g, cap, rfl, hbg, _, _⟩ := Kd.R_form ho (by have := HXL.out; omega); obtain ⟨cur, hc, _, hcap, hmx, hsz, _, _, hx⟩ := table_With.cells_of ho; have HB3 := am_ hb; have HC3 := am_ hc; have HX3 := am_ hx; have HG := am_ hbg; have HN := am_ hcap; have HMX := am_ hmx; have HSZ := am_ hsz; clear ho hb hg hat hc hx hbg hcap hmx hsz)
    | (go_at_call 52; refine (table_With.sort xs g cap cur w3 HC3.out HN.out HSZ.out HX3.out (by have := HXL.out; omega) (by have := HXL.out; omega)).mono ?_; rintro e w4 ⟨rfl, cur', hc', hs', hx', hg'⟩; have HB4 := am_ (HB3.out.grown hg' HB3.out.size (fun k hk => by cases hk; exact HG.out)); have HV4 := am_ (table_With.of_cells (base := w.heap.size) (ok := fun _ => True) hc' (table_With.srt_length xs).symm HN.out HMX.out hs' HG.out trivial hx'); clear hc' hs' hx' hg')
    | (go_at_call 54; with_reducible refine (HM.out _ (c4_ HR.out HB4.out)).mono ?_; rintro e w5 ⟨rfl, hb5⟩; have HB5 := am_ (bt_ HB4.out hb5); have HV5 := am_ (Kd.R_below HV4.out hb5); clear hb5))
   go_ret2
   exact ⟨_, rfl, Kd.R_nil _ _ _ _ _, HB5.out⟩
  | true =>
   rw [if_pos rfl] at h
   replace h := Option.bind_eq_some_iff.1 h
   obtain ⟨q, hq, h⟩ := h
   have HQ := am_ (show ∀ (W : World) (A : Option Addr) (c : Nat), Kd.C k44 W A xs.length (table_With.srt xs) → xs.length ≤ c → Calls Tryz.prog 54 #[.slice A xs.length c] W fun e w' => e = .returned (.bool q) ∧ Below W.heap.size W w' from fun W A c hr hc => by
    have := table_May_c.calls A c (table_With.srt xs) q W (by rw [table_With.srt_length]; exact hr) (by rw [table_With.srt_length]; exact hc) hq
    rw [table_With.srt_length] at this
    exact this)
   clear hq
   cases q with
   | false =>
    rw [if_neg (by decide)] at h
    simp only [Option.some.injEq, Prod.mk.injEq] at h
    obtain ⟨rfl, rfl⟩ := h
    go_enter Tryz.func24, Tryz.ntmps24
    go_wp2_with (first
     | (go_at_call 51; refine (HCL.out _ (c4_ HR.out (p3_ (Below.refl _ _) _))).mono ?_; rintro e w1 ⟨v, rfl, hv, hb1⟩; have HV := am_ (Kd.R_lower hv (show w.heap.size ≤ _ by first | (simp; done) | exact Nat.le_succ _)); have HVB := am_ hv; have E1 := am_ (kb_ (blk_new w (.cells #[.int .i64 a1_0, .int .i64 a1_1, .string a1_2, .int .i64 a1_3, .string a1_4, .bool a1_5] 44)) hb1); have HB := am_ (bt_ (p3_ (Below.refl _ _) _) hb1); have u0 := bc_ E1.out 0; clear hb1 hv)
     | (go_at_call 50; refine (HAT.out _ (c4_ HR.out HB.out)).mono ?_; rintro e w2 ⟨rfl, hb2⟩; have HV2 := am_ (Kd.R_below HV.out hb2); have HVB2 := am_ (Kd.R_below HVB.out hb2); have E2 := am_ (kb_ E1.out hb2); have HB2 := am_ (bt_ HB.out hb2); have x0 := bc_ E2.out 0; have x1 := bc_ E2.out 1; have x2 := bc_ E2.out 2; have x3 := bc_ E2.out 3; have x4 := bc_ E2.out 4; have x5 := bc_ E2.out 5; clear hb2)
     | ((with_reducible refine gate_builtin (b := .append) (xs := #[.tmp 20, .tmp 22]) rfl ?_); at_builtin; refine Kd.R_append k44 (w0 := w) w.heap.size rfl (.tmp 20) (.tmp 22) 27 44 (.agg #[.int .i64 0, .int .i64 0, .string ⟨#[]⟩, .int .i64 0, .string ⟨#[]⟩, .bool false]) 64 rfl Tryz.underlying27 table_With.info rfl (by decide) (by omega) v l0 (⟨a1_0, a1_1, a1_2, a1_3, a1_4, a1_5⟩ : S44) [.int .i64 a1_0, .int .i64 a1_1, .string a1_2, .int .i64 a1_3, .string a1_4, .bool a1_5] (fun _ => True) (fun _ => False) rfl rfl ?aP (fun _ hk => hk.elim) ?aF ?aO ?aB ?aS ?aL ?_; (case aP => exact k44_mkM _ _ _ (⟨a1_0, a1_1, a1_2, a1_3, a1_4, a1_5⟩ : S44)); (case aF => exact fun _ _ => trivial); (case aO => exact HV2.out); (case aB => exact HB2.out); (case aS => exact HB2.out.size); (case aL => omega); intro v1 w3 ho hb hg hat; rw [hxs] at ho; obtain ⟨g, cap, rfl, hbg, _, _⟩ := Kd.R_form ho (by have := HXL.out; omega); obtain ⟨cur, hc, _, hcap, hmx, hsz, _, _, hx⟩ := table_With.cells_of ho; have HB3 := am_ hb; have HC3 := am_ hc; have HX3 := am_ hx; have HG := am_ hbg; have HN := am_ hcap; have HMX := am_ hmx; have HSZ := am_ hsz; clear ho hb hg hat hc hx hbg hcap hmx hsz)
     | (go_at_call 52; refine (table_With.sort xs g cap cur w3 HC3.out HN.out HSZ.out HX3.out (by have := HXL.out; omega) (by have := HXL.out; omega)).mono ?_; rintro e w4 ⟨rfl, cur', hc', hs', hx', hg'⟩; have HB4 := am_ (HB3.out.grown hg' HB3.out.size (fun k hk => by cases hk; exact HG.out)); have HV4 := am_ (table_With.of_cells (base := w.heap.size) (ok := fun _ => True) hc' (table_With.srt_length xs).symm HN.out HMX.out hs' HG.out trivial hx'); clear hc' hs' hx' hg')
     | (go_at_call 54; with_reducible refine (HM.out _ (c4_ HR.out HB4.out)).mono ?_; rintro e w5 ⟨rfl, hb5⟩; have HB5 := am_ (bt_ HB4.out hb5); have HV5 := am_ (Kd.R_below HV4.out hb5); clear hb5)
     | (go_at_call 54; with_reducible refine (HQ.out _ _ _ (by have := (Kd.R_reads' HV5.out).2.2; rw [table_With.srt_length] at this; exact this) HN.out).mono ?_; rintro e w6 ⟨rfl, hb6⟩; have HB6 := am_ (bt_ HB5.out hb6); have HV6 := am_ (Kd.R_below HV5.out hb6); clear hb6))
    go_ret2
    exact ⟨_, rfl, Kd.R_nil _ _ _ _ _, HB6.out⟩
   | true =>
    rw [if_pos rfl] at h
    simp only [Option.some.injEq, Prod.mk.injEq] at h
    obtain ⟨rfl, rfl⟩ := h
    go_enter Tryz.func24, Tryz.ntmps24
    go_wp2_with (first
     | (go_at_call 51; refine (HCL.out _ (c4_ HR.out (p3_ (Below.refl _ _) _))).mono ?_; rintro e w1 ⟨v, rfl, hv, hb1⟩; have HV := am_ (Kd.R_lower hv (show w.heap.size ≤ _ by first | (simp; done) | exact Nat.le_succ _)); have HVB := am_ hv; have E1 := am_ (kb_ (blk_new w (.cells #[.int .i64 a1_0, .int .i64 a1_1, .string a1_2, .int .i64 a1_3, .string a1_4, .bool a1_5] 44)) hb1); have HB := am_ (bt_ (p3_ (Below.refl _ _) _) hb1); have u0 := bc_ E1.out 0; clear hb1 hv)
     | (go_at_call 50; refine (HAT.out _ (c4_ HR.out HB.out)).mono ?_; rintro e w2 ⟨rfl, hb2⟩; have HV2 := am_ (Kd.R_below HV.out hb2); have HVB2 := am_ (Kd.R_below HVB.out hb2); have E2 := am_ (kb_ E1.out hb2); have HB2 := am_ (bt_ HB.out hb2); have x0 := bc_ E2.out 0; have x1 := bc_ E2.out 1; have x2 := bc_ E2.out 2; have x3 := bc_ E2.out 3; have x4 := bc_ E2.out 4; have x5 := bc_ E2.out 5; clear hb2)
     | ((with_reducible refine gate_builtin (b := .append) (xs := #[.tmp 20, .tmp 22]) rfl ?_); at_builtin; refine Kd.R_append k44 (w0 := w) w.heap.size rfl (.tmp 20) (.tmp 22) 27 44 (.agg #[.int .i64 0, .int .i64 0, .string ⟨#[]⟩, .int .i64 0, .string ⟨#[]⟩, .bool false]) 64 rfl Tryz.underlying27 table_With.info rfl (by decide) (by omega) v l0 (⟨a1_0, a1_1, a1_2, a1_3, a1_4, a1_5⟩ : S44) [.int .i64 a1_0, .int .i64 a1_1, .string a1_2, .int .i64 a1_3, .string a1_4, .bool a1_5] (fun _ => True) (fun _ => False) rfl rfl ?aP (fun _ hk => hk.elim) ?aF ?aO ?aB ?aS ?aL ?_; (case aP => exact k44_mkM _ _ _ (⟨a1_0, a1_1, a1_2, a1_3, a1_4, a1_5⟩ : S44)); (case aF => exact fun _ _ => trivial); (case aO => exact HV2.out); (case aB => exact HB2.out); (case aS => exact HB2.out.size); (case aL => omega); intro v1 w3 ho hb hg hat; rw [hxs] at ho; obtain ⟨g, cap, rfl, hbg, _, _⟩ := Kd.R_form ho (by have := HXL.out; omega); obtain ⟨cur, hc, _, hcap, hmx, hsz, _, _, hx⟩ := table_With.cells_of ho; have HB3 := am_ hb; have HC3 := am_ hc; have HX3 := am_ hx; have HG := am_ hbg; have HN := am_ hcap; have HMX := am_ hmx; have HSZ := am_ hsz; clear ho hb hg hat hc hx hbg hcap hmx hsz)
     | (go_at_call 52; refine (table_With.sort xs g cap cur w3 HC3.out HN.out HSZ.out HX3.out (by have := HXL.out; omega) (by have := HXL.out; omega)).mono ?_; rintro e w4 ⟨rfl, cur', hc', hs', hx', hg'⟩; have HB4 := am_ (HB3.out.grown hg' HB3.out.size (fun k hk => by cases hk; exact HG.out)); have HV4 := am_ (table_With.of_cells (base := w.heap.size) (ok := fun _ => True) hc' (table_With.srt_length xs).symm HN.out HMX.out hs' HG.out trivial hx'); clear hc' hs' hx' hg')
     | (go_at_call 54; with_reducible refine (HM.out _ (c4_ HR.out HB4.out)).mono ?_; rintro e w5 ⟨rfl, hb5⟩; have HB5 := am_ (bt_ HB4.out hb5); have HV5 := am_ (Kd.R_below HV4.out hb5); clear hb5)
     | (go_at_call 54; with_reducible refine (HQ.out _ _ _ (by have := (Kd.R_reads' HV5.out).2.2; rw [table_With.srt_length] at this; exact this) HN.out).mono ?_; rintro e w6 ⟨rfl, hb6⟩; have HB6 := am_ (bt_ HB5.out hb6); have HV6 := am_ (Kd.R_below HV5.out hb6); clear hb6))
    go_ret2
    exact ⟨_, rfl, HV6.out, HB6.out⟩

end Go.Proofs.YtdhckibkljafgaaGreatDoor.PI
