-- Made by wip/pr.py out of the translation (a turned copy of the kit's print; contracts by hand where said).
import Derived.Test.YtibalpbkmgegnaaGreatDoorPLx0
import Derived.Test.YtibalpbkmgegnaaGreatDoorPLx4
import Derived.Test.YtibalpbkmgegnaaGreatDoorPLx5
import Derived.Test.YtibalpbkmgegnaaGreatDoorPLx13
import Derived.Test.YtibalpbkmgegnaaGreatDoorPLx15
import Derived.Test.YtibalpbkmgegnaaGreatDoorPLx16
import Derived.Test.YtibalpbkmgegnaaGreatDoorPLx17
namespace Go.Proofs.YtibalpbkmgegnaaGreatDoor.PL
open Go.RowKit Go.Proofs.YtibalpbkmgegnaaGreatDoorW.PrintWords Go.Proofs.YtibalpbkmgegnaaGreatDoorW.PrintLast Go.Proofs.YtibalpbkmgegnaaGreatDoorW.PrintMore
-- shrunk
attribute [local go_sem] max2_int min2_int max_two min_two max_three min_three max_four min_four   -- for this text's walks alone
set_option linter.unusedVariables false
set_option linter.unusedSimpArgs false
set_option maxHeartbeats 8000000
set_option maxRecDepth 100000

/-! ### pinfoldref11_Claim: function 7 -/
-- BY HAND
-- 27 28 29 30 31 32 33 34 35
abbrev pinfoldref11_Claim.B (w W:World) (V:Value) (ls:List S44) (cK cQ:Obj):Prop:=Kd.R k44 44 W w.heap.size (fun _=>True) V ls∧W.heap[w.heap.size]?=some cK∧W.heap[w.heap.size+1]?=some cQ∧Below w.heap.size w W
section
variable {w W:World} {V:Value} {ls:List S44} {cK cQ:Obj}
theorem pinfoldref11_Claim.B_mk (h:Kd.R k44 44 W w.heap.size (fun _=>True) V ls) (h1:W.heap[w.heap.size]?=some cK) (h2:W.heap[w.heap.size+1]?=some cQ) (h3:Below w.heap.size w W):pinfoldref11_Claim.B w W V ls cK cQ:=⟨h,h1,h2,h3⟩
theorem pinfoldref11_Claim.B_st (h:pinfoldref11_Claim.B w W V ls cK cQ) {W':World} (hb:Below W.heap.size W W'):pinfoldref11_Claim.B w W' V ls cK cQ:=⟨Kd.R_below h.1 hb,kb_ h.2.1 hb,kb_ h.2.2.1 hb,bt_ h.2.2.2 hb⟩
theorem pinfoldref11_Claim.B_al (h:pinfoldref11_Claim.B w W V ls cK cQ) (o:Obj):pinfoldref11_Claim.B w (W.alloc o) V ls cK cQ:=⟨r1_ h.1 o,k1_ h.2.1 o,k1_ h.2.2.1 o,p3_ h.2.2.2 o⟩
end
theorem pinfoldref11_Claim.info:(Tryz.prog.info? 44).map (fun i=>(i.zero,i.size,i.bytes))=some (some (.agg #[.int .i64 0,.int .i64 0,.string ⟨#[]⟩,.int .i64 0,.string ⟨#[]⟩,.bool false]),6,64):=by kernel_rfl
theorem pinfoldref11_Claim.early (a0 a1:Int) (l2:List Int) (l3:List S95) (a4:Int) (z:ByteArray) (l6:List S93) (ls:List S44) (now:Int) (c:ByteArray):(pickMayB a0 a1 l2 l3 a4 z l6 ls now c && decide (0≤now∧now≤1099510579200))=askedB a0 a1 l2 l3 a4 z l6 ls now c 1099510579200:=by
 unfold pickMayB askedB
 by_cases q:0≤now∧now≤1099510579200
 ·rw [decide_eq_true q,decide_eq_true (show 0≤now∧now≤1099511627776 by omega),Bool.and_true]
 ·rw [decide_eq_false q,Bool.and_false,Bool.false_and,Bool.and_false,Bool.and_false]
def pinfoldref11_Claim.fits (l0_2:List Int) (l0_3:List S95) (a0_5:ByteArray) (l0_6:List S93) (l1:List S44) (q4:ByteArray):Prop:=confFitR l0_2 l0_3 a0_5 l0_6∧tabFitR l1∧l1.length≤4194304∧a0_5.size≤1048576∧(∀x∈l1,x.f4.size≤1048576)∧q4.size≤1048576
instance (l0_2:List Int) (l0_3:List S95) (a0_5:ByteArray) (l0_6:List S93) (l1:List S44) (q4:ByteArray):Decidable (pinfoldref11_Claim.fits l0_2 l0_3 a0_5 l0_6 l1 q4):=by unfold pinfoldref11_Claim.fits;infer_instance
def pinfoldref11_Claim.f (a0_0:Int) (a0_1:Int) (l0_2:List Int) (l0_3:List S95) (a0_4:Int) (a0_5:ByteArray) (l0_6:List S93) (l1:List S44) (a2:Int) (a3:ByteArray) (q0:Bool) (q1 q2 q3:Int) (q4:ByteArray):Option (List S44×Int×Int×Int):=if pinfoldref11_Claim.fits l0_2 l0_3 a0_5 l0_6 l1 q4 then some (claimV (freeB a0_0 a0_1 l0_2 l0_3 a0_4 a0_5 l0_6 l1 a2 a3) a0_0 a0_1 l0_2 l0_3 a0_4 a0_5 l0_6 l1 a2 a3 q0 q1 q2 q3 q4) else none
theorem pinfoldref11_Claim.calls_no (a0_0:Int) (a0_1:Int) (A0_2:Option Addr) (c0_2:Nat) (l0_2:List Int) (A0_3:Option Addr) (c0_3:Nat) (l0_3:List S95) (a0_4:Int) (a0_5:ByteArray) (A0_6:Option Addr) (c0_6:Nat) (l0_6:List S93) (A1:Option Addr) (c1:Nat) (l1:List S44) (a2:Int) (a3:ByteArray) (q0:Bool) (q1 q2 q3:Int) (q4:ByteArray) (r1:List S44) (r2 r3 r4:Int) (w:World) (hr0_2:Kd.C (Kd.int .i64) w A0_2 l0_2.length l0_2) (hc0_2:l0_2.length≤c0_2) (hr0_3:Kd.C k95 w A0_3 l0_3.length l0_3) (hc0_3:l0_3.length≤c0_3) (hr0_6:Kd.C k93 w A0_6 l0_6.length l0_6) (hc0_6:l0_6.length≤c0_6) (hr1:Kd.C k44 w A1 l1.length l1) (hc1:l1.length≤c1) (h:pinfoldref11_Claim.f a0_0 a0_1 l0_2 l0_3 a0_4 a0_5 l0_6 l1 a2 a3 q0 q1 q2 q3 q4=some (r1,r2,r3,r4)) (hno:¬ (askedB a0_0 a0_1 l0_2 l0_3 a0_4 a0_5 l0_6 l1 a2 a3 1099510579200=true∧nameB (bytesOf q4)=true∧0≤q1∧0≤q2∧0≤q3∧(q0=true∨q1=0))) :
  Calls Tryz.prog 7 #[.agg #[.int .i64 a0_0,.int .i64 a0_1,.slice A0_2 l0_2.length c0_2,.slice A0_3 l0_3.length c0_3,.int .i64 a0_4,.string a0_5,.slice A0_6 l0_6.length c0_6],.slice A1 l1.length c1,.int .i64 a2,.string a3,.agg #[.bool q0,.int .i64 q1,.int .i64 q2,.int .i64 q3,.string q4]] w fun e w'=>∃ v0_:Value,e=.returned (.tuple #[v0_,.int .i64 r2,.int .i64 r3,.int .i64 r4])∧Kd.R k44 44 w' w.heap.size (fun _=>True) v0_ r1∧Below w.heap.size w w':=by
 unfold pinfoldref11_Claim.f at h
 by_cases hsq:pinfoldref11_Claim.fits l0_2 l0_3 a0_5 l0_6 l1 q4
 rotate_left
 ·rw [if_neg hsq] at h
  cases h
 rw [if_pos hsq] at h
 obtain ⟨hs,ht,hlm,hz5,hx5,hq⟩:=hsq
 replace h:=e5_ h
 have htold:=claim_told h
 unfold claimV at h
 rw [←Bool.and_assoc,pinfoldref11_Claim.early] at h
 obtain ⟨b1,h1⟩:∃ b,askedB a0_0 a0_1 l0_2 l0_3 a0_4 a0_5 l0_6 l1 a2 a3 1099510579200=b:=⟨_,rfl⟩
 obtain ⟨b2,h2⟩:∃ b,nameB (bytesOf q4)=b:=⟨_,rfl⟩
 unfold reqB at h
 rw [h1,h2] at h
 obtain ⟨W2,hW2⟩:∃ W2,((w.alloc (.cells #[.int .i64 a0_0,.int .i64 a0_1,.slice A0_2 l0_2.length c0_2,.slice A0_3 l0_3.length c0_3,.int .i64 a0_4,.string a0_5,.slice A0_6 l0_6.length c0_6] 26)).alloc (.cells #[.bool q0,.int .i64 q1,.int .i64 q2,.int .i64 q3,.string q4] 29))=W2:=⟨_,rfl⟩
 have HB:=am_ (show Below w.heap.size w W2 by rw [←hW2];repeat (first|exact Below.refl _ _|apply p3_))
 have BK:=am_ (show W2.heap[w.heap.size]?=some (.cells #[.int .i64 a0_0,.int .i64 a0_1,.slice A0_2 l0_2.length c0_2,.slice A0_3 l0_3.length c0_3,.int .i64 a0_4,.string a0_5,.slice A0_6 l0_6.length c0_6] 26) by rw [←hW2];exact k1_ (blk_new w _) _)
 have BQ:=am_ (show W2.heap[w.heap.size+1]?=some (.cells #[.bool q0,.int .i64 q1,.int .i64 q2,.int .i64 q3,.string q4] 29) by
  have:=blk_new (w.alloc (.cells #[.int .i64 a0_0,.int .i64 a0_1,.slice A0_2 l0_2.length c0_2,.slice A0_3 l0_3.length c0_3,.int .i64 a0_4,.string a0_5,.slice A0_6 l0_6.length c0_6] 26)) (.cells #[.bool q0,.int .i64 q1,.int .i64 q2,.int .i64 q3,.string q4] 29)
  rw [hW2] at this
  simpa using this)
 replace hW2:=am_ hW2
 have C1:=am_ (fun W (hb:Below w.heap.size w W)=>pinfoldref11_asked_c.calls a0_0 a0_1 A0_2 c0_2 l0_2 A0_3 c0_3 l0_3 a0_4 a0_5 A0_6 c0_6 l0_6 A1 c1 l1 a2 a3 1099510579200 b1 W (c4_ hr0_2 hb) hc0_2 (c4_ hr0_3 hb) hc0_3 (c4_ hr0_6 hb) hc0_6 (c4_ hr1 hb) hc1 (by unfold pinfoldref11_asked_c.f;rw [if_pos ⟨hs,ht⟩,h1]))
 have C2:=am_ (fun W=>pinfoldref1_NameMay_c.calls q4 b2 W (by unfold pinfoldref1_NameMay_c.f;rw [if_pos (by omega),h2]))
 cases b1 with
 | false =>
  rw [Bool.false_and,if_neg (by decide)] at h
  obtain ⟨rfl,h5⟩:=Prod.mk.inj h
  obtain ⟨rfl,h6⟩:=Prod.mk.inj h5
  obtain ⟨rfl,rfl⟩:=Prod.mk.inj h6
  clear h6 h5 h
  clear htold C2 h1 h2 hs ht hlm hz5 hx5 hq hr0_2 hr0_3 hr0_6 hc0_2 hc0_3 hc0_6 hr1 hc1
  go_enter Tryz.func7,Tryz.ntmps7
  go_wp2_with (first|(go_at_call 27;(try rw [hW2.out]);(with_reducible refine (C1.out _ HB.out).mono ?_);rintro e w1 ⟨rfl,hb2⟩;replace BK:=am_ (kb_ BK.out hb2);replace BQ:=am_ (kb_ BQ.out hb2);replace HB:=am_ (bt_ HB.out hb2);clear hb2;(try clear u v);have u:=fun k=>bc_ BK.out k;have v:=fun k=>bc_ BQ.out k))
  ((try simp only [Exit.inBlock,Exit.then]);refine bodyPost_ret (results_tmp4 rfl _ _ _) rfl ?_)
  exact ⟨_,rfl,Kd.R_nil _ _ _ _ _,(by repeat (with_reducible first|exact HB.out|apply p3_))⟩
 | true =>
 cases b2 with
 | false =>
  rw [Bool.false_and,Bool.and_false,if_neg (by decide)] at h
  obtain ⟨rfl,h5⟩:=Prod.mk.inj h
  obtain ⟨rfl,h6⟩:=Prod.mk.inj h5
  obtain ⟨rfl,rfl⟩:=Prod.mk.inj h6
  clear h6 h5 h
  clear htold h1 h2 hs ht hlm hz5 hx5 hq hr0_2 hr0_3 hr0_6 hc0_2 hc0_3 hc0_6 hr1 hc1
  go_enter Tryz.func7,Tryz.ntmps7
  go_wp2_with (first|(go_at_call 27;(try rw [hW2.out]);(with_reducible refine (C1.out _ HB.out).mono ?_);rintro e w1 ⟨rfl,hb2⟩;replace BK:=am_ (kb_ BK.out hb2);replace BQ:=am_ (kb_ BQ.out hb2);replace HB:=am_ (bt_ HB.out hb2);clear hb2;(try clear u v);have u:=fun k=>bc_ BK.out k;have v:=fun k=>bc_ BQ.out k)|(go_at_call 28;(with_reducible refine (C2.out _).mono ?_);rintro e w2 ⟨rfl,hb2⟩;replace BK:=am_ (kb_ BK.out hb2);replace BQ:=am_ (kb_ BQ.out hb2);replace HB:=am_ (bt_ HB.out hb2);clear hb2;(try clear u v);have u:=fun k=>bc_ BK.out k;have v:=fun k=>bc_ BQ.out k))
  ((try simp only [Exit.inBlock,Exit.then]);refine bodyPost_ret (results_tmp4 rfl _ _ _) rfl ?_)
  exact ⟨_,rfl,Kd.R_nil _ _ _ _ _,(by repeat (with_reducible first|exact HB.out|apply p3_))⟩
 | true =>
 rw [Bool.true_and,Bool.true_and] at h
 by_cases n1:q1 < 0
 ·rw [decide_eq_false (show ¬(0≤q1) by omega)] at h
  simp only [Bool.false_and,Bool.and_false,Bool.false_eq_true,if_false] at h
  obtain ⟨rfl,h5⟩:=Prod.mk.inj h
  obtain ⟨rfl,h6⟩:=Prod.mk.inj h5
  obtain ⟨rfl,rfl⟩:=Prod.mk.inj h6
  clear h6 h5 h
  clear htold h1 h2 hs ht hlm hz5 hx5 hq hr0_2 hr0_3 hr0_6 hc0_2 hc0_3 hc0_6 hr1 hc1
  go_enter Tryz.func7,Tryz.ntmps7
  go_wp2_with (first|(go_at_call 27;(try rw [hW2.out]);(with_reducible refine (C1.out _ HB.out).mono ?_);rintro e w1 ⟨rfl,hb2⟩;replace BK:=am_ (kb_ BK.out hb2);replace BQ:=am_ (kb_ BQ.out hb2);replace HB:=am_ (bt_ HB.out hb2);clear hb2;(try clear u v);have u:=fun k=>bc_ BK.out k;have v:=fun k=>bc_ BQ.out k)|(go_at_call 28;(with_reducible refine (C2.out _).mono ?_);rintro e w2 ⟨rfl,hb2⟩;replace BK:=am_ (kb_ BK.out hb2);replace BQ:=am_ (kb_ BQ.out hb2);replace HB:=am_ (bt_ HB.out hb2);clear hb2;(try clear u v);have u:=fun k=>bc_ BK.out k;have v:=fun k=>bc_ BQ.out k))
  ((try simp only [Exit.inBlock,Exit.then]);refine bodyPost_ret (results_tmp4 rfl _ _ _) rfl ?_)
  exact ⟨_,rfl,Kd.R_nil _ _ _ _ _,(by repeat (with_reducible first|exact HB.out|apply p3_))⟩
 rw [decide_eq_true (show 0≤q1 by omega),Bool.true_and] at h
 by_cases n2:q2 < 0
 ·rw [decide_eq_false (show ¬(0≤q2) by omega)] at h
  simp only [Bool.false_and,Bool.and_false,Bool.false_eq_true,if_false] at h
  obtain ⟨rfl,h5⟩:=Prod.mk.inj h
  obtain ⟨rfl,h6⟩:=Prod.mk.inj h5
  obtain ⟨rfl,rfl⟩:=Prod.mk.inj h6
  clear h6 h5 h
  clear htold h1 h2 hs ht hlm hz5 hx5 hq hr0_2 hr0_3 hr0_6 hc0_2 hc0_3 hc0_6 hr1 hc1
  go_enter Tryz.func7,Tryz.ntmps7
  go_wp2_with (first|(go_at_call 27;(try rw [hW2.out]);(with_reducible refine (C1.out _ HB.out).mono ?_);rintro e w1 ⟨rfl,hb2⟩;replace BK:=am_ (kb_ BK.out hb2);replace BQ:=am_ (kb_ BQ.out hb2);replace HB:=am_ (bt_ HB.out hb2);clear hb2;(try clear u v);have u:=fun k=>bc_ BK.out k;have v:=fun k=>bc_ BQ.out k)|(go_at_call 28;(with_reducible refine (C2.out _).mono ?_);rintro e w2 ⟨rfl,hb2⟩;replace BK:=am_ (kb_ BK.out hb2);replace BQ:=am_ (kb_ BQ.out hb2);replace HB:=am_ (bt_ HB.out hb2);clear hb2;(try clear u v);have u:=fun k=>bc_ BK.out k;have v:=fun k=>bc_ BQ.out k))
  ((try simp only [Exit.inBlock,Exit.then]);refine bodyPost_ret (results_tmp4 rfl _ _ _) rfl ?_)
  exact ⟨_,rfl,Kd.R_nil _ _ _ _ _,(by repeat (with_reducible first|exact HB.out|apply p3_))⟩
 rw [decide_eq_true (show 0≤q2 by omega),Bool.true_and] at h
 by_cases n3:q3 < 0
 ·rw [decide_eq_false (show ¬(0≤q3) by omega)] at h
  simp only [Bool.false_and,Bool.and_false,Bool.false_eq_true,if_false] at h
  obtain ⟨rfl,h5⟩:=Prod.mk.inj h
  obtain ⟨rfl,h6⟩:=Prod.mk.inj h5
  obtain ⟨rfl,rfl⟩:=Prod.mk.inj h6
  clear h6 h5 h
  clear htold h1 h2 hs ht hlm hz5 hx5 hq hr0_2 hr0_3 hr0_6 hc0_2 hc0_3 hc0_6 hr1 hc1
  go_enter Tryz.func7,Tryz.ntmps7
  go_wp2_with (first|(go_at_call 27;(try rw [hW2.out]);(with_reducible refine (C1.out _ HB.out).mono ?_);rintro e w1 ⟨rfl,hb2⟩;replace BK:=am_ (kb_ BK.out hb2);replace BQ:=am_ (kb_ BQ.out hb2);replace HB:=am_ (bt_ HB.out hb2);clear hb2;(try clear u v);have u:=fun k=>bc_ BK.out k;have v:=fun k=>bc_ BQ.out k)|(go_at_call 28;(with_reducible refine (C2.out _).mono ?_);rintro e w2 ⟨rfl,hb2⟩;replace BK:=am_ (kb_ BK.out hb2);replace BQ:=am_ (kb_ BQ.out hb2);replace HB:=am_ (bt_ HB.out hb2);clear hb2;(try clear u v);have u:=fun k=>bc_ BK.out k;have v:=fun k=>bc_ BQ.out k))
  ((try simp only [Exit.inBlock,Exit.then]);refine bodyPost_ret (results_tmp4 rfl _ _ _) rfl ?_)
  exact ⟨_,rfl,Kd.R_nil _ _ _ _ _,(by repeat (with_reducible first|exact HB.out|apply p3_))⟩
 rw [decide_eq_true (show 0≤q3 by omega),Bool.true_and] at h
 have hcl:=client_parts (show clientB a3=true by
  have h3:=h1
  unfold askedB at h3
  simp only [Bool.and_eq_true] at h3
  exact h3.2.2.2)
 have hT:tableB l1=true:=by
  have h3:=h1
  unfold askedB at h3
  simp only [Bool.and_eq_true] at h3
  exact h3.2.1
 have hn:0≤a2∧a2≤1099510579200:=by
  have h3:=h1
  unfold askedB at h3
  simp only [Bool.and_eq_true,decide_eq_true_eq] at h3
  exact h3.2.2.1
 have ha4:1≤a0_4∧a0_4≤1048576:=by
  have h3:=h1
  unfold askedB at h3
  rw [Bool.and_eq_true] at h3
  have h4:=h3.1
  unfold confB at h4
  simp only [Bool.and_eq_true,decide_eq_true_eq] at h4
  exact h4.2.1
 have hw:IntKind.i64.wrap (a2+a0_4)=a2+a0_4:=(i64_w _).trans (by unfold wrap64;omega)
 have h8:=(table_sorted hT).2.2
 by_cases n4:q0=false∧q1≠0
 ·obtain ⟨rfl,n5⟩:=n4
  rw [decide_eq_false n5,if_neg (by decide)] at h
  obtain ⟨rfl,h5⟩:=Prod.mk.inj h
  obtain ⟨rfl,h6⟩:=Prod.mk.inj h5
  obtain ⟨rfl,rfl⟩:=Prod.mk.inj h6
  clear h6 h5 h
  have n6:(q1 != 0)=true:=by simpa using n5
  clear htold h1 h2 hs ht hlm hz5 hx5 hq hr0_2 hr0_3 hr0_6 hc0_2 hc0_3 hc0_6 hr1 hc1 hcl hT hn ha4 hw h8 n5
  go_enter Tryz.func7,Tryz.ntmps7
  go_wp2_with (first|(go_at_call 27;(try rw [hW2.out]);(with_reducible refine (C1.out _ HB.out).mono ?_);rintro e w1 ⟨rfl,hb2⟩;replace BK:=am_ (kb_ BK.out hb2);replace BQ:=am_ (kb_ BQ.out hb2);replace HB:=am_ (bt_ HB.out hb2);clear hb2;(try clear u v);have u:=fun k=>bc_ BK.out k;have v:=fun k=>bc_ BQ.out k)|(go_at_call 28;(with_reducible refine (C2.out _).mono ?_);rintro e w2 ⟨rfl,hb2⟩;replace BK:=am_ (kb_ BK.out hb2);replace BQ:=am_ (kb_ BQ.out hb2);replace HB:=am_ (bt_ HB.out hb2);clear hb2;(try clear u v);have u:=fun k=>bc_ BK.out k;have v:=fun k=>bc_ BQ.out k))
  ((try simp only [Exit.inBlock,Exit.then]);refine bodyPost_ret (results_tmp4 rfl _ _ _) rfl ?_)
  exact ⟨_,rfl,Kd.R_nil _ _ _ _ _,(by repeat (with_reducible first|exact HB.out|apply p3_))⟩
 refine absurd ⟨h1,h2,by omega,by omega,by omega,?_⟩ hno
 cases q0 with
 | true=>exact .inl rfl
 | false =>
  by_cases e:q1=0
  ·exact .inr e
  ·exact absurd ⟨rfl,e⟩ n4
theorem pinfoldref11_Claim.calls_1 (a0_0:Int) (a0_1:Int) (A0_2:Option Addr) (c0_2:Nat) (l0_2:List Int) (A0_3:Option Addr) (c0_3:Nat) (l0_3:List S95) (a0_4:Int) (a0_5:ByteArray) (A0_6:Option Addr) (c0_6:Nat) (l0_6:List S93) (A1:Option Addr) (c1:Nat) (l1:List S44) (a2:Int) (a3:ByteArray) (q0:Bool) (q1 q2 q3:Int) (q4:ByteArray) (r1:List S44) (r2 r3 r4:Int) (w:World) (hr0_2:Kd.C (Kd.int .i64) w A0_2 l0_2.length l0_2) (hc0_2:l0_2.length≤c0_2) (hr0_3:Kd.C k95 w A0_3 l0_3.length l0_3) (hc0_3:l0_3.length≤c0_3) (hr0_6:Kd.C k93 w A0_6 l0_6.length l0_6) (hc0_6:l0_6.length≤c0_6) (hr1:Kd.C k44 w A1 l1.length l1) (hc1:l1.length≤c1) (h:pinfoldref11_Claim.f a0_0 a0_1 l0_2 l0_3 a0_4 a0_5 l0_6 l1 a2 a3 q0 q1 q2 q3 q4=some (r1,r2,r3,r4)) (hyes:askedB a0_0 a0_1 l0_2 l0_3 a0_4 a0_5 l0_6 l1 a2 a3 1099510579200=true∧nameB (bytesOf q4)=true∧0≤q1∧0≤q2∧0≤q3∧(q0=true∨q1=0)) (hv:q0=true) :
  Calls Tryz.prog 7 #[.agg #[.int .i64 a0_0,.int .i64 a0_1,.slice A0_2 l0_2.length c0_2,.slice A0_3 l0_3.length c0_3,.int .i64 a0_4,.string a0_5,.slice A0_6 l0_6.length c0_6],.slice A1 l1.length c1,.int .i64 a2,.string a3,.agg #[.bool q0,.int .i64 q1,.int .i64 q2,.int .i64 q3,.string q4]] w fun e w'=>∃ v0_:Value,e=.returned (.tuple #[v0_,.int .i64 r2,.int .i64 r3,.int .i64 r4])∧Kd.R k44 44 w' w.heap.size (fun _=>True) v0_ r1∧Below w.heap.size w w':=by
 unfold pinfoldref11_Claim.f at h
 by_cases hsq:pinfoldref11_Claim.fits l0_2 l0_3 a0_5 l0_6 l1 q4
 rotate_left
 ·rw [if_neg hsq] at h
  cases h
 rw [if_pos hsq] at h
 obtain ⟨hs,ht,hlm,hz5,hx5,hq⟩:=hsq
 replace h:=e5_ h
 have htold:=claim_told h
 unfold claimV at h
 rw [←Bool.and_assoc,pinfoldref11_Claim.early] at h
 obtain ⟨b1,h1⟩:∃ b,askedB a0_0 a0_1 l0_2 l0_3 a0_4 a0_5 l0_6 l1 a2 a3 1099510579200=b:=⟨_,rfl⟩
 obtain ⟨b2,h2⟩:∃ b,nameB (bytesOf q4)=b:=⟨_,rfl⟩
 unfold reqB at h
 rw [h1,h2] at h
 obtain ⟨W2,hW2⟩:∃ W2,((w.alloc (.cells #[.int .i64 a0_0,.int .i64 a0_1,.slice A0_2 l0_2.length c0_2,.slice A0_3 l0_3.length c0_3,.int .i64 a0_4,.string a0_5,.slice A0_6 l0_6.length c0_6] 26)).alloc (.cells #[.bool q0,.int .i64 q1,.int .i64 q2,.int .i64 q3,.string q4] 29))=W2:=⟨_,rfl⟩
 have HB:=am_ (show Below w.heap.size w W2 by rw [←hW2];repeat (first|exact Below.refl _ _|apply p3_))
 have BK:=am_ (show W2.heap[w.heap.size]?=some (.cells #[.int .i64 a0_0,.int .i64 a0_1,.slice A0_2 l0_2.length c0_2,.slice A0_3 l0_3.length c0_3,.int .i64 a0_4,.string a0_5,.slice A0_6 l0_6.length c0_6] 26) by rw [←hW2];exact k1_ (blk_new w _) _)
 have BQ:=am_ (show W2.heap[w.heap.size+1]?=some (.cells #[.bool q0,.int .i64 q1,.int .i64 q2,.int .i64 q3,.string q4] 29) by
  have:=blk_new (w.alloc (.cells #[.int .i64 a0_0,.int .i64 a0_1,.slice A0_2 l0_2.length c0_2,.slice A0_3 l0_3.length c0_3,.int .i64 a0_4,.string a0_5,.slice A0_6 l0_6.length c0_6] 26)) (.cells #[.bool q0,.int .i64 q1,.int .i64 q2,.int .i64 q3,.string q4] 29)
  rw [hW2] at this
  simpa using this)
 replace hW2:=am_ hW2
 have C1:=am_ (fun W (hb:Below w.heap.size w W)=>pinfoldref11_asked_c.calls a0_0 a0_1 A0_2 c0_2 l0_2 A0_3 c0_3 l0_3 a0_4 a0_5 A0_6 c0_6 l0_6 A1 c1 l1 a2 a3 1099510579200 b1 W (c4_ hr0_2 hb) hc0_2 (c4_ hr0_3 hb) hc0_3 (c4_ hr0_6 hb) hc0_6 (c4_ hr1 hb) hc1 (by unfold pinfoldref11_asked_c.f;rw [if_pos ⟨hs,ht⟩,h1]))
 have C2:=am_ (fun W=>pinfoldref1_NameMay_c.calls q4 b2 W (by unfold pinfoldref1_NameMay_c.f;rw [if_pos (by omega),h2]))
 obtain ⟨y1,y2,n1',n2',n3',y4⟩:=hyes
 obtain rfl:b1=true:=h1.symm.trans y1
 obtain rfl:b2=true:=h2.symm.trans y2
 rw [Bool.true_and,Bool.true_and,decide_eq_true n1',decide_eq_true n2',decide_eq_true n3',Bool.true_and,Bool.true_and,Bool.true_and] at h
 have n1:¬ q1 < 0:=by omega
 have n2:¬ q2 < 0:=by omega
 have n3:¬ q3 < 0:=by omega
 have n4:¬ (q0=false∧q1≠0):=by
  rintro ⟨e,e'⟩
  rcases y4 with e2|e2
  ·rw [e] at e2
   cases e2
  ·exact e' e2
 clear y1 y2 n1' n2' n3' y4
 have hcl:=client_parts (show clientB a3=true by
  have h3:=h1
  unfold askedB at h3
  simp only [Bool.and_eq_true] at h3
  exact h3.2.2.2)
 have hT:tableB l1=true:=by
  have h3:=h1
  unfold askedB at h3
  simp only [Bool.and_eq_true] at h3
  exact h3.2.1
 have hn:0≤a2∧a2≤1099510579200:=by
  have h3:=h1
  unfold askedB at h3
  simp only [Bool.and_eq_true,decide_eq_true_eq] at h3
  exact h3.2.2.1
 have ha4:1≤a0_4∧a0_4≤1048576:=by
  have h3:=h1
  unfold askedB at h3
  rw [Bool.and_eq_true] at h3
  have h4:=h3.1
  unfold confB at h4
  simp only [Bool.and_eq_true,decide_eq_true_eq] at h4
  exact h4.2.1
 have hw:IntKind.i64.wrap (a2+a0_4)=a2+a0_4:=(i64_w _).trans (by unfold wrap64;omega)
 have h8:=(table_sorted hT).2.2
 rw [if_pos (by
  cases q0 with
  | true=>rfl
  | false =>
   have:q1=0:=by
    by_cases e:q1=0
    ·exact e
    ·exact absurd ⟨rfl,e⟩ n4
   rw [decide_eq_true this]
   rfl)] at h
 obtain ⟨hh,hhh⟩:∃ v,claimHost q0 q2 q3=v:=⟨_,rfl⟩
 rw [hhh] at h
 obtain ⟨lt,hlt⟩:∃ b,lentB a0_0 a0_1 l0_2 l0_3 a0_4 a0_5 l0_6 hh a3=b:=⟨_,rfl⟩
 rw [hlt] at h
 rw [←refclaim_go (freeB a0_0 a0_1 l0_2 l0_3 a0_4 a0_5 l0_6 l1 a2 a3) a0_4 l1 a2 a3 hh lt q0 q1 q4 hT hcl.1] at h
 obtain ⟨isx,hix⟩:∃ b,(findL l1 hh).isSome=b:=⟨_,rfl⟩
 obtain ⟨x,hx⟩:∃ x,gotL (findL l1 hh)=x:=⟨_,rfl⟩
 rw [hix,hx] at h
 have hsz:x.f4.size≤1048576:=by
  rw [←hx]
  cases e:findL l1 hh with
  | none=>exact (by decide:(⟨#[]⟩:ByteArray).size≤1048576)
  | some y=>exact hx5 y (List.mem_of_find?_eq_some e)
 have hxn:isx=false→x=z44:=by
  intro e
  rw [e] at hix
  cases e2:findL l1 hh with
  | none=>rw [←hx,e2];rfl
  | some y=>rw [e2] at hix;cases hix
 have C5:=am_ (fun W (hb:Below w.heap.size w W)=>pinfoldref11_FindLease_c.calls A1 c1 l1 hh x.f0 x.f1 x.f2 x.f3 x.f4 x.f5 isx W (c4_ hr1 hb) hc1 (by unfold pinfoldref11_FindLease_c.f;rw [if_pos ht.1,hx,hix]))
 obtain ⟨x0,x1,x2,x3,x4,x5⟩:=x
 obtain ⟨lv,hlv⟩:∃ b,liveB x0 x1 x2 x3 x4 x5 a2=b:=⟨_,rfl⟩
 obtain ⟨bh,hbh⟩:∃ b,holdsB x0 x1 x2 x3 x4 x5 a3 a2=b:=⟨_,rfl⟩
 simp only at hsz C5
 have C6:=am_ (fun W=>pinfoldref11_Live_c.calls x0 x1 x2 x3 x4 x5 a2 lv W (by unfold pinfoldref11_Live_c.f;rw [if_pos (by omega),hlv]))
 have C7:=am_ (fun W (hb:Below w.heap.size w W)=>pinfoldref11_mayHave_c.calls a0_0 a0_1 A0_2 c0_2 l0_2 A0_3 c0_3 l0_3 a0_4 a0_5 A0_6 c0_6 l0_6 hh a3 lt W (c4_ hr0_2 hb) hc0_2 (c4_ hr0_3 hb) hc0_3 (c4_ hr0_6 hb) hc0_6 (by unfold pinfoldref11_mayHave_c.f;rw [if_pos hs,hlt]))
 have C8:=am_ (fun W=>pinfoldref11_his_c.calls x0 x1 x2 x3 x4 x5 a3 a2 bh W (by unfold pinfoldref11_his_c.f;rw [if_pos (by omega),hbh]))
 have HR1:=am_ hr1
 have CDg:=fun (but:Int) (bd:Bool) W (hb:Below w.heap.size w W)=>pinfoldref11_lets_c.calls A1 c1 l1 a3 a2 but bd (dropL (letsP bd) a3 a2 but l1) W (c4_ hr1 hb) hc1 (by unfold pinfoldref11_lets_c.f;rw [if_pos ⟨ht,hlm⟩])
 have CFg:=fun (K:ByteArray) (hK:K.size≤1048576) W (hb:Below w.heap.size w W)=>pinfoldref11_FreeName.calls a0_0 a0_1 A0_2 c0_2 l0_2 A0_3 c0_3 l0_3 a0_4 a0_5 A0_6 c0_6 l0_6 A1 c1 l1 a2 a3 K (freeB a0_0 a0_1 l0_2 l0_3 a0_4 a0_5 l0_6 l1 a2 a3 K) (if mayFree a0_0 a0_1 l0_2 l0_3 a0_4 a0_5 l0_6 l1 K then 0 else 1600) W (c4_ hr0_2 hb) hc0_2 (c4_ hr0_3 hb) hc0_3 (c4_ hr0_6 hb) hc0_6 (c4_ hr1 hb) hc1 (by unfold pinfoldref11_FreeName.f;rw [if_pos ⟨⟨hs,hK,hz5⟩,ht.1,hx5⟩])
 have CPg:=fun (D:List S44) (hD:D.length≤1099511627776) (y:S44) W A c (h1:Kd.C k44 W A D.length D) (h2:D.length≤c)=>pinfoldref11_put_c.calls A c D y.f0 y.f1 y.f2 y.f3 y.f4 y.f5 (putL D y) W h1 h2 (by unfold pinfoldref11_put_c.f;rw [if_pos hD])
 have hDl:∀ q,(dropL q a3 a2 hh l1).length=l1.length:=fun q=>by unfold dropL;rw [List.length_map]
 have hlive:liveX a2 ⟨x0,x1,x2,x3,x4,x5⟩=lv:=hlv
 have hholds:holdsX a3 a2 ⟨x0,x1,x2,x3,x4,x5⟩=bh:=hbh
 unfold refClaimGo at h
 rw [hlive,hholds] at h
 clear htold hix hx hlv hlt h1 h2 hs ht hlm hz5 hr0_2 hr0_3 hr0_6 hc0_2 hc0_3 hc0_6 hr1 hc1 hcl hT hn ha4
 cases q0 with
 | true =>
  have hhe:hh=q2:=by rw [←hhh];exact if_pos (.inl rfl)
  subst hhe
  replace h:=am_ h;replace hhh:=am_ hhh;replace n4:=am_ n4;replace hbh:=am_ hbh;replace hlive:=am_ hlive;replace hholds:=am_ hholds;replace hxn:=am_ hxn;replace hsz:=am_ hsz;replace hx5:=am_ hx5;replace hDl:=am_ hDl;replace CDg:=am_ CDg;replace CFg:=am_ CFg;replace CPg:=am_ CPg;replace hq:=am_ hq
  go_enter Tryz.func7,Tryz.ntmps7
  go_wp2_with (first|(go_at_call 27;(try rw [hW2.out]);(with_reducible refine (C1.out _ HB.out).mono ?_);rintro e w1 ⟨rfl,hb2⟩;replace BK:=am_ (kb_ BK.out hb2);replace BQ:=am_ (kb_ BQ.out hb2);replace HB:=am_ (bt_ HB.out hb2);clear hb2;(try clear u v);have u:=fun k=>bc_ BK.out k;have v:=fun k=>bc_ BQ.out k)|(go_at_call 28;(with_reducible refine (C2.out _).mono ?_);rintro e w2 ⟨rfl,hb2⟩;replace BK:=am_ (kb_ BK.out hb2);replace BQ:=am_ (kb_ BQ.out hb2);replace HB:=am_ (bt_ HB.out hb2);clear hb2;(try clear u v);have u:=fun k=>bc_ BK.out k;have v:=fun k=>bc_ BQ.out k)|((with_reducible refine gate_dst (N:=61) rfl ?_);refine Kd.R_lit k44 w.heap.size 44 ?hg (N:=61) ?hd (xs:=([]:List S44)) (inner:=[]) (ok:=fun _=>True) (okp:=fun _=>True) ?hr ?hp (fun _ hk=>hk) trivial HB.out (bz_ HB.out) (by simp) ?_;(case hd=>rfl);(case hg=>rfl);(case hr=>first|(go_simp;done)|(go_simp;rfl));(case hp=>exact (Reps.none _ _));intro v104 w5 ho6 hb5 hg5 hn5;obtain ⟨bb,hbb,hbl⟩:=hn5;have HBB:=am_ hbb;have HN0:=am_ (show w.heap.size≠bb by have:=blk_lt BK.out;omega);have HN1:=am_ (show w.heap.size+1≠bb by have:=blk_lt BQ.out;omega);replace BK:=am_ (blk_grown BK.out hg5 (by simp));replace BQ:=am_ (blk_grown BQ.out hg5 (by simp));replace HB:=am_ hb5;have HO:=am_ ho6;clear hg5 hbl hbb hb5 ho6;(try clear u v);have u:=fun k=>bc_ BK.out k;have v:=fun k=>bc_ BQ.out k)|((with_reducible refine gate_builtin (b:=.append) (xs:=#[.tmp 61,.tmp 62]) rfl ?_);at_builtin;refine Kd.R_append_rows k44 (w0:=w) w.heap.size rfl (.tmp 61) (.tmp 62) 27 44 (.agg #[.int .i64 0,.int .i64 0,.string ⟨#[]⟩,.int .i64 0,.string ⟨#[]⟩,.bool false]) 64 rfl Tryz.underlying27 pinfoldref11_Claim.info rfl (by decide) (by omega) v104 [] l1 _ _ _ (fun _=>True) (fun _=>False) rfl rfl ?aO ?aR (fun _ _ h=>h) (fun _ h=>h.elim) ?aF ?aB ?aS ?aL ?_;(case aR=>exact c4_ HR1.out HB.out);(case aB=>exact HB.out);(case aF=>exact (fun _ _=>trivial));(case aO=>exact HO.out);(case aS=>exact (bz_ HB.out));(case aL=>simp;omega);intro v107 w9 ho hb9 hg9 hat;rw [List.nil_append] at ho;clear HO;have HO:=am_ ho;replace BK:=am_ (blk_grown BK.out hg9 (by rw [HBB.out];intro e;exact HN0.out (e5_ e)));replace BQ:=am_ (blk_grown BQ.out hg9 (by rw [HBB.out];intro e;exact HN1.out (e5_ e)));replace HB:=am_ hb9;have FB:=am_ (pinfoldref11_Claim.B_mk HO.out BK.out BQ.out HB.out);clear hat hg9 ho hb9 HBB HN0 HN1 HO BK BQ HB;(try clear u v);have u:=fun k=>bc_ FB.out.2.1 k;have v:=fun k=>bc_ FB.out.2.2.1 k))
  replace h:=h.out;replace hhh:=hhh.out;replace n4:=n4.out;replace hbh:=hbh.out;replace hlive:=hlive.out;replace hholds:=hholds.out;replace hxn:=hxn.out;replace hsz:=hsz.out;replace hx5:=hx5.out;replace hDl:=hDl.out;replace CDg:=CDg.out;replace CFg:=CFg.out;replace CPg:=CPg.out;replace hq:=hq.out
  by_cases m1:q1=167772161
  rotate_left
  ·rw [if_pos ⟨by first|rfl|trivial,m1⟩] at h
   obtain ⟨rfl,h5⟩:=Prod.mk.inj h
   obtain ⟨rfl,h6⟩:=Prod.mk.inj h5
   obtain ⟨rfl,rfl⟩:=Prod.mk.inj h6
   clear h6 h5 h
   have m2:(q1 != 167772161)=true:=by simpa using m1
   have CD:=am_ (CDg (-1) false)
   clear hhh hbh hlive hholds hxn hsz hx5 hDl CDg CFg CPg n4 hq
   go_wp2_with (first|(go_at_call 29;(with_reducible refine (C5.out _ FB.out.2.2.2).mono ?_);rintro e w5 ⟨rfl,hb2⟩;replace FB:=am_ (pinfoldref11_Claim.B_al (pinfoldref11_Claim.B_st FB.out hb2) (.cells #[.int .i64 x0,.int .i64 x1,.string x2,.int .i64 x3,.string x4,.bool x5] 44));have BX:=am_ (blk_new w5 (.cells #[.int .i64 x0,.int .i64 x1,.string x2,.int .i64 x3,.string x4,.bool x5] 44));clear hb2 u v;have u:=fun k=>bc_ FB.out.2.1 k;have v:=fun k=>bc_ FB.out.2.2.1 k;have z:=fun k=>bc_ BX.out k)|(go_at_call 30;(with_reducible refine (C6.out _).mono ?_);rintro e w6 ⟨rfl,hb2⟩;replace FB:=am_ (pinfoldref11_Claim.B_st FB.out hb2);replace BX:=am_ (kb_ BX.out hb2);clear hb2 u v z;have u:=fun k=>bc_ FB.out.2.1 k;have v:=fun k=>bc_ FB.out.2.2.1 k;have z:=fun k=>bc_ BX.out k)|(go_at_call 31;(with_reducible refine (CD.out _ FB.out.2.2.2).mono ?_);rintro e w9 ⟨v,rfl,hv,hb2⟩;have HV:=am_ (Kd.R_lower hv (show w.heap.size≤_ from bz_ FB.out.2.2.2));have HB:=am_ (bt_ FB.out.2.2.2 hb2);clear hb2 hv))
   all_goals ((try simp only [Exit.inBlock,Exit.then]);refine bodyPost_ret (results_tmp4 rfl _ _ _) rfl ?_)
   all_goals exact ⟨_,rfl,HV.out,HB.out⟩
  rw [if_neg (fun h=>h.2 m1),if_neg (by rintro ⟨h,_⟩;cases h)] at h
  subst m1
  have m2:((167772161:Int) != 167772161)=false:=by simp
  cases lt with
  | false =>
   rw [if_pos rfl] at h
   obtain ⟨rfl,h5⟩:=Prod.mk.inj h
   obtain ⟨rfl,h6⟩:=Prod.mk.inj h5
   obtain ⟨rfl,rfl⟩:=Prod.mk.inj h6
   clear h6 h5 h
   clear hhh hbh hlive hholds hxn hsz hx5 hDl CDg CFg CPg n4 hq
   go_wp2_with (first|(go_at_call 29;(with_reducible refine (C5.out _ FB.out.2.2.2).mono ?_);rintro e w5 ⟨rfl,hb2⟩;replace FB:=am_ (pinfoldref11_Claim.B_al (pinfoldref11_Claim.B_st FB.out hb2) (.cells #[.int .i64 x0,.int .i64 x1,.string x2,.int .i64 x3,.string x4,.bool x5] 44));have BX:=am_ (blk_new w5 (.cells #[.int .i64 x0,.int .i64 x1,.string x2,.int .i64 x3,.string x4,.bool x5] 44));clear hb2 u v;have u:=fun k=>bc_ FB.out.2.1 k;have v:=fun k=>bc_ FB.out.2.2.1 k;have z:=fun k=>bc_ BX.out k)|(go_at_call 30;(with_reducible refine (C6.out _).mono ?_);rintro e w6 ⟨rfl,hb2⟩;replace FB:=am_ (pinfoldref11_Claim.B_st FB.out hb2);replace BX:=am_ (kb_ BX.out hb2);clear hb2 u v z;have u:=fun k=>bc_ FB.out.2.1 k;have v:=fun k=>bc_ FB.out.2.2.1 k;have z:=fun k=>bc_ BX.out k)|(go_at_call 32;(with_reducible refine (C7.out _ FB.out.2.2.2).mono ?_);rintro e w7 ⟨rfl,hb2⟩;replace FB:=am_ (pinfoldref11_Claim.B_st FB.out hb2);replace BX:=am_ (kb_ BX.out hb2);clear hb2 u v z;have u:=fun k=>bc_ FB.out.2.1 k;have v:=fun k=>bc_ FB.out.2.2.1 k;have z:=fun k=>bc_ BX.out k))
   all_goals ((try simp only [Exit.inBlock,Exit.then]);refine bodyPost_ret (results_tmp4 rfl _ _ _) rfl ?_)
   all_goals exact ⟨_,rfl,FB.out.1,FB.out.2.2.2⟩
  | true =>
  rw [if_neg (by decide)] at h
  cases bh with
  | false =>
   rw [if_pos ⟨by first|rfl|trivial,by first|rfl|trivial⟩] at h
   obtain ⟨rfl,h5⟩:=Prod.mk.inj h
   obtain ⟨rfl,h6⟩:=Prod.mk.inj h5
   obtain ⟨rfl,rfl⟩:=Prod.mk.inj h6
   clear h6 h5 h
   clear hhh hbh hlive hholds hxn hsz hx5 hDl CDg CFg CPg n4 hq
   go_wp2_with (first|(go_at_call 29;(with_reducible refine (C5.out _ FB.out.2.2.2).mono ?_);rintro e w5 ⟨rfl,hb2⟩;replace FB:=am_ (pinfoldref11_Claim.B_al (pinfoldref11_Claim.B_st FB.out hb2) (.cells #[.int .i64 x0,.int .i64 x1,.string x2,.int .i64 x3,.string x4,.bool x5] 44));have BX:=am_ (blk_new w5 (.cells #[.int .i64 x0,.int .i64 x1,.string x2,.int .i64 x3,.string x4,.bool x5] 44));clear hb2 u v;have u:=fun k=>bc_ FB.out.2.1 k;have v:=fun k=>bc_ FB.out.2.2.1 k;have z:=fun k=>bc_ BX.out k)|(go_at_call 30;(with_reducible refine (C6.out _).mono ?_);rintro e w6 ⟨rfl,hb2⟩;replace FB:=am_ (pinfoldref11_Claim.B_st FB.out hb2);replace BX:=am_ (kb_ BX.out hb2);clear hb2 u v z;have u:=fun k=>bc_ FB.out.2.1 k;have v:=fun k=>bc_ FB.out.2.2.1 k;have z:=fun k=>bc_ BX.out k)|(go_at_call 32;(with_reducible refine (C7.out _ FB.out.2.2.2).mono ?_);rintro e w7 ⟨rfl,hb2⟩;replace FB:=am_ (pinfoldref11_Claim.B_st FB.out hb2);replace BX:=am_ (kb_ BX.out hb2);clear hb2 u v z;have u:=fun k=>bc_ FB.out.2.1 k;have v:=fun k=>bc_ FB.out.2.2.1 k;have z:=fun k=>bc_ BX.out k)|(go_at_call 33;(with_reducible refine (C8.out _).mono ?_);rintro e w8 ⟨rfl,hb2⟩;replace FB:=am_ (pinfoldref11_Claim.B_st FB.out hb2);replace BX:=am_ (kb_ BX.out hb2);clear hb2 u v z;have u:=fun k=>bc_ FB.out.2.1 k;have v:=fun k=>bc_ FB.out.2.2.1 k;have z:=fun k=>bc_ BX.out k))
   all_goals ((try simp only [Exit.inBlock,Exit.then]);refine bodyPost_ret (results_tmp4 rfl _ _ _) rfl ?_)
   all_goals exact ⟨_,rfl,FB.out.1,FB.out.2.2.2⟩
  | true =>
  rw [if_neg (by rintro ⟨_,h⟩;cases h),if_neg (by rintro ⟨h,_⟩;cases h),if_neg (by rintro ⟨h,_⟩;cases h)] at h
  obtain ⟨hr,h5⟩:=Prod.mk.inj h
  obtain ⟨rfl,h6⟩:=Prod.mk.inj h5
  obtain ⟨rfl,rfl⟩:=Prod.mk.inj h6
  clear h6 h5 h
  by_cases e1:q4.toList=[]
  rotate_left
  ·rw [if_neg (fun h=>e1 h.1)] at hr
   have nk:=e1
   have f1:(q4.toList == [])=false:=by simpa using e1
   have f2:q4.toList.isEmpty=false:=by simpa using e1
   have f4:(q4.toList != [])=true:=by simpa using e1
   clear e1
   obtain ⟨fr,hfr⟩:∃ b,freeB a0_0 a0_1 l0_2 l0_3 a0_4 a0_5 l0_6 l1 a2 a3 q4=b:=⟨_,rfl⟩
   have CF:=am_ (CFg q4 (by assumption))
   rw [hfr] at CF
   have CD:=am_ (CDg hh true)
   have CP:=am_ (CPg (dropL (letsP true) a3 a2 hh l1) (by rw [hDl];omega) ⟨hh,2,a3,a2+a0_4,q4,fr⟩)
   have eb:boundL (freeB a0_0 a0_1 l0_2 l0_3 a0_4 a0_5 l0_6 l1 a2 a3) hh (a2+a0_4) a3 q4=⟨hh,2,a3,a2+a0_4,q4,fr⟩:=by
    unfold boundL
    rw [hfr]
    first|(simp [nk];done)|(simp;done)
   have ed:dropL (fun _=>true) a3 a2 hh l1=dropL (letsP true) a3 a2 hh l1:=rfl
   rw [eb,ed] at hr
   generalize (if mayFree a0_0 a0_1 l0_2 l0_3 a0_4 a0_5 l0_6 l1 q4 then (0:Int) else 1600)=er at CF
   generalize dropL (letsP true) a3 a2 hh l1=D at CD CP hr
   replace hr:=am_ hr
   clear hhh hbh hlive hholds hxn hsz hx5 hDl CDg CFg CPg n4 hq eb ed hfr
   go_wp2_with (first|(go_at_call 29;(with_reducible refine (C5.out _ FB.out.2.2.2).mono ?_);rintro e w5 ⟨rfl,hb2⟩;replace FB:=am_ (pinfoldref11_Claim.B_al (pinfoldref11_Claim.B_st FB.out hb2) (.cells #[.int .i64 x0,.int .i64 x1,.string x2,.int .i64 x3,.string x4,.bool x5] 44));have BX:=am_ (blk_new w5 (.cells #[.int .i64 x0,.int .i64 x1,.string x2,.int .i64 x3,.string x4,.bool x5] 44));clear hb2 u v;have u:=fun k=>bc_ FB.out.2.1 k;have v:=fun k=>bc_ FB.out.2.2.1 k;have z:=fun k=>bc_ BX.out k)|(go_at_call 30;(with_reducible refine (C6.out _).mono ?_);rintro e w6 ⟨rfl,hb2⟩;replace FB:=am_ (pinfoldref11_Claim.B_st FB.out hb2);replace BX:=am_ (kb_ BX.out hb2);clear hb2 u v z;have u:=fun k=>bc_ FB.out.2.1 k;have v:=fun k=>bc_ FB.out.2.2.1 k;have z:=fun k=>bc_ BX.out k)|(go_at_call 32;(with_reducible refine (C7.out _ FB.out.2.2.2).mono ?_);rintro e w7 ⟨rfl,hb2⟩;replace FB:=am_ (pinfoldref11_Claim.B_st FB.out hb2);replace BX:=am_ (kb_ BX.out hb2);clear hb2 u v z;have u:=fun k=>bc_ FB.out.2.1 k;have v:=fun k=>bc_ FB.out.2.2.1 k;have z:=fun k=>bc_ BX.out k)|(go_at_call 33;(with_reducible refine (C8.out _).mono ?_);rintro e w8 ⟨rfl,hb2⟩;replace FB:=am_ (pinfoldref11_Claim.B_st FB.out hb2);replace BX:=am_ (kb_ BX.out hb2);clear hb2 u v z;have u:=fun k=>bc_ FB.out.2.1 k;have v:=fun k=>bc_ FB.out.2.2.1 k;have z:=fun k=>bc_ BX.out k)|(go_at_call 31;(with_reducible refine (CD.out _ FB.out.2.2.2).mono ?_);rintro e w9 ⟨v,rfl,hv,hb2⟩;obtain ⟨AD,cd,rfl,hcd,hD⟩:=Kd.R_reads hv;have HD:=am_ hD;have HCD:=am_ hcd;replace FB:=am_ (pinfoldref11_Claim.B_st FB.out hb2);replace BX:=am_ (kb_ BX.out hb2);clear hb2 hv hD hcd u v z;have u:=fun k=>bc_ FB.out.2.1 k;have v:=fun k=>bc_ FB.out.2.2.1 k;have z:=fun k=>bc_ BX.out k)|(go_at_call 34;(with_reducible refine (CF.out _ FB.out.2.2.2).mono ?_);rintro e w10 ⟨rfl,hb2⟩;replace HD:=am_ (c4_ HD.out hb2);replace FB:=am_ (pinfoldref11_Claim.B_st FB.out hb2);replace BX:=am_ (kb_ BX.out hb2);clear hb2 u v z;have u:=fun k=>bc_ FB.out.2.1 k;have v:=fun k=>bc_ FB.out.2.2.1 k;have z:=fun k=>bc_ BX.out k)|(go_at_call 35;(with_reducible refine (CP.out _ _ _ (by (with_reducible repeat (first|exact HD.out|refine c1_ ?_ _))) HCD.out).mono ?_);rintro e w11 ⟨v7,rfl,hv7,hb2⟩;have HV7:=am_ (Kd.R_lower hv7 (show w.heap.size≤_ from bz_ (by repeat (with_reducible first|exact FB.out.2.2.2|apply p3_))));have HB:=am_ (bt_ (by repeat (with_reducible first|exact FB.out.2.2.2|apply p3_)) hb2);clear hb2 hv7))
   all_goals ((try simp only [Exit.inBlock,Exit.then]);refine bodyPost_ret (results_tmp4 rfl _ _ _) rfl ?_)
   all_goals exact ⟨_,rfl,(by rw [←hr.out];exact HV7.out),HB.out⟩
  have f1:(q4.toList == [])=true:=by simpa using e1
  have f2:q4.toList.isEmpty=true:=by simpa using e1
  have f4:(q4.toList != [])=false:=by simpa using e1
  by_cases e2:x1=2
  rotate_left
  ·rw [if_neg (fun h=>e2 h.2)] at hr
   have nk:=e1
   have f3:(x1 == 2)=false:=by simpa using e2
   clear e1 e2
   obtain ⟨fr,hfr⟩:∃ b,freeB a0_0 a0_1 l0_2 l0_3 a0_4 a0_5 l0_6 l1 a2 a3 q4=b:=⟨_,rfl⟩
   have CF:=am_ (CFg q4 (by assumption))
   rw [hfr] at CF
   have CD:=am_ (CDg hh true)
   have CP:=am_ (CPg (dropL (letsP true) a3 a2 hh l1) (by rw [hDl];omega) ⟨hh,2,a3,a2+a0_4,q4,false⟩)
   have eb:boundL (freeB a0_0 a0_1 l0_2 l0_3 a0_4 a0_5 l0_6 l1 a2 a3) hh (a2+a0_4) a3 q4=⟨hh,2,a3,a2+a0_4,q4,false⟩:=by
    unfold boundL
    rw [hfr]
    first|(simp [nk];done)|(simp;done)
   have ed:dropL (fun _=>true) a3 a2 hh l1=dropL (letsP true) a3 a2 hh l1:=rfl
   rw [eb,ed] at hr
   generalize (if mayFree a0_0 a0_1 l0_2 l0_3 a0_4 a0_5 l0_6 l1 q4 then (0:Int) else 1600)=er at CF
   generalize dropL (letsP true) a3 a2 hh l1=D at CD CP hr
   replace hr:=am_ hr
   clear hhh hbh hlive hholds hxn hsz hx5 hDl CDg CFg CPg n4 hq eb ed hfr
   go_wp2_with (first|(go_at_call 29;(with_reducible refine (C5.out _ FB.out.2.2.2).mono ?_);rintro e w5 ⟨rfl,hb2⟩;replace FB:=am_ (pinfoldref11_Claim.B_al (pinfoldref11_Claim.B_st FB.out hb2) (.cells #[.int .i64 x0,.int .i64 x1,.string x2,.int .i64 x3,.string x4,.bool x5] 44));have BX:=am_ (blk_new w5 (.cells #[.int .i64 x0,.int .i64 x1,.string x2,.int .i64 x3,.string x4,.bool x5] 44));clear hb2 u v;have u:=fun k=>bc_ FB.out.2.1 k;have v:=fun k=>bc_ FB.out.2.2.1 k;have z:=fun k=>bc_ BX.out k)|(go_at_call 30;(with_reducible refine (C6.out _).mono ?_);rintro e w6 ⟨rfl,hb2⟩;replace FB:=am_ (pinfoldref11_Claim.B_st FB.out hb2);replace BX:=am_ (kb_ BX.out hb2);clear hb2 u v z;have u:=fun k=>bc_ FB.out.2.1 k;have v:=fun k=>bc_ FB.out.2.2.1 k;have z:=fun k=>bc_ BX.out k)|(go_at_call 32;(with_reducible refine (C7.out _ FB.out.2.2.2).mono ?_);rintro e w7 ⟨rfl,hb2⟩;replace FB:=am_ (pinfoldref11_Claim.B_st FB.out hb2);replace BX:=am_ (kb_ BX.out hb2);clear hb2 u v z;have u:=fun k=>bc_ FB.out.2.1 k;have v:=fun k=>bc_ FB.out.2.2.1 k;have z:=fun k=>bc_ BX.out k)|(go_at_call 33;(with_reducible refine (C8.out _).mono ?_);rintro e w8 ⟨rfl,hb2⟩;replace FB:=am_ (pinfoldref11_Claim.B_st FB.out hb2);replace BX:=am_ (kb_ BX.out hb2);clear hb2 u v z;have u:=fun k=>bc_ FB.out.2.1 k;have v:=fun k=>bc_ FB.out.2.2.1 k;have z:=fun k=>bc_ BX.out k)|(go_at_call 31;(with_reducible refine (CD.out _ FB.out.2.2.2).mono ?_);rintro e w9 ⟨v,rfl,hv,hb2⟩;obtain ⟨AD,cd,rfl,hcd,hD⟩:=Kd.R_reads hv;have HD:=am_ hD;have HCD:=am_ hcd;replace FB:=am_ (pinfoldref11_Claim.B_st FB.out hb2);replace BX:=am_ (kb_ BX.out hb2);clear hb2 hv hD hcd u v z;have u:=fun k=>bc_ FB.out.2.1 k;have v:=fun k=>bc_ FB.out.2.2.1 k;have z:=fun k=>bc_ BX.out k)|(go_at_call 34;(with_reducible refine (CF.out _ FB.out.2.2.2).mono ?_);rintro e w10 ⟨rfl,hb2⟩;replace HD:=am_ (c4_ HD.out hb2);replace FB:=am_ (pinfoldref11_Claim.B_st FB.out hb2);replace BX:=am_ (kb_ BX.out hb2);clear hb2 u v z;have u:=fun k=>bc_ FB.out.2.1 k;have v:=fun k=>bc_ FB.out.2.2.1 k;have z:=fun k=>bc_ BX.out k)|(go_at_call 35;(with_reducible refine (CP.out _ _ _ (by (with_reducible repeat (first|exact HD.out|refine c1_ ?_ _))) HCD.out).mono ?_);rintro e w11 ⟨v7,rfl,hv7,hb2⟩;have HV7:=am_ (Kd.R_lower hv7 (show w.heap.size≤_ from bz_ (by repeat (with_reducible first|exact FB.out.2.2.2|apply p3_))));have HB:=am_ (bt_ (by repeat (with_reducible first|exact FB.out.2.2.2|apply p3_)) hb2);clear hb2 hv7))
   all_goals ((try simp only [Exit.inBlock,Exit.then]);refine bodyPost_ret (results_tmp4 rfl _ _ _) rfl ?_)
   all_goals exact ⟨_,rfl,(by rw [←hr.out];exact HV7.out),HB.out⟩
  rw [if_pos ⟨e1,e2⟩] at hr
  subst e2
  clear e1
  by_cases nk:x4.toList=[]
  ·have g1:(x4.toList == [])=true:=by simpa using nk
   have g2:x4.toList.isEmpty=true:=by simpa using nk
   have g4:(x4.toList != [])=false:=by simpa using nk
   obtain ⟨fr,hfr⟩:∃ b,freeB a0_0 a0_1 l0_2 l0_3 a0_4 a0_5 l0_6 l1 a2 a3 x4=b:=⟨_,rfl⟩
   have CF:=am_ (CFg x4 (by assumption))
   rw [hfr] at CF
   have CD:=am_ (CDg hh true)
   have CP:=am_ (CPg (dropL (letsP true) a3 a2 hh l1) (by rw [hDl];omega) ⟨hh,2,a3,a2+a0_4,x4,false⟩)
   have eb:boundL (freeB a0_0 a0_1 l0_2 l0_3 a0_4 a0_5 l0_6 l1 a2 a3) hh (a2+a0_4) a3 x4=⟨hh,2,a3,a2+a0_4,x4,false⟩:=by
    unfold boundL
    rw [hfr]
    first|(simp [nk];done)|(simp;done)
   have ed:dropL (fun _=>true) a3 a2 hh l1=dropL (letsP true) a3 a2 hh l1:=rfl
   rw [eb,ed] at hr
   generalize (if mayFree a0_0 a0_1 l0_2 l0_3 a0_4 a0_5 l0_6 l1 x4 then (0:Int) else 1600)=er at CF
   generalize dropL (letsP true) a3 a2 hh l1=D at CD CP hr
   replace hr:=am_ hr
   clear hhh hbh hlive hholds hxn hsz hx5 hDl CDg CFg CPg n4 hq eb ed hfr
   go_wp2_with (first|(go_at_call 29;(with_reducible refine (C5.out _ FB.out.2.2.2).mono ?_);rintro e w5 ⟨rfl,hb2⟩;replace FB:=am_ (pinfoldref11_Claim.B_al (pinfoldref11_Claim.B_st FB.out hb2) (.cells #[.int .i64 x0,.int .i64 2,.string x2,.int .i64 x3,.string x4,.bool x5] 44));have BX:=am_ (blk_new w5 (.cells #[.int .i64 x0,.int .i64 2,.string x2,.int .i64 x3,.string x4,.bool x5] 44));clear hb2 u v;have u:=fun k=>bc_ FB.out.2.1 k;have v:=fun k=>bc_ FB.out.2.2.1 k;have z:=fun k=>bc_ BX.out k)|(go_at_call 30;(with_reducible refine (C6.out _).mono ?_);rintro e w6 ⟨rfl,hb2⟩;replace FB:=am_ (pinfoldref11_Claim.B_st FB.out hb2);replace BX:=am_ (kb_ BX.out hb2);clear hb2 u v z;have u:=fun k=>bc_ FB.out.2.1 k;have v:=fun k=>bc_ FB.out.2.2.1 k;have z:=fun k=>bc_ BX.out k)|(go_at_call 32;(with_reducible refine (C7.out _ FB.out.2.2.2).mono ?_);rintro e w7 ⟨rfl,hb2⟩;replace FB:=am_ (pinfoldref11_Claim.B_st FB.out hb2);replace BX:=am_ (kb_ BX.out hb2);clear hb2 u v z;have u:=fun k=>bc_ FB.out.2.1 k;have v:=fun k=>bc_ FB.out.2.2.1 k;have z:=fun k=>bc_ BX.out k)|(go_at_call 33;(with_reducible refine (C8.out _).mono ?_);rintro e w8 ⟨rfl,hb2⟩;replace FB:=am_ (pinfoldref11_Claim.B_st FB.out hb2);replace BX:=am_ (kb_ BX.out hb2);clear hb2 u v z;have u:=fun k=>bc_ FB.out.2.1 k;have v:=fun k=>bc_ FB.out.2.2.1 k;have z:=fun k=>bc_ BX.out k)|(go_at_call 31;(with_reducible refine (CD.out _ FB.out.2.2.2).mono ?_);rintro e w9 ⟨v,rfl,hv,hb2⟩;obtain ⟨AD,cd,rfl,hcd,hD⟩:=Kd.R_reads hv;have HD:=am_ hD;have HCD:=am_ hcd;replace FB:=am_ (pinfoldref11_Claim.B_st FB.out hb2);replace BX:=am_ (kb_ BX.out hb2);clear hb2 hv hD hcd u v z;have u:=fun k=>bc_ FB.out.2.1 k;have v:=fun k=>bc_ FB.out.2.2.1 k;have z:=fun k=>bc_ BX.out k)|(go_at_call 34;(with_reducible refine (CF.out _ FB.out.2.2.2).mono ?_);rintro e w10 ⟨rfl,hb2⟩;replace HD:=am_ (c4_ HD.out hb2);replace FB:=am_ (pinfoldref11_Claim.B_st FB.out hb2);replace BX:=am_ (kb_ BX.out hb2);clear hb2 u v z;have u:=fun k=>bc_ FB.out.2.1 k;have v:=fun k=>bc_ FB.out.2.2.1 k;have z:=fun k=>bc_ BX.out k)|(go_at_call 35;(with_reducible refine (CP.out _ _ _ (by (with_reducible repeat (first|exact HD.out|refine c1_ ?_ _))) HCD.out).mono ?_);rintro e w11 ⟨v7,rfl,hv7,hb2⟩;have HV7:=am_ (Kd.R_lower hv7 (show w.heap.size≤_ from bz_ (by repeat (with_reducible first|exact FB.out.2.2.2|apply p3_))));have HB:=am_ (bt_ (by repeat (with_reducible first|exact FB.out.2.2.2|apply p3_)) hb2);clear hb2 hv7))
   all_goals ((try simp only [Exit.inBlock,Exit.then]);refine bodyPost_ret (results_tmp4 rfl _ _ _) rfl ?_)
   all_goals exact ⟨_,rfl,(by rw [←hr.out];exact HV7.out),HB.out⟩
  have g1:(x4.toList == [])=false:=by simpa using nk
  have g2:x4.toList.isEmpty=false:=by simpa using nk
  have g4:(x4.toList != [])=true:=by simpa using nk
  obtain ⟨fr,hfr⟩:∃ b,freeB a0_0 a0_1 l0_2 l0_3 a0_4 a0_5 l0_6 l1 a2 a3 x4=b:=⟨_,rfl⟩
  have CF:=am_ (CFg x4 (by assumption))
  rw [hfr] at CF
  have CD:=am_ (CDg hh true)
  have CP:=am_ (CPg (dropL (letsP true) a3 a2 hh l1) (by rw [hDl];omega) ⟨hh,2,a3,a2+a0_4,x4,fr⟩)
  have eb:boundL (freeB a0_0 a0_1 l0_2 l0_3 a0_4 a0_5 l0_6 l1 a2 a3) hh (a2+a0_4) a3 x4=⟨hh,2,a3,a2+a0_4,x4,fr⟩:=by
   unfold boundL
   rw [hfr]
   first|(simp [nk];done)|(simp;done)
  have ed:dropL (fun _=>true) a3 a2 hh l1=dropL (letsP true) a3 a2 hh l1:=rfl
  rw [eb,ed] at hr
  generalize (if mayFree a0_0 a0_1 l0_2 l0_3 a0_4 a0_5 l0_6 l1 x4 then (0:Int) else 1600)=er at CF
  generalize dropL (letsP true) a3 a2 hh l1=D at CD CP hr
  replace hr:=am_ hr
  clear hhh hbh hlive hholds hxn hsz hx5 hDl CDg CFg CPg n4 hq eb ed hfr
  go_wp2_with (first|(go_at_call 29;(with_reducible refine (C5.out _ FB.out.2.2.2).mono ?_);rintro e w5 ⟨rfl,hb2⟩;replace FB:=am_ (pinfoldref11_Claim.B_al (pinfoldref11_Claim.B_st FB.out hb2) (.cells #[.int .i64 x0,.int .i64 2,.string x2,.int .i64 x3,.string x4,.bool x5] 44));have BX:=am_ (blk_new w5 (.cells #[.int .i64 x0,.int .i64 2,.string x2,.int .i64 x3,.string x4,.bool x5] 44));clear hb2 u v;have u:=fun k=>bc_ FB.out.2.1 k;have v:=fun k=>bc_ FB.out.2.2.1 k;have z:=fun k=>bc_ BX.out k)|(go_at_call 30;(with_reducible refine (C6.out _).mono ?_);rintro e w6 ⟨rfl,hb2⟩;replace FB:=am_ (pinfoldref11_Claim.B_st FB.out hb2);replace BX:=am_ (kb_ BX.out hb2);clear hb2 u v z;have u:=fun k=>bc_ FB.out.2.1 k;have v:=fun k=>bc_ FB.out.2.2.1 k;have z:=fun k=>bc_ BX.out k)|(go_at_call 32;(with_reducible refine (C7.out _ FB.out.2.2.2).mono ?_);rintro e w7 ⟨rfl,hb2⟩;replace FB:=am_ (pinfoldref11_Claim.B_st FB.out hb2);replace BX:=am_ (kb_ BX.out hb2);clear hb2 u v z;have u:=fun k=>bc_ FB.out.2.1 k;have v:=fun k=>bc_ FB.out.2.2.1 k;have z:=fun k=>bc_ BX.out k)|(go_at_call 33;(with_reducible refine (C8.out _).mono ?_);rintro e w8 ⟨rfl,hb2⟩;replace FB:=am_ (pinfoldref11_Claim.B_st FB.out hb2);replace BX:=am_ (kb_ BX.out hb2);clear hb2 u v z;have u:=fun k=>bc_ FB.out.2.1 k;have v:=fun k=>bc_ FB.out.2.2.1 k;have z:=fun k=>bc_ BX.out k)|(go_at_call 31;(with_reducible refine (CD.out _ FB.out.2.2.2).mono ?_);rintro e w9 ⟨v,rfl,hv,hb2⟩;obtain ⟨AD,cd,rfl,hcd,hD⟩:=Kd.R_reads hv;have HD:=am_ hD;have HCD:=am_ hcd;replace FB:=am_ (pinfoldref11_Claim.B_st FB.out hb2);replace BX:=am_ (kb_ BX.out hb2);clear hb2 hv hD hcd u v z;have u:=fun k=>bc_ FB.out.2.1 k;have v:=fun k=>bc_ FB.out.2.2.1 k;have z:=fun k=>bc_ BX.out k)|(go_at_call 34;(with_reducible refine (CF.out _ FB.out.2.2.2).mono ?_);rintro e w10 ⟨rfl,hb2⟩;replace HD:=am_ (c4_ HD.out hb2);replace FB:=am_ (pinfoldref11_Claim.B_st FB.out hb2);replace BX:=am_ (kb_ BX.out hb2);clear hb2 u v z;have u:=fun k=>bc_ FB.out.2.1 k;have v:=fun k=>bc_ FB.out.2.2.1 k;have z:=fun k=>bc_ BX.out k)|(go_at_call 35;(with_reducible refine (CP.out _ _ _ (by (with_reducible repeat (first|exact HD.out|refine c1_ ?_ _))) HCD.out).mono ?_);rintro e w11 ⟨v7,rfl,hv7,hb2⟩;have HV7:=am_ (Kd.R_lower hv7 (show w.heap.size≤_ from bz_ (by repeat (with_reducible first|exact FB.out.2.2.2|apply p3_))));have HB:=am_ (bt_ (by repeat (with_reducible first|exact FB.out.2.2.2|apply p3_)) hb2);clear hb2 hv7))
  all_goals ((try simp only [Exit.inBlock,Exit.then]);refine bodyPost_ret (results_tmp4 rfl _ _ _) rfl ?_)
  all_goals exact ⟨_,rfl,(by rw [←hr.out];exact HV7.out),HB.out⟩
 | false=>cases hv
theorem pinfoldref11_Claim.calls_2 (a0_0:Int) (a0_1:Int) (A0_2:Option Addr) (c0_2:Nat) (l0_2:List Int) (A0_3:Option Addr) (c0_3:Nat) (l0_3:List S95) (a0_4:Int) (a0_5:ByteArray) (A0_6:Option Addr) (c0_6:Nat) (l0_6:List S93) (A1:Option Addr) (c1:Nat) (l1:List S44) (a2:Int) (a3:ByteArray) (q0:Bool) (q1 q2 q3:Int) (q4:ByteArray) (r1:List S44) (r2 r3 r4:Int) (w:World) (hr0_2:Kd.C (Kd.int .i64) w A0_2 l0_2.length l0_2) (hc0_2:l0_2.length≤c0_2) (hr0_3:Kd.C k95 w A0_3 l0_3.length l0_3) (hc0_3:l0_3.length≤c0_3) (hr0_6:Kd.C k93 w A0_6 l0_6.length l0_6) (hc0_6:l0_6.length≤c0_6) (hr1:Kd.C k44 w A1 l1.length l1) (hc1:l1.length≤c1) (h:pinfoldref11_Claim.f a0_0 a0_1 l0_2 l0_3 a0_4 a0_5 l0_6 l1 a2 a3 q0 q1 q2 q3 q4=some (r1,r2,r3,r4)) (hyes:askedB a0_0 a0_1 l0_2 l0_3 a0_4 a0_5 l0_6 l1 a2 a3 1099510579200=true∧nameB (bytesOf q4)=true∧0≤q1∧0≤q2∧0≤q3∧(q0=true∨q1=0)) (hv:q0=false∧q3=0) :
  Calls Tryz.prog 7 #[.agg #[.int .i64 a0_0,.int .i64 a0_1,.slice A0_2 l0_2.length c0_2,.slice A0_3 l0_3.length c0_3,.int .i64 a0_4,.string a0_5,.slice A0_6 l0_6.length c0_6],.slice A1 l1.length c1,.int .i64 a2,.string a3,.agg #[.bool q0,.int .i64 q1,.int .i64 q2,.int .i64 q3,.string q4]] w fun e w'=>∃ v0_:Value,e=.returned (.tuple #[v0_,.int .i64 r2,.int .i64 r3,.int .i64 r4])∧Kd.R k44 44 w' w.heap.size (fun _=>True) v0_ r1∧Below w.heap.size w w':=by
 unfold pinfoldref11_Claim.f at h
 by_cases hsq:pinfoldref11_Claim.fits l0_2 l0_3 a0_5 l0_6 l1 q4
 rotate_left
 ·rw [if_neg hsq] at h
  cases h
 rw [if_pos hsq] at h
 obtain ⟨hs,ht,hlm,hz5,hx5,hq⟩:=hsq
 replace h:=e5_ h
 have htold:=claim_told h
 unfold claimV at h
 rw [←Bool.and_assoc,pinfoldref11_Claim.early] at h
 obtain ⟨b1,h1⟩:∃ b,askedB a0_0 a0_1 l0_2 l0_3 a0_4 a0_5 l0_6 l1 a2 a3 1099510579200=b:=⟨_,rfl⟩
 obtain ⟨b2,h2⟩:∃ b,nameB (bytesOf q4)=b:=⟨_,rfl⟩
 unfold reqB at h
 rw [h1,h2] at h
 obtain ⟨W2,hW2⟩:∃ W2,((w.alloc (.cells #[.int .i64 a0_0,.int .i64 a0_1,.slice A0_2 l0_2.length c0_2,.slice A0_3 l0_3.length c0_3,.int .i64 a0_4,.string a0_5,.slice A0_6 l0_6.length c0_6] 26)).alloc (.cells #[.bool q0,.int .i64 q1,.int .i64 q2,.int .i64 q3,.string q4] 29))=W2:=⟨_,rfl⟩
 have HB:=am_ (show Below w.heap.size w W2 by rw [←hW2];repeat (first|exact Below.refl _ _|apply p3_))
 have BK:=am_ (show W2.heap[w.heap.size]?=some (.cells #[.int .i64 a0_0,.int .i64 a0_1,.slice A0_2 l0_2.length c0_2,.slice A0_3 l0_3.length c0_3,.int .i64 a0_4,.string a0_5,.slice A0_6 l0_6.length c0_6] 26) by rw [←hW2];exact k1_ (blk_new w _) _)
 have BQ:=am_ (show W2.heap[w.heap.size+1]?=some (.cells #[.bool q0,.int .i64 q1,.int .i64 q2,.int .i64 q3,.string q4] 29) by
  have:=blk_new (w.alloc (.cells #[.int .i64 a0_0,.int .i64 a0_1,.slice A0_2 l0_2.length c0_2,.slice A0_3 l0_3.length c0_3,.int .i64 a0_4,.string a0_5,.slice A0_6 l0_6.length c0_6] 26)) (.cells #[.bool q0,.int .i64 q1,.int .i64 q2,.int .i64 q3,.string q4] 29)
  rw [hW2] at this
  simpa using this)
 replace hW2:=am_ hW2
 have C1:=am_ (fun W (hb:Below w.heap.size w W)=>pinfoldref11_asked_c.calls a0_0 a0_1 A0_2 c0_2 l0_2 A0_3 c0_3 l0_3 a0_4 a0_5 A0_6 c0_6 l0_6 A1 c1 l1 a2 a3 1099510579200 b1 W (c4_ hr0_2 hb) hc0_2 (c4_ hr0_3 hb) hc0_3 (c4_ hr0_6 hb) hc0_6 (c4_ hr1 hb) hc1 (by unfold pinfoldref11_asked_c.f;rw [if_pos ⟨hs,ht⟩,h1]))
 have C2:=am_ (fun W=>pinfoldref1_NameMay_c.calls q4 b2 W (by unfold pinfoldref1_NameMay_c.f;rw [if_pos (by omega),h2]))
 obtain ⟨y1,y2,n1',n2',n3',y4⟩:=hyes
 obtain rfl:b1=true:=h1.symm.trans y1
 obtain rfl:b2=true:=h2.symm.trans y2
 rw [Bool.true_and,Bool.true_and,decide_eq_true n1',decide_eq_true n2',decide_eq_true n3',Bool.true_and,Bool.true_and,Bool.true_and] at h
 have n1:¬ q1 < 0:=by omega
 have n2:¬ q2 < 0:=by omega
 have n3:¬ q3 < 0:=by omega
 have n4:¬ (q0=false∧q1≠0):=by
  rintro ⟨e,e'⟩
  rcases y4 with e2|e2
  ·rw [e] at e2
   cases e2
  ·exact e' e2
 clear y1 y2 n1' n2' n3' y4
 have hcl:=client_parts (show clientB a3=true by
  have h3:=h1
  unfold askedB at h3
  simp only [Bool.and_eq_true] at h3
  exact h3.2.2.2)
 have hT:tableB l1=true:=by
  have h3:=h1
  unfold askedB at h3
  simp only [Bool.and_eq_true] at h3
  exact h3.2.1
 have hn:0≤a2∧a2≤1099510579200:=by
  have h3:=h1
  unfold askedB at h3
  simp only [Bool.and_eq_true,decide_eq_true_eq] at h3
  exact h3.2.2.1
 have ha4:1≤a0_4∧a0_4≤1048576:=by
  have h3:=h1
  unfold askedB at h3
  rw [Bool.and_eq_true] at h3
  have h4:=h3.1
  unfold confB at h4
  simp only [Bool.and_eq_true,decide_eq_true_eq] at h4
  exact h4.2.1
 have hw:IntKind.i64.wrap (a2+a0_4)=a2+a0_4:=(i64_w _).trans (by unfold wrap64;omega)
 have h8:=(table_sorted hT).2.2
 rw [if_pos (by
  cases q0 with
  | true=>rfl
  | false =>
   have:q1=0:=by
    by_cases e:q1=0
    ·exact e
    ·exact absurd ⟨rfl,e⟩ n4
   rw [decide_eq_true this]
   rfl)] at h
 obtain ⟨hh,hhh⟩:∃ v,claimHost q0 q2 q3=v:=⟨_,rfl⟩
 rw [hhh] at h
 obtain ⟨lt,hlt⟩:∃ b,lentB a0_0 a0_1 l0_2 l0_3 a0_4 a0_5 l0_6 hh a3=b:=⟨_,rfl⟩
 rw [hlt] at h
 rw [←refclaim_go (freeB a0_0 a0_1 l0_2 l0_3 a0_4 a0_5 l0_6 l1 a2 a3) a0_4 l1 a2 a3 hh lt q0 q1 q4 hT hcl.1] at h
 obtain ⟨isx,hix⟩:∃ b,(findL l1 hh).isSome=b:=⟨_,rfl⟩
 obtain ⟨x,hx⟩:∃ x,gotL (findL l1 hh)=x:=⟨_,rfl⟩
 rw [hix,hx] at h
 have hsz:x.f4.size≤1048576:=by
  rw [←hx]
  cases e:findL l1 hh with
  | none=>exact (by decide:(⟨#[]⟩:ByteArray).size≤1048576)
  | some y=>exact hx5 y (List.mem_of_find?_eq_some e)
 have hxn:isx=false→x=z44:=by
  intro e
  rw [e] at hix
  cases e2:findL l1 hh with
  | none=>rw [←hx,e2];rfl
  | some y=>rw [e2] at hix;cases hix
 have C5:=am_ (fun W (hb:Below w.heap.size w W)=>pinfoldref11_FindLease_c.calls A1 c1 l1 hh x.f0 x.f1 x.f2 x.f3 x.f4 x.f5 isx W (c4_ hr1 hb) hc1 (by unfold pinfoldref11_FindLease_c.f;rw [if_pos ht.1,hx,hix]))
 obtain ⟨x0,x1,x2,x3,x4,x5⟩:=x
 obtain ⟨lv,hlv⟩:∃ b,liveB x0 x1 x2 x3 x4 x5 a2=b:=⟨_,rfl⟩
 obtain ⟨bh,hbh⟩:∃ b,holdsB x0 x1 x2 x3 x4 x5 a3 a2=b:=⟨_,rfl⟩
 simp only at hsz C5
 have C6:=am_ (fun W=>pinfoldref11_Live_c.calls x0 x1 x2 x3 x4 x5 a2 lv W (by unfold pinfoldref11_Live_c.f;rw [if_pos (by omega),hlv]))
 have C7:=am_ (fun W (hb:Below w.heap.size w W)=>pinfoldref11_mayHave_c.calls a0_0 a0_1 A0_2 c0_2 l0_2 A0_3 c0_3 l0_3 a0_4 a0_5 A0_6 c0_6 l0_6 hh a3 lt W (c4_ hr0_2 hb) hc0_2 (c4_ hr0_3 hb) hc0_3 (c4_ hr0_6 hb) hc0_6 (by unfold pinfoldref11_mayHave_c.f;rw [if_pos hs,hlt]))
 have C8:=am_ (fun W=>pinfoldref11_his_c.calls x0 x1 x2 x3 x4 x5 a3 a2 bh W (by unfold pinfoldref11_his_c.f;rw [if_pos (by omega),hbh]))
 have HR1:=am_ hr1
 have CDg:=fun (but:Int) (bd:Bool) W (hb:Below w.heap.size w W)=>pinfoldref11_lets_c.calls A1 c1 l1 a3 a2 but bd (dropL (letsP bd) a3 a2 but l1) W (c4_ hr1 hb) hc1 (by unfold pinfoldref11_lets_c.f;rw [if_pos ⟨ht,hlm⟩])
 have CFg:=fun (K:ByteArray) (hK:K.size≤1048576) W (hb:Below w.heap.size w W)=>pinfoldref11_FreeName.calls a0_0 a0_1 A0_2 c0_2 l0_2 A0_3 c0_3 l0_3 a0_4 a0_5 A0_6 c0_6 l0_6 A1 c1 l1 a2 a3 K (freeB a0_0 a0_1 l0_2 l0_3 a0_4 a0_5 l0_6 l1 a2 a3 K) (if mayFree a0_0 a0_1 l0_2 l0_3 a0_4 a0_5 l0_6 l1 K then 0 else 1600) W (c4_ hr0_2 hb) hc0_2 (c4_ hr0_3 hb) hc0_3 (c4_ hr0_6 hb) hc0_6 (c4_ hr1 hb) hc1 (by unfold pinfoldref11_FreeName.f;rw [if_pos ⟨⟨hs,hK,hz5⟩,ht.1,hx5⟩])
 have CPg:=fun (D:List S44) (hD:D.length≤1099511627776) (y:S44) W A c (h1:Kd.C k44 W A D.length D) (h2:D.length≤c)=>pinfoldref11_put_c.calls A c D y.f0 y.f1 y.f2 y.f3 y.f4 y.f5 (putL D y) W h1 h2 (by unfold pinfoldref11_put_c.f;rw [if_pos hD])
 have hDl:∀ q,(dropL q a3 a2 hh l1).length=l1.length:=fun q=>by unfold dropL;rw [List.length_map]
 have hlive:liveX a2 ⟨x0,x1,x2,x3,x4,x5⟩=lv:=hlv
 have hholds:holdsX a3 a2 ⟨x0,x1,x2,x3,x4,x5⟩=bh:=hbh
 unfold refClaimGo at h
 rw [hlive,hholds] at h
 clear htold hix hx hlv hlt h1 h2 hs ht hlm hz5 hr0_2 hr0_3 hr0_6 hc0_2 hc0_3 hc0_6 hr1 hc1 hcl hT hn ha4
 cases q0 with
 | true=>cases hv.1
 | false =>
  have hq1:q1=0:=by
   by_cases e:q1=0
   ·exact e
   ·exact absurd ⟨rfl,e⟩ n4
  subst hq1
  rw [if_neg (by rintro ⟨h,_⟩;cases h)] at h
  by_cases e3:q3=0
  ·have hhe:hh=q2:=by rw [←hhh];exact if_pos (.inr e3)
   subst hhe
   subst e3
   replace h:=am_ h;replace hhh:=am_ hhh;replace n4:=am_ n4;replace hbh:=am_ hbh;replace hlive:=am_ hlive;replace hholds:=am_ hholds;replace hxn:=am_ hxn;replace hsz:=am_ hsz;replace hx5:=am_ hx5;replace hDl:=am_ hDl;replace CDg:=am_ CDg;replace CFg:=am_ CFg;replace CPg:=am_ CPg;replace hq:=am_ hq
   go_enter Tryz.func7,Tryz.ntmps7
   go_wp2_with (first|(go_at_call 27;(try rw [hW2.out]);(with_reducible refine (C1.out _ HB.out).mono ?_);rintro e w1 ⟨rfl,hb2⟩;replace BK:=am_ (kb_ BK.out hb2);replace BQ:=am_ (kb_ BQ.out hb2);replace HB:=am_ (bt_ HB.out hb2);clear hb2;(try clear u v);have u:=fun k=>bc_ BK.out k;have v:=fun k=>bc_ BQ.out k)|(go_at_call 28;(with_reducible refine (C2.out _).mono ?_);rintro e w2 ⟨rfl,hb2⟩;replace BK:=am_ (kb_ BK.out hb2);replace BQ:=am_ (kb_ BQ.out hb2);replace HB:=am_ (bt_ HB.out hb2);clear hb2;(try clear u v);have u:=fun k=>bc_ BK.out k;have v:=fun k=>bc_ BQ.out k)|((with_reducible refine gate_dst (N:=61) rfl ?_);refine Kd.R_lit k44 w.heap.size 44 ?hg (N:=61) ?hd (xs:=([]:List S44)) (inner:=[]) (ok:=fun _=>True) (okp:=fun _=>True) ?hr ?hp (fun _ hk=>hk) trivial HB.out (bz_ HB.out) (by simp) ?_;(case hd=>rfl);(case hg=>rfl);(case hr=>first|(go_simp;done)|(go_simp;rfl));(case hp=>exact (Reps.none _ _));intro v104 w5 ho6 hb5 hg5 hn5;obtain ⟨bb,hbb,hbl⟩:=hn5;have HBB:=am_ hbb;have HN0:=am_ (show w.heap.size≠bb by have:=blk_lt BK.out;omega);have HN1:=am_ (show w.heap.size+1≠bb by have:=blk_lt BQ.out;omega);replace BK:=am_ (blk_grown BK.out hg5 (by simp));replace BQ:=am_ (blk_grown BQ.out hg5 (by simp));replace HB:=am_ hb5;have HO:=am_ ho6;clear hg5 hbl hbb hb5 ho6;(try clear u v);have u:=fun k=>bc_ BK.out k;have v:=fun k=>bc_ BQ.out k)|((with_reducible refine gate_builtin (b:=.append) (xs:=#[.tmp 61,.tmp 62]) rfl ?_);at_builtin;refine Kd.R_append_rows k44 (w0:=w) w.heap.size rfl (.tmp 61) (.tmp 62) 27 44 (.agg #[.int .i64 0,.int .i64 0,.string ⟨#[]⟩,.int .i64 0,.string ⟨#[]⟩,.bool false]) 64 rfl Tryz.underlying27 pinfoldref11_Claim.info rfl (by decide) (by omega) v104 [] l1 _ _ _ (fun _=>True) (fun _=>False) rfl rfl ?aO ?aR (fun _ _ h=>h) (fun _ h=>h.elim) ?aF ?aB ?aS ?aL ?_;(case aR=>exact c4_ HR1.out HB.out);(case aB=>exact HB.out);(case aF=>exact (fun _ _=>trivial));(case aO=>exact HO.out);(case aS=>exact (bz_ HB.out));(case aL=>simp;omega);intro v107 w9 ho hb9 hg9 hat;rw [List.nil_append] at ho;clear HO;have HO:=am_ ho;replace BK:=am_ (blk_grown BK.out hg9 (by rw [HBB.out];intro e;exact HN0.out (e5_ e)));replace BQ:=am_ (blk_grown BQ.out hg9 (by rw [HBB.out];intro e;exact HN1.out (e5_ e)));replace HB:=am_ hb9;have FB:=am_ (pinfoldref11_Claim.B_mk HO.out BK.out BQ.out HB.out);clear hat hg9 ho hb9 HBB HN0 HN1 HO BK BQ HB;(try clear u v);have u:=fun k=>bc_ FB.out.2.1 k;have v:=fun k=>bc_ FB.out.2.2.1 k))
   replace h:=h.out;replace hhh:=hhh.out;replace n4:=n4.out;replace hbh:=hbh.out;replace hlive:=hlive.out;replace hholds:=hholds.out;replace hxn:=hxn.out;replace hsz:=hsz.out;replace hx5:=hx5.out;replace hDl:=hDl.out;replace CDg:=CDg.out;replace CFg:=CFg.out;replace CPg:=CPg.out;replace hq:=hq.out
   by_cases m1:hh=0
   ·rw [if_pos ⟨by first|rfl|trivial,m1⟩] at h
    obtain ⟨rfl,h5⟩:=Prod.mk.inj h
    obtain ⟨rfl,h6⟩:=Prod.mk.inj h5
    obtain ⟨rfl,rfl⟩:=Prod.mk.inj h6
    clear h6 h5 h
    subst m1
    clear hhh hbh hlive hholds hxn hsz hx5 hDl CDg CFg CPg n4 hq
    go_wp2_with (first|(go_at_call 29;(with_reducible refine (C5.out _ FB.out.2.2.2).mono ?_);rintro e w5 ⟨rfl,hb2⟩;replace FB:=am_ (pinfoldref11_Claim.B_al (pinfoldref11_Claim.B_st FB.out hb2) (.cells #[.int .i64 x0,.int .i64 x1,.string x2,.int .i64 x3,.string x4,.bool x5] 44));have BX:=am_ (blk_new w5 (.cells #[.int .i64 x0,.int .i64 x1,.string x2,.int .i64 x3,.string x4,.bool x5] 44));clear hb2 u v;have u:=fun k=>bc_ FB.out.2.1 k;have v:=fun k=>bc_ FB.out.2.2.1 k;have z:=fun k=>bc_ BX.out k)|(go_at_call 30;(with_reducible refine (C6.out _).mono ?_);rintro e w6 ⟨rfl,hb2⟩;replace FB:=am_ (pinfoldref11_Claim.B_st FB.out hb2);replace BX:=am_ (kb_ BX.out hb2);clear hb2 u v z;have u:=fun k=>bc_ FB.out.2.1 k;have v:=fun k=>bc_ FB.out.2.2.1 k;have z:=fun k=>bc_ BX.out k))
    all_goals ((try simp only [Exit.inBlock,Exit.then]);refine bodyPost_ret (results_tmp4 rfl _ _ _) rfl ?_)
    all_goals exact ⟨_,rfl,FB.out.1,FB.out.2.2.2⟩
   rw [if_neg (fun h=>m1 h.2)] at h
   have m2:(hh == 0)=false:=by simpa using m1
   cases lt with
   | false =>
    rw [if_pos rfl] at h
    obtain ⟨rfl,h5⟩:=Prod.mk.inj h
    obtain ⟨rfl,h6⟩:=Prod.mk.inj h5
    obtain ⟨rfl,rfl⟩:=Prod.mk.inj h6
    clear h6 h5 h
    clear m1
    clear hhh hbh hlive hholds hxn hsz hx5 hDl CDg CFg CPg n4 hq
    go_wp2_with (first|(go_at_call 29;(with_reducible refine (C5.out _ FB.out.2.2.2).mono ?_);rintro e w5 ⟨rfl,hb2⟩;replace FB:=am_ (pinfoldref11_Claim.B_al (pinfoldref11_Claim.B_st FB.out hb2) (.cells #[.int .i64 x0,.int .i64 x1,.string x2,.int .i64 x3,.string x4,.bool x5] 44));have BX:=am_ (blk_new w5 (.cells #[.int .i64 x0,.int .i64 x1,.string x2,.int .i64 x3,.string x4,.bool x5] 44));clear hb2 u v;have u:=fun k=>bc_ FB.out.2.1 k;have v:=fun k=>bc_ FB.out.2.2.1 k;have z:=fun k=>bc_ BX.out k)|(go_at_call 30;(with_reducible refine (C6.out _).mono ?_);rintro e w6 ⟨rfl,hb2⟩;replace FB:=am_ (pinfoldref11_Claim.B_st FB.out hb2);replace BX:=am_ (kb_ BX.out hb2);clear hb2 u v z;have u:=fun k=>bc_ FB.out.2.1 k;have v:=fun k=>bc_ FB.out.2.2.1 k;have z:=fun k=>bc_ BX.out k)|(go_at_call 32;(with_reducible refine (C7.out _ FB.out.2.2.2).mono ?_);rintro e w7 ⟨rfl,hb2⟩;replace FB:=am_ (pinfoldref11_Claim.B_st FB.out hb2);replace BX:=am_ (kb_ BX.out hb2);clear hb2 u v z;have u:=fun k=>bc_ FB.out.2.1 k;have v:=fun k=>bc_ FB.out.2.2.1 k;have z:=fun k=>bc_ BX.out k))
    all_goals ((try simp only [Exit.inBlock,Exit.then]);refine bodyPost_ret (results_tmp4 rfl _ _ _) rfl ?_)
    all_goals exact ⟨_,rfl,FB.out.1,FB.out.2.2.2⟩
   | true =>
   rw [if_neg (by decide),if_neg (by rintro ⟨h,_⟩;cases h)] at h
   cases isx with
   | false =>
    have hx0:=hxn rfl
    skip
    rw [if_neg (by rintro ⟨_,h,_⟩;cases h),if_pos ⟨by first|rfl|trivial,by first|rfl|trivial,.inl rfl⟩] at h
    obtain ⟨rfl,h5⟩:=Prod.mk.inj h
    obtain ⟨rfl,h6⟩:=Prod.mk.inj h5
    obtain ⟨rfl,rfl⟩:=Prod.mk.inj h6
    clear h6 h5 h
    clear m1 hx0
    clear hhh hbh hlive hholds hxn hsz hx5 hDl CDg CFg CPg n4 hq
    go_wp2_with (first|(go_at_call 29;(with_reducible refine (C5.out _ FB.out.2.2.2).mono ?_);rintro e w5 ⟨rfl,hb2⟩;replace FB:=am_ (pinfoldref11_Claim.B_al (pinfoldref11_Claim.B_st FB.out hb2) (.cells #[.int .i64 x0,.int .i64 x1,.string x2,.int .i64 x3,.string x4,.bool x5] 44));have BX:=am_ (blk_new w5 (.cells #[.int .i64 x0,.int .i64 x1,.string x2,.int .i64 x3,.string x4,.bool x5] 44));clear hb2 u v;have u:=fun k=>bc_ FB.out.2.1 k;have v:=fun k=>bc_ FB.out.2.2.1 k;have z:=fun k=>bc_ BX.out k)|(go_at_call 30;(with_reducible refine (C6.out _).mono ?_);rintro e w6 ⟨rfl,hb2⟩;replace FB:=am_ (pinfoldref11_Claim.B_st FB.out hb2);replace BX:=am_ (kb_ BX.out hb2);clear hb2 u v z;have u:=fun k=>bc_ FB.out.2.1 k;have v:=fun k=>bc_ FB.out.2.2.1 k;have z:=fun k=>bc_ BX.out k)|(go_at_call 32;(with_reducible refine (C7.out _ FB.out.2.2.2).mono ?_);rintro e w7 ⟨rfl,hb2⟩;replace FB:=am_ (pinfoldref11_Claim.B_st FB.out hb2);replace BX:=am_ (kb_ BX.out hb2);clear hb2 u v z;have u:=fun k=>bc_ FB.out.2.1 k;have v:=fun k=>bc_ FB.out.2.2.1 k;have z:=fun k=>bc_ BX.out k))
    all_goals ((try simp only [Exit.inBlock,Exit.then]);refine bodyPost_ret (results_tmp4 rfl _ _ _) rfl ?_)
    all_goals exact ⟨_,rfl,FB.out.1,FB.out.2.2.2⟩
   | true =>
   rw [Bool.true_and] at h
   cases lv with
   | true =>
    by_cases e1:x1=2
    rotate_left
    ·rw [if_pos ⟨by first|rfl|trivial,by first|rfl|trivial,.inl e1⟩] at h
     obtain ⟨rfl,h5⟩:=Prod.mk.inj h
     obtain ⟨rfl,h6⟩:=Prod.mk.inj h5
     obtain ⟨rfl,rfl⟩:=Prod.mk.inj h6
     clear h6 h5 h
     have f3:(x1 != 2)=true:=by simpa using e1
     clear m1 e1
     clear hhh hbh hlive hholds hxn hsz hx5 hDl CDg CFg CPg n4 hq
     go_wp2_with (first|(go_at_call 29;(with_reducible refine (C5.out _ FB.out.2.2.2).mono ?_);rintro e w5 ⟨rfl,hb2⟩;replace FB:=am_ (pinfoldref11_Claim.B_al (pinfoldref11_Claim.B_st FB.out hb2) (.cells #[.int .i64 x0,.int .i64 x1,.string x2,.int .i64 x3,.string x4,.bool x5] 44));have BX:=am_ (blk_new w5 (.cells #[.int .i64 x0,.int .i64 x1,.string x2,.int .i64 x3,.string x4,.bool x5] 44));clear hb2 u v;have u:=fun k=>bc_ FB.out.2.1 k;have v:=fun k=>bc_ FB.out.2.2.1 k;have z:=fun k=>bc_ BX.out k)|(go_at_call 30;(with_reducible refine (C6.out _).mono ?_);rintro e w6 ⟨rfl,hb2⟩;replace FB:=am_ (pinfoldref11_Claim.B_st FB.out hb2);replace BX:=am_ (kb_ BX.out hb2);clear hb2 u v z;have u:=fun k=>bc_ FB.out.2.1 k;have v:=fun k=>bc_ FB.out.2.2.1 k;have z:=fun k=>bc_ BX.out k)|(go_at_call 32;(with_reducible refine (C7.out _ FB.out.2.2.2).mono ?_);rintro e w7 ⟨rfl,hb2⟩;replace FB:=am_ (pinfoldref11_Claim.B_st FB.out hb2);replace BX:=am_ (kb_ BX.out hb2);clear hb2 u v z;have u:=fun k=>bc_ FB.out.2.1 k;have v:=fun k=>bc_ FB.out.2.2.1 k;have z:=fun k=>bc_ BX.out k))
     all_goals ((try simp only [Exit.inBlock,Exit.then]);refine bodyPost_ret (results_tmp4 rfl _ _ _) rfl ?_)
     all_goals exact ⟨_,rfl,FB.out.1,FB.out.2.2.2⟩
    by_cases e2:x2.toList=a3.toList
    rotate_left
    ·rw [if_pos ⟨by first|rfl|trivial,by first|rfl|trivial,.inr e2⟩] at h
     obtain ⟨rfl,h5⟩:=Prod.mk.inj h
     obtain ⟨rfl,h6⟩:=Prod.mk.inj h5
     obtain ⟨rfl,rfl⟩:=Prod.mk.inj h6
     clear h6 h5 h
     subst e1
     have f5:(x2.toList == a3.toList)=false:=by simpa using e2
     have f6:(x2.toList != a3.toList)=true:=by simpa using e2
     clear m1 e2
     clear hhh hbh hlive hholds hxn hsz hx5 hDl CDg CFg CPg n4 hq
     go_wp2_with (first|(go_at_call 29;(with_reducible refine (C5.out _ FB.out.2.2.2).mono ?_);rintro e w5 ⟨rfl,hb2⟩;replace FB:=am_ (pinfoldref11_Claim.B_al (pinfoldref11_Claim.B_st FB.out hb2) (.cells #[.int .i64 x0,.int .i64 2,.string x2,.int .i64 x3,.string x4,.bool x5] 44));have BX:=am_ (blk_new w5 (.cells #[.int .i64 x0,.int .i64 2,.string x2,.int .i64 x3,.string x4,.bool x5] 44));clear hb2 u v;have u:=fun k=>bc_ FB.out.2.1 k;have v:=fun k=>bc_ FB.out.2.2.1 k;have z:=fun k=>bc_ BX.out k)|(go_at_call 30;(with_reducible refine (C6.out _).mono ?_);rintro e w6 ⟨rfl,hb2⟩;replace FB:=am_ (pinfoldref11_Claim.B_st FB.out hb2);replace BX:=am_ (kb_ BX.out hb2);clear hb2 u v z;have u:=fun k=>bc_ FB.out.2.1 k;have v:=fun k=>bc_ FB.out.2.2.1 k;have z:=fun k=>bc_ BX.out k)|(go_at_call 32;(with_reducible refine (C7.out _ FB.out.2.2.2).mono ?_);rintro e w7 ⟨rfl,hb2⟩;replace FB:=am_ (pinfoldref11_Claim.B_st FB.out hb2);replace BX:=am_ (kb_ BX.out hb2);clear hb2 u v z;have u:=fun k=>bc_ FB.out.2.1 k;have v:=fun k=>bc_ FB.out.2.2.1 k;have z:=fun k=>bc_ BX.out k))
     all_goals ((try simp only [Exit.inBlock,Exit.then]);refine bodyPost_ret (results_tmp4 rfl _ _ _) rfl ?_)
     all_goals exact ⟨_,rfl,FB.out.1,FB.out.2.2.2⟩
    rw [if_neg (by rintro ⟨_,_,h|h⟩;exact h e1;exact h e2),if_neg (by rintro ⟨_,h,_⟩;cases h)] at h
    obtain ⟨hr,h5⟩:=Prod.mk.inj h
    obtain ⟨rfl,h6⟩:=Prod.mk.inj h5
    obtain ⟨rfl,rfl⟩:=Prod.mk.inj h6
    clear h6 h5 h
    have f5:(x2.toList == a3.toList)=true:=by simpa using e2
    have f6:(x2.toList != a3.toList)=false:=by simpa using e2
    subst e1
    clear m1 e2
    by_cases e1:q4.toList=[]
    rotate_left
    ·rw [if_neg (fun h=>e1 h.1)] at hr
     have nk:=e1
     have f1:(q4.toList == [])=false:=by simpa using e1
     have f2:q4.toList.isEmpty=false:=by simpa using e1
     have f4:(q4.toList != [])=true:=by simpa using e1
     clear e1
     obtain ⟨fr,hfr⟩:∃ b,freeB a0_0 a0_1 l0_2 l0_3 a0_4 a0_5 l0_6 l1 a2 a3 q4=b:=⟨_,rfl⟩
     have CF:=am_ (CFg q4 (by assumption))
     rw [hfr] at CF
     have CD:=am_ (CDg hh true)
     have CP:=am_ (CPg (dropL (letsP true) a3 a2 hh l1) (by rw [hDl];omega) ⟨hh,2,a3,a2+a0_4,q4,fr⟩)
     have eb:boundL (freeB a0_0 a0_1 l0_2 l0_3 a0_4 a0_5 l0_6 l1 a2 a3) hh (a2+a0_4) a3 q4=⟨hh,2,a3,a2+a0_4,q4,fr⟩:=by
      unfold boundL
      rw [hfr]
      first|(simp [nk];done)|(simp;done)
     have ed:dropL (fun _=>true) a3 a2 hh l1=dropL (letsP true) a3 a2 hh l1:=rfl
     rw [eb,ed] at hr
     generalize (if mayFree a0_0 a0_1 l0_2 l0_3 a0_4 a0_5 l0_6 l1 q4 then (0:Int) else 1600)=er at CF
     generalize dropL (letsP true) a3 a2 hh l1=D at CD CP hr
     replace hr:=am_ hr
     clear hhh hbh hlive hholds hxn hsz hx5 hDl CDg CFg CPg n4 hq eb ed hfr
     go_wp2_with (first|(go_at_call 29;(with_reducible refine (C5.out _ FB.out.2.2.2).mono ?_);rintro e w5 ⟨rfl,hb2⟩;replace FB:=am_ (pinfoldref11_Claim.B_al (pinfoldref11_Claim.B_st FB.out hb2) (.cells #[.int .i64 x0,.int .i64 2,.string x2,.int .i64 x3,.string x4,.bool x5] 44));have BX:=am_ (blk_new w5 (.cells #[.int .i64 x0,.int .i64 2,.string x2,.int .i64 x3,.string x4,.bool x5] 44));clear hb2 u v;have u:=fun k=>bc_ FB.out.2.1 k;have v:=fun k=>bc_ FB.out.2.2.1 k;have z:=fun k=>bc_ BX.out k)|(go_at_call 30;(with_reducible refine (C6.out _).mono ?_);rintro e w6 ⟨rfl,hb2⟩;replace FB:=am_ (pinfoldref11_Claim.B_st FB.out hb2);replace BX:=am_ (kb_ BX.out hb2);clear hb2 u v z;have u:=fun k=>bc_ FB.out.2.1 k;have v:=fun k=>bc_ FB.out.2.2.1 k;have z:=fun k=>bc_ BX.out k)|(go_at_call 32;(with_reducible refine (C7.out _ FB.out.2.2.2).mono ?_);rintro e w7 ⟨rfl,hb2⟩;replace FB:=am_ (pinfoldref11_Claim.B_st FB.out hb2);replace BX:=am_ (kb_ BX.out hb2);clear hb2 u v z;have u:=fun k=>bc_ FB.out.2.1 k;have v:=fun k=>bc_ FB.out.2.2.1 k;have z:=fun k=>bc_ BX.out k)|(go_at_call 33;(with_reducible refine (C8.out _).mono ?_);rintro e w8 ⟨rfl,hb2⟩;replace FB:=am_ (pinfoldref11_Claim.B_st FB.out hb2);replace BX:=am_ (kb_ BX.out hb2);clear hb2 u v z;have u:=fun k=>bc_ FB.out.2.1 k;have v:=fun k=>bc_ FB.out.2.2.1 k;have z:=fun k=>bc_ BX.out k)|(go_at_call 31;(with_reducible refine (CD.out _ FB.out.2.2.2).mono ?_);rintro e w9 ⟨v,rfl,hv,hb2⟩;obtain ⟨AD,cd,rfl,hcd,hD⟩:=Kd.R_reads hv;have HD:=am_ hD;have HCD:=am_ hcd;replace FB:=am_ (pinfoldref11_Claim.B_st FB.out hb2);replace BX:=am_ (kb_ BX.out hb2);clear hb2 hv hD hcd u v z;have u:=fun k=>bc_ FB.out.2.1 k;have v:=fun k=>bc_ FB.out.2.2.1 k;have z:=fun k=>bc_ BX.out k)|(go_at_call 34;(with_reducible refine (CF.out _ FB.out.2.2.2).mono ?_);rintro e w10 ⟨rfl,hb2⟩;replace HD:=am_ (c4_ HD.out hb2);replace FB:=am_ (pinfoldref11_Claim.B_st FB.out hb2);replace BX:=am_ (kb_ BX.out hb2);clear hb2 u v z;have u:=fun k=>bc_ FB.out.2.1 k;have v:=fun k=>bc_ FB.out.2.2.1 k;have z:=fun k=>bc_ BX.out k)|(go_at_call 35;(with_reducible refine (CP.out _ _ _ (by (with_reducible repeat (first|exact HD.out|refine c1_ ?_ _))) HCD.out).mono ?_);rintro e w11 ⟨v7,rfl,hv7,hb2⟩;have HV7:=am_ (Kd.R_lower hv7 (show w.heap.size≤_ from bz_ (by repeat (with_reducible first|exact FB.out.2.2.2|apply p3_))));have HB:=am_ (bt_ (by repeat (with_reducible first|exact FB.out.2.2.2|apply p3_)) hb2);clear hb2 hv7))
     all_goals ((try simp only [Exit.inBlock,Exit.then]);refine bodyPost_ret (results_tmp4 rfl _ _ _) rfl ?_)
     all_goals exact ⟨_,rfl,(by rw [←hr.out];exact HV7.out),HB.out⟩
    have f1:(q4.toList == [])=true:=by simpa using e1
    have f2:q4.toList.isEmpty=true:=by simpa using e1
    have f4:(q4.toList != [])=false:=by simpa using e1
    rw [if_pos ⟨e1,rfl⟩] at hr
    clear e1
    by_cases nk:x4.toList=[]
    ·have g1:(x4.toList == [])=true:=by simpa using nk
     have g2:x4.toList.isEmpty=true:=by simpa using nk
     have g4:(x4.toList != [])=false:=by simpa using nk
     obtain ⟨fr,hfr⟩:∃ b,freeB a0_0 a0_1 l0_2 l0_3 a0_4 a0_5 l0_6 l1 a2 a3 x4=b:=⟨_,rfl⟩
     have CF:=am_ (CFg x4 (by assumption))
     rw [hfr] at CF
     have CD:=am_ (CDg hh true)
     have CP:=am_ (CPg (dropL (letsP true) a3 a2 hh l1) (by rw [hDl];omega) ⟨hh,2,a3,a2+a0_4,x4,false⟩)
     have eb:boundL (freeB a0_0 a0_1 l0_2 l0_3 a0_4 a0_5 l0_6 l1 a2 a3) hh (a2+a0_4) a3 x4=⟨hh,2,a3,a2+a0_4,x4,false⟩:=by
      unfold boundL
      rw [hfr]
      first|(simp [nk];done)|(simp;done)
     have ed:dropL (fun _=>true) a3 a2 hh l1=dropL (letsP true) a3 a2 hh l1:=rfl
     rw [eb,ed] at hr
     generalize (if mayFree a0_0 a0_1 l0_2 l0_3 a0_4 a0_5 l0_6 l1 x4 then (0:Int) else 1600)=er at CF
     generalize dropL (letsP true) a3 a2 hh l1=D at CD CP hr
     replace hr:=am_ hr
     clear hhh hbh hlive hholds hxn hsz hx5 hDl CDg CFg CPg n4 hq eb ed hfr
     go_wp2_with (first|(go_at_call 29;(with_reducible refine (C5.out _ FB.out.2.2.2).mono ?_);rintro e w5 ⟨rfl,hb2⟩;replace FB:=am_ (pinfoldref11_Claim.B_al (pinfoldref11_Claim.B_st FB.out hb2) (.cells #[.int .i64 x0,.int .i64 2,.string x2,.int .i64 x3,.string x4,.bool x5] 44));have BX:=am_ (blk_new w5 (.cells #[.int .i64 x0,.int .i64 2,.string x2,.int .i64 x3,.string x4,.bool x5] 44));clear hb2 u v;have u:=fun k=>bc_ FB.out.2.1 k;have v:=fun k=>bc_ FB.out.2.2.1 k;have z:=fun k=>bc_ BX.out k)|(go_at_call 30;(with_reducible refine (C6.out _).mono ?_);rintro e w6 ⟨rfl,hb2⟩;replace FB:=am_ (pinfoldref11_Claim.B_st FB.out hb2);replace BX:=am_ (kb_ BX.out hb2);clear hb2 u v z;have u:=fun k=>bc_ FB.out.2.1 k;have v:=fun k=>bc_ FB.out.2.2.1 k;have z:=fun k=>bc_ BX.out k)|(go_at_call 32;(with_reducible refine (C7.out _ FB.out.2.2.2).mono ?_);rintro e w7 ⟨rfl,hb2⟩;replace FB:=am_ (pinfoldref11_Claim.B_st FB.out hb2);replace BX:=am_ (kb_ BX.out hb2);clear hb2 u v z;have u:=fun k=>bc_ FB.out.2.1 k;have v:=fun k=>bc_ FB.out.2.2.1 k;have z:=fun k=>bc_ BX.out k)|(go_at_call 33;(with_reducible refine (C8.out _).mono ?_);rintro e w8 ⟨rfl,hb2⟩;replace FB:=am_ (pinfoldref11_Claim.B_st FB.out hb2);replace BX:=am_ (kb_ BX.out hb2);clear hb2 u v z;have u:=fun k=>bc_ FB.out.2.1 k;have v:=fun k=>bc_ FB.out.2.2.1 k;have z:=fun k=>bc_ BX.out k)|(go_at_call 31;(with_reducible refine (CD.out _ FB.out.2.2.2).mono ?_);rintro e w9 ⟨v,rfl,hv,hb2⟩;obtain ⟨AD,cd,rfl,hcd,hD⟩:=Kd.R_reads hv;have HD:=am_ hD;have HCD:=am_ hcd;replace FB:=am_ (pinfoldref11_Claim.B_st FB.out hb2);replace BX:=am_ (kb_ BX.out hb2);clear hb2 hv hD hcd u v z;have u:=fun k=>bc_ FB.out.2.1 k;have v:=fun k=>bc_ FB.out.2.2.1 k;have z:=fun k=>bc_ BX.out k)|(go_at_call 34;(with_reducible refine (CF.out _ FB.out.2.2.2).mono ?_);rintro e w10 ⟨rfl,hb2⟩;replace HD:=am_ (c4_ HD.out hb2);replace FB:=am_ (pinfoldref11_Claim.B_st FB.out hb2);replace BX:=am_ (kb_ BX.out hb2);clear hb2 u v z;have u:=fun k=>bc_ FB.out.2.1 k;have v:=fun k=>bc_ FB.out.2.2.1 k;have z:=fun k=>bc_ BX.out k)|(go_at_call 35;(with_reducible refine (CP.out _ _ _ (by (with_reducible repeat (first|exact HD.out|refine c1_ ?_ _))) HCD.out).mono ?_);rintro e w11 ⟨v7,rfl,hv7,hb2⟩;have HV7:=am_ (Kd.R_lower hv7 (show w.heap.size≤_ from bz_ (by repeat (with_reducible first|exact FB.out.2.2.2|apply p3_))));have HB:=am_ (bt_ (by repeat (with_reducible first|exact FB.out.2.2.2|apply p3_)) hb2);clear hb2 hv7))
     all_goals ((try simp only [Exit.inBlock,Exit.then]);refine bodyPost_ret (results_tmp4 rfl _ _ _) rfl ?_)
     all_goals exact ⟨_,rfl,(by rw [←hr.out];exact HV7.out),HB.out⟩
    have g1:(x4.toList == [])=false:=by simpa using nk
    have g2:x4.toList.isEmpty=false:=by simpa using nk
    have g4:(x4.toList != [])=true:=by simpa using nk
    obtain ⟨fr,hfr⟩:∃ b,freeB a0_0 a0_1 l0_2 l0_3 a0_4 a0_5 l0_6 l1 a2 a3 x4=b:=⟨_,rfl⟩
    have CF:=am_ (CFg x4 (by assumption))
    rw [hfr] at CF
    have CD:=am_ (CDg hh true)
    have CP:=am_ (CPg (dropL (letsP true) a3 a2 hh l1) (by rw [hDl];omega) ⟨hh,2,a3,a2+a0_4,x4,fr⟩)
    have eb:boundL (freeB a0_0 a0_1 l0_2 l0_3 a0_4 a0_5 l0_6 l1 a2 a3) hh (a2+a0_4) a3 x4=⟨hh,2,a3,a2+a0_4,x4,fr⟩:=by
     unfold boundL
     rw [hfr]
     first|(simp [nk];done)|(simp;done)
    have ed:dropL (fun _=>true) a3 a2 hh l1=dropL (letsP true) a3 a2 hh l1:=rfl
    rw [eb,ed] at hr
    generalize (if mayFree a0_0 a0_1 l0_2 l0_3 a0_4 a0_5 l0_6 l1 x4 then (0:Int) else 1600)=er at CF
    generalize dropL (letsP true) a3 a2 hh l1=D at CD CP hr
    replace hr:=am_ hr
    clear hhh hbh hlive hholds hxn hsz hx5 hDl CDg CFg CPg n4 hq eb ed hfr
    go_wp2_with (first|(go_at_call 29;(with_reducible refine (C5.out _ FB.out.2.2.2).mono ?_);rintro e w5 ⟨rfl,hb2⟩;replace FB:=am_ (pinfoldref11_Claim.B_al (pinfoldref11_Claim.B_st FB.out hb2) (.cells #[.int .i64 x0,.int .i64 2,.string x2,.int .i64 x3,.string x4,.bool x5] 44));have BX:=am_ (blk_new w5 (.cells #[.int .i64 x0,.int .i64 2,.string x2,.int .i64 x3,.string x4,.bool x5] 44));clear hb2 u v;have u:=fun k=>bc_ FB.out.2.1 k;have v:=fun k=>bc_ FB.out.2.2.1 k;have z:=fun k=>bc_ BX.out k)|(go_at_call 30;(with_reducible refine (C6.out _).mono ?_);rintro e w6 ⟨rfl,hb2⟩;replace FB:=am_ (pinfoldref11_Claim.B_st FB.out hb2);replace BX:=am_ (kb_ BX.out hb2);clear hb2 u v z;have u:=fun k=>bc_ FB.out.2.1 k;have v:=fun k=>bc_ FB.out.2.2.1 k;have z:=fun k=>bc_ BX.out k)|(go_at_call 32;(with_reducible refine (C7.out _ FB.out.2.2.2).mono ?_);rintro e w7 ⟨rfl,hb2⟩;replace FB:=am_ (pinfoldref11_Claim.B_st FB.out hb2);replace BX:=am_ (kb_ BX.out hb2);clear hb2 u v z;have u:=fun k=>bc_ FB.out.2.1 k;have v:=fun k=>bc_ FB.out.2.2.1 k;have z:=fun k=>bc_ BX.out k)|(go_at_call 33;(with_reducible refine (C8.out _).mono ?_);rintro e w8 ⟨rfl,hb2⟩;replace FB:=am_ (pinfoldref11_Claim.B_st FB.out hb2);replace BX:=am_ (kb_ BX.out hb2);clear hb2 u v z;have u:=fun k=>bc_ FB.out.2.1 k;have v:=fun k=>bc_ FB.out.2.2.1 k;have z:=fun k=>bc_ BX.out k)|(go_at_call 31;(with_reducible refine (CD.out _ FB.out.2.2.2).mono ?_);rintro e w9 ⟨v,rfl,hv,hb2⟩;obtain ⟨AD,cd,rfl,hcd,hD⟩:=Kd.R_reads hv;have HD:=am_ hD;have HCD:=am_ hcd;replace FB:=am_ (pinfoldref11_Claim.B_st FB.out hb2);replace BX:=am_ (kb_ BX.out hb2);clear hb2 hv hD hcd u v z;have u:=fun k=>bc_ FB.out.2.1 k;have v:=fun k=>bc_ FB.out.2.2.1 k;have z:=fun k=>bc_ BX.out k)|(go_at_call 34;(with_reducible refine (CF.out _ FB.out.2.2.2).mono ?_);rintro e w10 ⟨rfl,hb2⟩;replace HD:=am_ (c4_ HD.out hb2);replace FB:=am_ (pinfoldref11_Claim.B_st FB.out hb2);replace BX:=am_ (kb_ BX.out hb2);clear hb2 u v z;have u:=fun k=>bc_ FB.out.2.1 k;have v:=fun k=>bc_ FB.out.2.2.1 k;have z:=fun k=>bc_ BX.out k)|(go_at_call 35;(with_reducible refine (CP.out _ _ _ (by (with_reducible repeat (first|exact HD.out|refine c1_ ?_ _))) HCD.out).mono ?_);rintro e w11 ⟨v7,rfl,hv7,hb2⟩;have HV7:=am_ (Kd.R_lower hv7 (show w.heap.size≤_ from bz_ (by repeat (with_reducible first|exact FB.out.2.2.2|apply p3_))));have HB:=am_ (bt_ (by repeat (with_reducible first|exact FB.out.2.2.2|apply p3_)) hb2);clear hb2 hv7))
    all_goals ((try simp only [Exit.inBlock,Exit.then]);refine bodyPost_ret (results_tmp4 rfl _ _ _) rfl ?_)
    all_goals exact ⟨_,rfl,(by rw [←hr.out];exact HV7.out),HB.out⟩
   | false =>
    by_cases e2:x2.toList=a3.toList
    rotate_left
    ·rw [if_neg (by rintro ⟨_,h,_⟩;cases h),if_pos ⟨by first|rfl|trivial,by first|rfl|trivial,.inr e2⟩] at h
     obtain ⟨rfl,h5⟩:=Prod.mk.inj h
     obtain ⟨rfl,h6⟩:=Prod.mk.inj h5
     obtain ⟨rfl,rfl⟩:=Prod.mk.inj h6
     clear h6 h5 h
     have f5:(x2.toList == a3.toList)=false:=by simpa using e2
     have f6:(x2.toList != a3.toList)=true:=by simpa using e2
     clear m1 e2
     clear hhh hbh hlive hholds hxn hsz hx5 hDl CDg CFg CPg n4 hq
     go_wp2_with (first|(go_at_call 29;(with_reducible refine (C5.out _ FB.out.2.2.2).mono ?_);rintro e w5 ⟨rfl,hb2⟩;replace FB:=am_ (pinfoldref11_Claim.B_al (pinfoldref11_Claim.B_st FB.out hb2) (.cells #[.int .i64 x0,.int .i64 x1,.string x2,.int .i64 x3,.string x4,.bool x5] 44));have BX:=am_ (blk_new w5 (.cells #[.int .i64 x0,.int .i64 x1,.string x2,.int .i64 x3,.string x4,.bool x5] 44));clear hb2 u v;have u:=fun k=>bc_ FB.out.2.1 k;have v:=fun k=>bc_ FB.out.2.2.1 k;have z:=fun k=>bc_ BX.out k)|(go_at_call 30;(with_reducible refine (C6.out _).mono ?_);rintro e w6 ⟨rfl,hb2⟩;replace FB:=am_ (pinfoldref11_Claim.B_st FB.out hb2);replace BX:=am_ (kb_ BX.out hb2);clear hb2 u v z;have u:=fun k=>bc_ FB.out.2.1 k;have v:=fun k=>bc_ FB.out.2.2.1 k;have z:=fun k=>bc_ BX.out k)|(go_at_call 32;(with_reducible refine (C7.out _ FB.out.2.2.2).mono ?_);rintro e w7 ⟨rfl,hb2⟩;replace FB:=am_ (pinfoldref11_Claim.B_st FB.out hb2);replace BX:=am_ (kb_ BX.out hb2);clear hb2 u v z;have u:=fun k=>bc_ FB.out.2.1 k;have v:=fun k=>bc_ FB.out.2.2.1 k;have z:=fun k=>bc_ BX.out k))
     all_goals ((try simp only [Exit.inBlock,Exit.then]);refine bodyPost_ret (results_tmp4 rfl _ _ _) rfl ?_)
     all_goals exact ⟨_,rfl,FB.out.1,FB.out.2.2.2⟩
    rw [if_neg (by rintro ⟨_,h,_⟩;cases h),if_neg (by rintro ⟨_,_,h|h⟩;cases h;exact h e2)] at h
    obtain ⟨hr,h5⟩:=Prod.mk.inj h
    obtain ⟨rfl,h6⟩:=Prod.mk.inj h5
    obtain ⟨rfl,rfl⟩:=Prod.mk.inj h6
    clear h6 h5 h
    have f5:(x2.toList == a3.toList)=true:=by simpa using e2
    have f6:(x2.toList != a3.toList)=false:=by simpa using e2
    clear m1 e2
    by_cases e1:q4.toList=[]
    rotate_left
    ·rw [if_neg (fun h=>e1 h.1)] at hr
     have nk:=e1
     have f1:(q4.toList == [])=false:=by simpa using e1
     have f2:q4.toList.isEmpty=false:=by simpa using e1
     have f4:(q4.toList != [])=true:=by simpa using e1
     clear e1
     obtain ⟨fr,hfr⟩:∃ b,freeB a0_0 a0_1 l0_2 l0_3 a0_4 a0_5 l0_6 l1 a2 a3 q4=b:=⟨_,rfl⟩
     have CF:=am_ (CFg q4 (by assumption))
     rw [hfr] at CF
     have CD:=am_ (CDg hh true)
     have CP:=am_ (CPg (dropL (letsP true) a3 a2 hh l1) (by rw [hDl];omega) ⟨hh,2,a3,a2+a0_4,q4,fr⟩)
     have eb:boundL (freeB a0_0 a0_1 l0_2 l0_3 a0_4 a0_5 l0_6 l1 a2 a3) hh (a2+a0_4) a3 q4=⟨hh,2,a3,a2+a0_4,q4,fr⟩:=by
      unfold boundL
      rw [hfr]
      first|(simp [nk];done)|(simp;done)
     have ed:dropL (fun _=>true) a3 a2 hh l1=dropL (letsP true) a3 a2 hh l1:=rfl
     rw [eb,ed] at hr
     generalize (if mayFree a0_0 a0_1 l0_2 l0_3 a0_4 a0_5 l0_6 l1 q4 then (0:Int) else 1600)=er at CF
     generalize dropL (letsP true) a3 a2 hh l1=D at CD CP hr
     replace hr:=am_ hr
     clear hhh hbh hlive hholds hxn hsz hx5 hDl CDg CFg CPg n4 hq eb ed hfr
     go_wp2_with (first|(go_at_call 29;(with_reducible refine (C5.out _ FB.out.2.2.2).mono ?_);rintro e w5 ⟨rfl,hb2⟩;replace FB:=am_ (pinfoldref11_Claim.B_al (pinfoldref11_Claim.B_st FB.out hb2) (.cells #[.int .i64 x0,.int .i64 x1,.string x2,.int .i64 x3,.string x4,.bool x5] 44));have BX:=am_ (blk_new w5 (.cells #[.int .i64 x0,.int .i64 x1,.string x2,.int .i64 x3,.string x4,.bool x5] 44));clear hb2 u v;have u:=fun k=>bc_ FB.out.2.1 k;have v:=fun k=>bc_ FB.out.2.2.1 k;have z:=fun k=>bc_ BX.out k)|(go_at_call 30;(with_reducible refine (C6.out _).mono ?_);rintro e w6 ⟨rfl,hb2⟩;replace FB:=am_ (pinfoldref11_Claim.B_st FB.out hb2);replace BX:=am_ (kb_ BX.out hb2);clear hb2 u v z;have u:=fun k=>bc_ FB.out.2.1 k;have v:=fun k=>bc_ FB.out.2.2.1 k;have z:=fun k=>bc_ BX.out k)|(go_at_call 32;(with_reducible refine (C7.out _ FB.out.2.2.2).mono ?_);rintro e w7 ⟨rfl,hb2⟩;replace FB:=am_ (pinfoldref11_Claim.B_st FB.out hb2);replace BX:=am_ (kb_ BX.out hb2);clear hb2 u v z;have u:=fun k=>bc_ FB.out.2.1 k;have v:=fun k=>bc_ FB.out.2.2.1 k;have z:=fun k=>bc_ BX.out k)|(go_at_call 33;(with_reducible refine (C8.out _).mono ?_);rintro e w8 ⟨rfl,hb2⟩;replace FB:=am_ (pinfoldref11_Claim.B_st FB.out hb2);replace BX:=am_ (kb_ BX.out hb2);clear hb2 u v z;have u:=fun k=>bc_ FB.out.2.1 k;have v:=fun k=>bc_ FB.out.2.2.1 k;have z:=fun k=>bc_ BX.out k)|(go_at_call 31;(with_reducible refine (CD.out _ FB.out.2.2.2).mono ?_);rintro e w9 ⟨v,rfl,hv,hb2⟩;obtain ⟨AD,cd,rfl,hcd,hD⟩:=Kd.R_reads hv;have HD:=am_ hD;have HCD:=am_ hcd;replace FB:=am_ (pinfoldref11_Claim.B_st FB.out hb2);replace BX:=am_ (kb_ BX.out hb2);clear hb2 hv hD hcd u v z;have u:=fun k=>bc_ FB.out.2.1 k;have v:=fun k=>bc_ FB.out.2.2.1 k;have z:=fun k=>bc_ BX.out k)|(go_at_call 34;(with_reducible refine (CF.out _ FB.out.2.2.2).mono ?_);rintro e w10 ⟨rfl,hb2⟩;replace HD:=am_ (c4_ HD.out hb2);replace FB:=am_ (pinfoldref11_Claim.B_st FB.out hb2);replace BX:=am_ (kb_ BX.out hb2);clear hb2 u v z;have u:=fun k=>bc_ FB.out.2.1 k;have v:=fun k=>bc_ FB.out.2.2.1 k;have z:=fun k=>bc_ BX.out k)|(go_at_call 35;(with_reducible refine (CP.out _ _ _ (by (with_reducible repeat (first|exact HD.out|refine c1_ ?_ _))) HCD.out).mono ?_);rintro e w11 ⟨v7,rfl,hv7,hb2⟩;have HV7:=am_ (Kd.R_lower hv7 (show w.heap.size≤_ from bz_ (by repeat (with_reducible first|exact FB.out.2.2.2|apply p3_))));have HB:=am_ (bt_ (by repeat (with_reducible first|exact FB.out.2.2.2|apply p3_)) hb2);clear hb2 hv7))
     all_goals ((try simp only [Exit.inBlock,Exit.then]);refine bodyPost_ret (results_tmp4 rfl _ _ _) rfl ?_)
     all_goals exact ⟨_,rfl,(by rw [←hr.out];exact HV7.out),HB.out⟩
    have f1:(q4.toList == [])=true:=by simpa using e1
    have f2:q4.toList.isEmpty=true:=by simpa using e1
    have f4:(q4.toList != [])=false:=by simpa using e1
    by_cases e2:x1=2
    rotate_left
    ·rw [if_neg (fun h=>e2 h.2)] at hr
     have nk:=e1
     have f3:(x1 == 2)=false:=by simpa using e2
     clear e1 e2
     obtain ⟨fr,hfr⟩:∃ b,freeB a0_0 a0_1 l0_2 l0_3 a0_4 a0_5 l0_6 l1 a2 a3 q4=b:=⟨_,rfl⟩
     have CF:=am_ (CFg q4 (by assumption))
     rw [hfr] at CF
     have CD:=am_ (CDg hh true)
     have CP:=am_ (CPg (dropL (letsP true) a3 a2 hh l1) (by rw [hDl];omega) ⟨hh,2,a3,a2+a0_4,q4,false⟩)
     have eb:boundL (freeB a0_0 a0_1 l0_2 l0_3 a0_4 a0_5 l0_6 l1 a2 a3) hh (a2+a0_4) a3 q4=⟨hh,2,a3,a2+a0_4,q4,false⟩:=by
      unfold boundL
      rw [hfr]
      first|(simp [nk];done)|(simp;done)
     have ed:dropL (fun _=>true) a3 a2 hh l1=dropL (letsP true) a3 a2 hh l1:=rfl
     rw [eb,ed] at hr
     generalize (if mayFree a0_0 a0_1 l0_2 l0_3 a0_4 a0_5 l0_6 l1 q4 then (0:Int) else 1600)=er at CF
     generalize dropL (letsP true) a3 a2 hh l1=D at CD CP hr
     replace hr:=am_ hr
     clear hhh hbh hlive hholds hxn hsz hx5 hDl CDg CFg CPg n4 hq eb ed hfr
     go_wp2_with (first|(go_at_call 29;(with_reducible refine (C5.out _ FB.out.2.2.2).mono ?_);rintro e w5 ⟨rfl,hb2⟩;replace FB:=am_ (pinfoldref11_Claim.B_al (pinfoldref11_Claim.B_st FB.out hb2) (.cells #[.int .i64 x0,.int .i64 x1,.string x2,.int .i64 x3,.string x4,.bool x5] 44));have BX:=am_ (blk_new w5 (.cells #[.int .i64 x0,.int .i64 x1,.string x2,.int .i64 x3,.string x4,.bool x5] 44));clear hb2 u v;have u:=fun k=>bc_ FB.out.2.1 k;have v:=fun k=>bc_ FB.out.2.2.1 k;have z:=fun k=>bc_ BX.out k)|(go_at_call 30;(with_reducible refine (C6.out _).mono ?_);rintro e w6 ⟨rfl,hb2⟩;replace FB:=am_ (pinfoldref11_Claim.B_st FB.out hb2);replace BX:=am_ (kb_ BX.out hb2);clear hb2 u v z;have u:=fun k=>bc_ FB.out.2.1 k;have v:=fun k=>bc_ FB.out.2.2.1 k;have z:=fun k=>bc_ BX.out k)|(go_at_call 32;(with_reducible refine (C7.out _ FB.out.2.2.2).mono ?_);rintro e w7 ⟨rfl,hb2⟩;replace FB:=am_ (pinfoldref11_Claim.B_st FB.out hb2);replace BX:=am_ (kb_ BX.out hb2);clear hb2 u v z;have u:=fun k=>bc_ FB.out.2.1 k;have v:=fun k=>bc_ FB.out.2.2.1 k;have z:=fun k=>bc_ BX.out k)|(go_at_call 33;(with_reducible refine (C8.out _).mono ?_);rintro e w8 ⟨rfl,hb2⟩;replace FB:=am_ (pinfoldref11_Claim.B_st FB.out hb2);replace BX:=am_ (kb_ BX.out hb2);clear hb2 u v z;have u:=fun k=>bc_ FB.out.2.1 k;have v:=fun k=>bc_ FB.out.2.2.1 k;have z:=fun k=>bc_ BX.out k)|(go_at_call 31;(with_reducible refine (CD.out _ FB.out.2.2.2).mono ?_);rintro e w9 ⟨v,rfl,hv,hb2⟩;obtain ⟨AD,cd,rfl,hcd,hD⟩:=Kd.R_reads hv;have HD:=am_ hD;have HCD:=am_ hcd;replace FB:=am_ (pinfoldref11_Claim.B_st FB.out hb2);replace BX:=am_ (kb_ BX.out hb2);clear hb2 hv hD hcd u v z;have u:=fun k=>bc_ FB.out.2.1 k;have v:=fun k=>bc_ FB.out.2.2.1 k;have z:=fun k=>bc_ BX.out k)|(go_at_call 34;(with_reducible refine (CF.out _ FB.out.2.2.2).mono ?_);rintro e w10 ⟨rfl,hb2⟩;replace HD:=am_ (c4_ HD.out hb2);replace FB:=am_ (pinfoldref11_Claim.B_st FB.out hb2);replace BX:=am_ (kb_ BX.out hb2);clear hb2 u v z;have u:=fun k=>bc_ FB.out.2.1 k;have v:=fun k=>bc_ FB.out.2.2.1 k;have z:=fun k=>bc_ BX.out k)|(go_at_call 35;(with_reducible refine (CP.out _ _ _ (by (with_reducible repeat (first|exact HD.out|refine c1_ ?_ _))) HCD.out).mono ?_);rintro e w11 ⟨v7,rfl,hv7,hb2⟩;have HV7:=am_ (Kd.R_lower hv7 (show w.heap.size≤_ from bz_ (by repeat (with_reducible first|exact FB.out.2.2.2|apply p3_))));have HB:=am_ (bt_ (by repeat (with_reducible first|exact FB.out.2.2.2|apply p3_)) hb2);clear hb2 hv7))
     all_goals ((try simp only [Exit.inBlock,Exit.then]);refine bodyPost_ret (results_tmp4 rfl _ _ _) rfl ?_)
     all_goals exact ⟨_,rfl,(by rw [←hr.out];exact HV7.out),HB.out⟩
    rw [if_pos ⟨e1,e2⟩] at hr
    subst e2
    clear e1
    by_cases nk:x4.toList=[]
    ·have g1:(x4.toList == [])=true:=by simpa using nk
     have g2:x4.toList.isEmpty=true:=by simpa using nk
     have g4:(x4.toList != [])=false:=by simpa using nk
     obtain ⟨fr,hfr⟩:∃ b,freeB a0_0 a0_1 l0_2 l0_3 a0_4 a0_5 l0_6 l1 a2 a3 x4=b:=⟨_,rfl⟩
     have CF:=am_ (CFg x4 (by assumption))
     rw [hfr] at CF
     have CD:=am_ (CDg hh true)
     have CP:=am_ (CPg (dropL (letsP true) a3 a2 hh l1) (by rw [hDl];omega) ⟨hh,2,a3,a2+a0_4,x4,false⟩)
     have eb:boundL (freeB a0_0 a0_1 l0_2 l0_3 a0_4 a0_5 l0_6 l1 a2 a3) hh (a2+a0_4) a3 x4=⟨hh,2,a3,a2+a0_4,x4,false⟩:=by
      unfold boundL
      rw [hfr]
      first|(simp [nk];done)|(simp;done)
     have ed:dropL (fun _=>true) a3 a2 hh l1=dropL (letsP true) a3 a2 hh l1:=rfl
     rw [eb,ed] at hr
     generalize (if mayFree a0_0 a0_1 l0_2 l0_3 a0_4 a0_5 l0_6 l1 x4 then (0:Int) else 1600)=er at CF
     generalize dropL (letsP true) a3 a2 hh l1=D at CD CP hr
     replace hr:=am_ hr
     clear hhh hbh hlive hholds hxn hsz hx5 hDl CDg CFg CPg n4 hq eb ed hfr
     go_wp2_with (first|(go_at_call 29;(with_reducible refine (C5.out _ FB.out.2.2.2).mono ?_);rintro e w5 ⟨rfl,hb2⟩;replace FB:=am_ (pinfoldref11_Claim.B_al (pinfoldref11_Claim.B_st FB.out hb2) (.cells #[.int .i64 x0,.int .i64 2,.string x2,.int .i64 x3,.string x4,.bool x5] 44));have BX:=am_ (blk_new w5 (.cells #[.int .i64 x0,.int .i64 2,.string x2,.int .i64 x3,.string x4,.bool x5] 44));clear hb2 u v;have u:=fun k=>bc_ FB.out.2.1 k;have v:=fun k=>bc_ FB.out.2.2.1 k;have z:=fun k=>bc_ BX.out k)|(go_at_call 30;(with_reducible refine (C6.out _).mono ?_);rintro e w6 ⟨rfl,hb2⟩;replace FB:=am_ (pinfoldref11_Claim.B_st FB.out hb2);replace BX:=am_ (kb_ BX.out hb2);clear hb2 u v z;have u:=fun k=>bc_ FB.out.2.1 k;have v:=fun k=>bc_ FB.out.2.2.1 k;have z:=fun k=>bc_ BX.out k)|(go_at_call 32;(with_reducible refine (C7.out _ FB.out.2.2.2).mono ?_);rintro e w7 ⟨rfl,hb2⟩;replace FB:=am_ (pinfoldref11_Claim.B_st FB.out hb2);replace BX:=am_ (kb_ BX.out hb2);clear hb2 u v z;have u:=fun k=>bc_ FB.out.2.1 k;have v:=fun k=>bc_ FB.out.2.2.1 k;have z:=fun k=>bc_ BX.out k)|(go_at_call 33;(with_reducible refine (C8.out _).mono ?_);rintro e w8 ⟨rfl,hb2⟩;replace FB:=am_ (pinfoldref11_Claim.B_st FB.out hb2);replace BX:=am_ (kb_ BX.out hb2);clear hb2 u v z;have u:=fun k=>bc_ FB.out.2.1 k;have v:=fun k=>bc_ FB.out.2.2.1 k;have z:=fun k=>bc_ BX.out k)|(go_at_call 31;(with_reducible refine (CD.out _ FB.out.2.2.2).mono ?_);rintro e w9 ⟨v,rfl,hv,hb2⟩;obtain ⟨AD,cd,rfl,hcd,hD⟩:=Kd.R_reads hv;have HD:=am_ hD;have HCD:=am_ hcd;replace FB:=am_ (pinfoldref11_Claim.B_st FB.out hb2);replace BX:=am_ (kb_ BX.out hb2);clear hb2 hv hD hcd u v z;have u:=fun k=>bc_ FB.out.2.1 k;have v:=fun k=>bc_ FB.out.2.2.1 k;have z:=fun k=>bc_ BX.out k)|(go_at_call 34;(with_reducible refine (CF.out _ FB.out.2.2.2).mono ?_);rintro e w10 ⟨rfl,hb2⟩;replace HD:=am_ (c4_ HD.out hb2);replace FB:=am_ (pinfoldref11_Claim.B_st FB.out hb2);replace BX:=am_ (kb_ BX.out hb2);clear hb2 u v z;have u:=fun k=>bc_ FB.out.2.1 k;have v:=fun k=>bc_ FB.out.2.2.1 k;have z:=fun k=>bc_ BX.out k)|(go_at_call 35;(with_reducible refine (CP.out _ _ _ (by (with_reducible repeat (first|exact HD.out|refine c1_ ?_ _))) HCD.out).mono ?_);rintro e w11 ⟨v7,rfl,hv7,hb2⟩;have HV7:=am_ (Kd.R_lower hv7 (show w.heap.size≤_ from bz_ (by repeat (with_reducible first|exact FB.out.2.2.2|apply p3_))));have HB:=am_ (bt_ (by repeat (with_reducible first|exact FB.out.2.2.2|apply p3_)) hb2);clear hb2 hv7))
     all_goals ((try simp only [Exit.inBlock,Exit.then]);refine bodyPost_ret (results_tmp4 rfl _ _ _) rfl ?_)
     all_goals exact ⟨_,rfl,(by rw [←hr.out];exact HV7.out),HB.out⟩
    have g1:(x4.toList == [])=false:=by simpa using nk
    have g2:x4.toList.isEmpty=false:=by simpa using nk
    have g4:(x4.toList != [])=true:=by simpa using nk
    obtain ⟨fr,hfr⟩:∃ b,freeB a0_0 a0_1 l0_2 l0_3 a0_4 a0_5 l0_6 l1 a2 a3 x4=b:=⟨_,rfl⟩
    have CF:=am_ (CFg x4 (by assumption))
    rw [hfr] at CF
    have CD:=am_ (CDg hh true)
    have CP:=am_ (CPg (dropL (letsP true) a3 a2 hh l1) (by rw [hDl];omega) ⟨hh,2,a3,a2+a0_4,x4,fr⟩)
    have eb:boundL (freeB a0_0 a0_1 l0_2 l0_3 a0_4 a0_5 l0_6 l1 a2 a3) hh (a2+a0_4) a3 x4=⟨hh,2,a3,a2+a0_4,x4,fr⟩:=by
     unfold boundL
     rw [hfr]
     first|(simp [nk];done)|(simp;done)
    have ed:dropL (fun _=>true) a3 a2 hh l1=dropL (letsP true) a3 a2 hh l1:=rfl
    rw [eb,ed] at hr
    generalize (if mayFree a0_0 a0_1 l0_2 l0_3 a0_4 a0_5 l0_6 l1 x4 then (0:Int) else 1600)=er at CF
    generalize dropL (letsP true) a3 a2 hh l1=D at CD CP hr
    replace hr:=am_ hr
    clear hhh hbh hlive hholds hxn hsz hx5 hDl CDg CFg CPg n4 hq eb ed hfr
    go_wp2_with (first|(go_at_call 29;(with_reducible refine (C5.out _ FB.out.2.2.2).mono ?_);rintro e w5 ⟨rfl,hb2⟩;replace FB:=am_ (pinfoldref11_Claim.B_al (pinfoldref11_Claim.B_st FB.out hb2) (.cells #[.int .i64 x0,.int .i64 2,.string x2,.int .i64 x3,.string x4,.bool x5] 44));have BX:=am_ (blk_new w5 (.cells #[.int .i64 x0,.int .i64 2,.string x2,.int .i64 x3,.string x4,.bool x5] 44));clear hb2 u v;have u:=fun k=>bc_ FB.out.2.1 k;have v:=fun k=>bc_ FB.out.2.2.1 k;have z:=fun k=>bc_ BX.out k)|(go_at_call 30;(with_reducible refine (C6.out _).mono ?_);rintro e w6 ⟨rfl,hb2⟩;replace FB:=am_ (pinfoldref11_Claim.B_st FB.out hb2);replace BX:=am_ (kb_ BX.out hb2);clear hb2 u v z;have u:=fun k=>bc_ FB.out.2.1 k;have v:=fun k=>bc_ FB.out.2.2.1 k;have z:=fun k=>bc_ BX.out k)|(go_at_call 32;(with_reducible refine (C7.out _ FB.out.2.2.2).mono ?_);rintro e w7 ⟨rfl,hb2⟩;replace FB:=am_ (pinfoldref11_Claim.B_st FB.out hb2);replace BX:=am_ (kb_ BX.out hb2);clear hb2 u v z;have u:=fun k=>bc_ FB.out.2.1 k;have v:=fun k=>bc_ FB.out.2.2.1 k;have z:=fun k=>bc_ BX.out k)|(go_at_call 33;(with_reducible refine (C8.out _).mono ?_);rintro e w8 ⟨rfl,hb2⟩;replace FB:=am_ (pinfoldref11_Claim.B_st FB.out hb2);replace BX:=am_ (kb_ BX.out hb2);clear hb2 u v z;have u:=fun k=>bc_ FB.out.2.1 k;have v:=fun k=>bc_ FB.out.2.2.1 k;have z:=fun k=>bc_ BX.out k)|(go_at_call 31;(with_reducible refine (CD.out _ FB.out.2.2.2).mono ?_);rintro e w9 ⟨v,rfl,hv,hb2⟩;obtain ⟨AD,cd,rfl,hcd,hD⟩:=Kd.R_reads hv;have HD:=am_ hD;have HCD:=am_ hcd;replace FB:=am_ (pinfoldref11_Claim.B_st FB.out hb2);replace BX:=am_ (kb_ BX.out hb2);clear hb2 hv hD hcd u v z;have u:=fun k=>bc_ FB.out.2.1 k;have v:=fun k=>bc_ FB.out.2.2.1 k;have z:=fun k=>bc_ BX.out k)|(go_at_call 34;(with_reducible refine (CF.out _ FB.out.2.2.2).mono ?_);rintro e w10 ⟨rfl,hb2⟩;replace HD:=am_ (c4_ HD.out hb2);replace FB:=am_ (pinfoldref11_Claim.B_st FB.out hb2);replace BX:=am_ (kb_ BX.out hb2);clear hb2 u v z;have u:=fun k=>bc_ FB.out.2.1 k;have v:=fun k=>bc_ FB.out.2.2.1 k;have z:=fun k=>bc_ BX.out k)|(go_at_call 35;(with_reducible refine (CP.out _ _ _ (by (with_reducible repeat (first|exact HD.out|refine c1_ ?_ _))) HCD.out).mono ?_);rintro e w11 ⟨v7,rfl,hv7,hb2⟩;have HV7:=am_ (Kd.R_lower hv7 (show w.heap.size≤_ from bz_ (by repeat (with_reducible first|exact FB.out.2.2.2|apply p3_))));have HB:=am_ (bt_ (by repeat (with_reducible first|exact FB.out.2.2.2|apply p3_)) hb2);clear hb2 hv7))
    all_goals ((try simp only [Exit.inBlock,Exit.then]);refine bodyPost_ret (results_tmp4 rfl _ _ _) rfl ?_)
    all_goals exact ⟨_,rfl,(by rw [←hr.out];exact HV7.out),HB.out⟩
  exact absurd hv.2 e3
theorem pinfoldref11_Claim.calls_3 (a0_0:Int) (a0_1:Int) (A0_2:Option Addr) (c0_2:Nat) (l0_2:List Int) (A0_3:Option Addr) (c0_3:Nat) (l0_3:List S95) (a0_4:Int) (a0_5:ByteArray) (A0_6:Option Addr) (c0_6:Nat) (l0_6:List S93) (A1:Option Addr) (c1:Nat) (l1:List S44) (a2:Int) (a3:ByteArray) (q0:Bool) (q1 q2 q3:Int) (q4:ByteArray) (r1:List S44) (r2 r3 r4:Int) (w:World) (hr0_2:Kd.C (Kd.int .i64) w A0_2 l0_2.length l0_2) (hc0_2:l0_2.length≤c0_2) (hr0_3:Kd.C k95 w A0_3 l0_3.length l0_3) (hc0_3:l0_3.length≤c0_3) (hr0_6:Kd.C k93 w A0_6 l0_6.length l0_6) (hc0_6:l0_6.length≤c0_6) (hr1:Kd.C k44 w A1 l1.length l1) (hc1:l1.length≤c1) (h:pinfoldref11_Claim.f a0_0 a0_1 l0_2 l0_3 a0_4 a0_5 l0_6 l1 a2 a3 q0 q1 q2 q3 q4=some (r1,r2,r3,r4)) (hyes:askedB a0_0 a0_1 l0_2 l0_3 a0_4 a0_5 l0_6 l1 a2 a3 1099510579200=true∧nameB (bytesOf q4)=true∧0≤q1∧0≤q2∧0≤q3∧(q0=true∨q1=0)) (hv:q0=false∧q3≠0) :
  Calls Tryz.prog 7 #[.agg #[.int .i64 a0_0,.int .i64 a0_1,.slice A0_2 l0_2.length c0_2,.slice A0_3 l0_3.length c0_3,.int .i64 a0_4,.string a0_5,.slice A0_6 l0_6.length c0_6],.slice A1 l1.length c1,.int .i64 a2,.string a3,.agg #[.bool q0,.int .i64 q1,.int .i64 q2,.int .i64 q3,.string q4]] w fun e w'=>∃ v0_:Value,e=.returned (.tuple #[v0_,.int .i64 r2,.int .i64 r3,.int .i64 r4])∧Kd.R k44 44 w' w.heap.size (fun _=>True) v0_ r1∧Below w.heap.size w w':=by
 unfold pinfoldref11_Claim.f at h
 by_cases hsq:pinfoldref11_Claim.fits l0_2 l0_3 a0_5 l0_6 l1 q4
 rotate_left
 ·rw [if_neg hsq] at h
  cases h
 rw [if_pos hsq] at h
 obtain ⟨hs,ht,hlm,hz5,hx5,hq⟩:=hsq
 replace h:=e5_ h
 have htold:=claim_told h
 unfold claimV at h
 rw [←Bool.and_assoc,pinfoldref11_Claim.early] at h
 obtain ⟨b1,h1⟩:∃ b,askedB a0_0 a0_1 l0_2 l0_3 a0_4 a0_5 l0_6 l1 a2 a3 1099510579200=b:=⟨_,rfl⟩
 obtain ⟨b2,h2⟩:∃ b,nameB (bytesOf q4)=b:=⟨_,rfl⟩
 unfold reqB at h
 rw [h1,h2] at h
 obtain ⟨W2,hW2⟩:∃ W2,((w.alloc (.cells #[.int .i64 a0_0,.int .i64 a0_1,.slice A0_2 l0_2.length c0_2,.slice A0_3 l0_3.length c0_3,.int .i64 a0_4,.string a0_5,.slice A0_6 l0_6.length c0_6] 26)).alloc (.cells #[.bool q0,.int .i64 q1,.int .i64 q2,.int .i64 q3,.string q4] 29))=W2:=⟨_,rfl⟩
 have HB:=am_ (show Below w.heap.size w W2 by rw [←hW2];repeat (first|exact Below.refl _ _|apply p3_))
 have BK:=am_ (show W2.heap[w.heap.size]?=some (.cells #[.int .i64 a0_0,.int .i64 a0_1,.slice A0_2 l0_2.length c0_2,.slice A0_3 l0_3.length c0_3,.int .i64 a0_4,.string a0_5,.slice A0_6 l0_6.length c0_6] 26) by rw [←hW2];exact k1_ (blk_new w _) _)
 have BQ:=am_ (show W2.heap[w.heap.size+1]?=some (.cells #[.bool q0,.int .i64 q1,.int .i64 q2,.int .i64 q3,.string q4] 29) by
  have:=blk_new (w.alloc (.cells #[.int .i64 a0_0,.int .i64 a0_1,.slice A0_2 l0_2.length c0_2,.slice A0_3 l0_3.length c0_3,.int .i64 a0_4,.string a0_5,.slice A0_6 l0_6.length c0_6] 26)) (.cells #[.bool q0,.int .i64 q1,.int .i64 q2,.int .i64 q3,.string q4] 29)
  rw [hW2] at this
  simpa using this)
 replace hW2:=am_ hW2
 have C1:=am_ (fun W (hb:Below w.heap.size w W)=>pinfoldref11_asked_c.calls a0_0 a0_1 A0_2 c0_2 l0_2 A0_3 c0_3 l0_3 a0_4 a0_5 A0_6 c0_6 l0_6 A1 c1 l1 a2 a3 1099510579200 b1 W (c4_ hr0_2 hb) hc0_2 (c4_ hr0_3 hb) hc0_3 (c4_ hr0_6 hb) hc0_6 (c4_ hr1 hb) hc1 (by unfold pinfoldref11_asked_c.f;rw [if_pos ⟨hs,ht⟩,h1]))
 have C2:=am_ (fun W=>pinfoldref1_NameMay_c.calls q4 b2 W (by unfold pinfoldref1_NameMay_c.f;rw [if_pos (by omega),h2]))
 obtain ⟨y1,y2,n1',n2',n3',y4⟩:=hyes
 obtain rfl:b1=true:=h1.symm.trans y1
 obtain rfl:b2=true:=h2.symm.trans y2
 rw [Bool.true_and,Bool.true_and,decide_eq_true n1',decide_eq_true n2',decide_eq_true n3',Bool.true_and,Bool.true_and,Bool.true_and] at h
 have n1:¬ q1 < 0:=by omega
 have n2:¬ q2 < 0:=by omega
 have n3:¬ q3 < 0:=by omega
 have n4:¬ (q0=false∧q1≠0):=by
  rintro ⟨e,e'⟩
  rcases y4 with e2|e2
  ·rw [e] at e2
   cases e2
  ·exact e' e2
 clear y1 y2 n1' n2' n3' y4
 have hcl:=client_parts (show clientB a3=true by
  have h3:=h1
  unfold askedB at h3
  simp only [Bool.and_eq_true] at h3
  exact h3.2.2.2)
 have hT:tableB l1=true:=by
  have h3:=h1
  unfold askedB at h3
  simp only [Bool.and_eq_true] at h3
  exact h3.2.1
 have hn:0≤a2∧a2≤1099510579200:=by
  have h3:=h1
  unfold askedB at h3
  simp only [Bool.and_eq_true,decide_eq_true_eq] at h3
  exact h3.2.2.1
 have ha4:1≤a0_4∧a0_4≤1048576:=by
  have h3:=h1
  unfold askedB at h3
  rw [Bool.and_eq_true] at h3
  have h4:=h3.1
  unfold confB at h4
  simp only [Bool.and_eq_true,decide_eq_true_eq] at h4
  exact h4.2.1
 have hw:IntKind.i64.wrap (a2+a0_4)=a2+a0_4:=(i64_w _).trans (by unfold wrap64;omega)
 have h8:=(table_sorted hT).2.2
 rw [if_pos (by
  cases q0 with
  | true=>rfl
  | false =>
   have:q1=0:=by
    by_cases e:q1=0
    ·exact e
    ·exact absurd ⟨rfl,e⟩ n4
   rw [decide_eq_true this]
   rfl)] at h
 obtain ⟨hh,hhh⟩:∃ v,claimHost q0 q2 q3=v:=⟨_,rfl⟩
 rw [hhh] at h
 obtain ⟨lt,hlt⟩:∃ b,lentB a0_0 a0_1 l0_2 l0_3 a0_4 a0_5 l0_6 hh a3=b:=⟨_,rfl⟩
 rw [hlt] at h
 rw [←refclaim_go (freeB a0_0 a0_1 l0_2 l0_3 a0_4 a0_5 l0_6 l1 a2 a3) a0_4 l1 a2 a3 hh lt q0 q1 q4 hT hcl.1] at h
 obtain ⟨isx,hix⟩:∃ b,(findL l1 hh).isSome=b:=⟨_,rfl⟩
 obtain ⟨x,hx⟩:∃ x,gotL (findL l1 hh)=x:=⟨_,rfl⟩
 rw [hix,hx] at h
 have hsz:x.f4.size≤1048576:=by
  rw [←hx]
  cases e:findL l1 hh with
  | none=>exact (by decide:(⟨#[]⟩:ByteArray).size≤1048576)
  | some y=>exact hx5 y (List.mem_of_find?_eq_some e)
 have hxn:isx=false→x=z44:=by
  intro e
  rw [e] at hix
  cases e2:findL l1 hh with
  | none=>rw [←hx,e2];rfl
  | some y=>rw [e2] at hix;cases hix
 have C5:=am_ (fun W (hb:Below w.heap.size w W)=>pinfoldref11_FindLease_c.calls A1 c1 l1 hh x.f0 x.f1 x.f2 x.f3 x.f4 x.f5 isx W (c4_ hr1 hb) hc1 (by unfold pinfoldref11_FindLease_c.f;rw [if_pos ht.1,hx,hix]))
 obtain ⟨x0,x1,x2,x3,x4,x5⟩:=x
 obtain ⟨lv,hlv⟩:∃ b,liveB x0 x1 x2 x3 x4 x5 a2=b:=⟨_,rfl⟩
 obtain ⟨bh,hbh⟩:∃ b,holdsB x0 x1 x2 x3 x4 x5 a3 a2=b:=⟨_,rfl⟩
 simp only at hsz C5
 have C6:=am_ (fun W=>pinfoldref11_Live_c.calls x0 x1 x2 x3 x4 x5 a2 lv W (by unfold pinfoldref11_Live_c.f;rw [if_pos (by omega),hlv]))
 have C7:=am_ (fun W (hb:Below w.heap.size w W)=>pinfoldref11_mayHave_c.calls a0_0 a0_1 A0_2 c0_2 l0_2 A0_3 c0_3 l0_3 a0_4 a0_5 A0_6 c0_6 l0_6 hh a3 lt W (c4_ hr0_2 hb) hc0_2 (c4_ hr0_3 hb) hc0_3 (c4_ hr0_6 hb) hc0_6 (by unfold pinfoldref11_mayHave_c.f;rw [if_pos hs,hlt]))
 have C8:=am_ (fun W=>pinfoldref11_his_c.calls x0 x1 x2 x3 x4 x5 a3 a2 bh W (by unfold pinfoldref11_his_c.f;rw [if_pos (by omega),hbh]))
 have HR1:=am_ hr1
 have CDg:=fun (but:Int) (bd:Bool) W (hb:Below w.heap.size w W)=>pinfoldref11_lets_c.calls A1 c1 l1 a3 a2 but bd (dropL (letsP bd) a3 a2 but l1) W (c4_ hr1 hb) hc1 (by unfold pinfoldref11_lets_c.f;rw [if_pos ⟨ht,hlm⟩])
 have CFg:=fun (K:ByteArray) (hK:K.size≤1048576) W (hb:Below w.heap.size w W)=>pinfoldref11_FreeName.calls a0_0 a0_1 A0_2 c0_2 l0_2 A0_3 c0_3 l0_3 a0_4 a0_5 A0_6 c0_6 l0_6 A1 c1 l1 a2 a3 K (freeB a0_0 a0_1 l0_2 l0_3 a0_4 a0_5 l0_6 l1 a2 a3 K) (if mayFree a0_0 a0_1 l0_2 l0_3 a0_4 a0_5 l0_6 l1 K then 0 else 1600) W (c4_ hr0_2 hb) hc0_2 (c4_ hr0_3 hb) hc0_3 (c4_ hr0_6 hb) hc0_6 (c4_ hr1 hb) hc1 (by unfold pinfoldref11_FreeName.f;rw [if_pos ⟨⟨hs,hK,hz5⟩,ht.1,hx5⟩])
 have CPg:=fun (D:List S44) (hD:D.length≤1099511627776) (y:S44) W A c (h1:Kd.C k44 W A D.length D) (h2:D.length≤c)=>pinfoldref11_put_c.calls A c D y.f0 y.f1 y.f2 y.f3 y.f4 y.f5 (putL D y) W h1 h2 (by unfold pinfoldref11_put_c.f;rw [if_pos hD])
 have hDl:∀ q,(dropL q a3 a2 hh l1).length=l1.length:=fun q=>by unfold dropL;rw [List.length_map]
 have hlive:liveX a2 ⟨x0,x1,x2,x3,x4,x5⟩=lv:=hlv
 have hholds:holdsX a3 a2 ⟨x0,x1,x2,x3,x4,x5⟩=bh:=hbh
 unfold refClaimGo at h
 rw [hlive,hholds] at h
 clear htold hix hx hlv hlt h1 h2 hs ht hlm hz5 hr0_2 hr0_3 hr0_6 hc0_2 hc0_3 hc0_6 hr1 hc1 hcl hT hn ha4
 cases q0 with
 | true=>cases hv.1
 | false =>
  have hq1:q1=0:=by
   by_cases e:q1=0
   ·exact e
   ·exact absurd ⟨rfl,e⟩ n4
  subst hq1
  rw [if_neg (by rintro ⟨h,_⟩;cases h)] at h
  have e3:=hv.2
  have hhe:hh=q3:=by rw [←hhh];exact if_neg (by rintro (h|h);cases h;exact e3 h)
  subst hhe
  have m3:(hh != 0)=true:=by simpa using e3
  replace e3:=am_ e3
  replace h:=am_ h;replace hhh:=am_ hhh;replace n4:=am_ n4;replace hbh:=am_ hbh;replace hlive:=am_ hlive;replace hholds:=am_ hholds;replace hxn:=am_ hxn;replace hsz:=am_ hsz;replace hx5:=am_ hx5;replace hDl:=am_ hDl;replace CDg:=am_ CDg;replace CFg:=am_ CFg;replace CPg:=am_ CPg;replace hq:=am_ hq
  go_enter Tryz.func7,Tryz.ntmps7
  go_wp2_with (first|(go_at_call 27;(try rw [hW2.out]);(with_reducible refine (C1.out _ HB.out).mono ?_);rintro e w1 ⟨rfl,hb2⟩;replace BK:=am_ (kb_ BK.out hb2);replace BQ:=am_ (kb_ BQ.out hb2);replace HB:=am_ (bt_ HB.out hb2);clear hb2;(try clear u v);have u:=fun k=>bc_ BK.out k;have v:=fun k=>bc_ BQ.out k)|(go_at_call 28;(with_reducible refine (C2.out _).mono ?_);rintro e w2 ⟨rfl,hb2⟩;replace BK:=am_ (kb_ BK.out hb2);replace BQ:=am_ (kb_ BQ.out hb2);replace HB:=am_ (bt_ HB.out hb2);clear hb2;(try clear u v);have u:=fun k=>bc_ BK.out k;have v:=fun k=>bc_ BQ.out k)|((with_reducible refine gate_dst (N:=61) rfl ?_);refine Kd.R_lit k44 w.heap.size 44 ?hg (N:=61) ?hd (xs:=([]:List S44)) (inner:=[]) (ok:=fun _=>True) (okp:=fun _=>True) ?hr ?hp (fun _ hk=>hk) trivial HB.out (bz_ HB.out) (by simp) ?_;(case hd=>rfl);(case hg=>rfl);(case hr=>first|(go_simp;done)|(go_simp;rfl));(case hp=>exact (Reps.none _ _));intro v104 w5 ho6 hb5 hg5 hn5;obtain ⟨bb,hbb,hbl⟩:=hn5;have HBB:=am_ hbb;have HN0:=am_ (show w.heap.size≠bb by have:=blk_lt BK.out;omega);have HN1:=am_ (show w.heap.size+1≠bb by have:=blk_lt BQ.out;omega);replace BK:=am_ (blk_grown BK.out hg5 (by simp));replace BQ:=am_ (blk_grown BQ.out hg5 (by simp));replace HB:=am_ hb5;have HO:=am_ ho6;clear hg5 hbl hbb hb5 ho6;(try clear u v);have u:=fun k=>bc_ BK.out k;have v:=fun k=>bc_ BQ.out k)|((with_reducible refine gate_builtin (b:=.append) (xs:=#[.tmp 61,.tmp 62]) rfl ?_);at_builtin;refine Kd.R_append_rows k44 (w0:=w) w.heap.size rfl (.tmp 61) (.tmp 62) 27 44 (.agg #[.int .i64 0,.int .i64 0,.string ⟨#[]⟩,.int .i64 0,.string ⟨#[]⟩,.bool false]) 64 rfl Tryz.underlying27 pinfoldref11_Claim.info rfl (by decide) (by omega) v104 [] l1 _ _ _ (fun _=>True) (fun _=>False) rfl rfl ?aO ?aR (fun _ _ h=>h) (fun _ h=>h.elim) ?aF ?aB ?aS ?aL ?_;(case aR=>exact c4_ HR1.out HB.out);(case aB=>exact HB.out);(case aF=>exact (fun _ _=>trivial));(case aO=>exact HO.out);(case aS=>exact (bz_ HB.out));(case aL=>simp;omega);intro v107 w9 ho hb9 hg9 hat;rw [List.nil_append] at ho;clear HO;have HO:=am_ ho;replace BK:=am_ (blk_grown BK.out hg9 (by rw [HBB.out];intro e;exact HN0.out (e5_ e)));replace BQ:=am_ (blk_grown BQ.out hg9 (by rw [HBB.out];intro e;exact HN1.out (e5_ e)));replace HB:=am_ hb9;have FB:=am_ (pinfoldref11_Claim.B_mk HO.out BK.out BQ.out HB.out);clear hat hg9 ho hb9 HBB HN0 HN1 HO BK BQ HB;(try clear u v);have u:=fun k=>bc_ FB.out.2.1 k;have v:=fun k=>bc_ FB.out.2.2.1 k))
  replace h:=h.out;replace hhh:=hhh.out;replace n4:=n4.out;replace hbh:=hbh.out;replace hlive:=hlive.out;replace hholds:=hholds.out;replace hxn:=hxn.out;replace hsz:=hsz.out;replace hx5:=hx5.out;replace hDl:=hDl.out;replace CDg:=CDg.out;replace CFg:=CFg.out;replace CPg:=CPg.out;replace hq:=hq.out
  replace e3:=e3.out
  have m1:=e3
  rw [if_neg (fun h=>m1 h.2)] at h
  have m2:(hh == 0)=false:=by simpa using m1
  skip
  cases lt with
  | false =>
   rw [if_pos rfl] at h
   obtain ⟨rfl,h5⟩:=Prod.mk.inj h
   obtain ⟨rfl,h6⟩:=Prod.mk.inj h5
   obtain ⟨rfl,rfl⟩:=Prod.mk.inj h6
   clear h6 h5 h
   clear m1
   clear hhh hbh hlive hholds hxn hsz hx5 hDl CDg CFg CPg n4 hq
   go_wp2_with (first|(go_at_call 29;(with_reducible refine (C5.out _ FB.out.2.2.2).mono ?_);rintro e w5 ⟨rfl,hb2⟩;replace FB:=am_ (pinfoldref11_Claim.B_al (pinfoldref11_Claim.B_st FB.out hb2) (.cells #[.int .i64 x0,.int .i64 x1,.string x2,.int .i64 x3,.string x4,.bool x5] 44));have BX:=am_ (blk_new w5 (.cells #[.int .i64 x0,.int .i64 x1,.string x2,.int .i64 x3,.string x4,.bool x5] 44));clear hb2 u v;have u:=fun k=>bc_ FB.out.2.1 k;have v:=fun k=>bc_ FB.out.2.2.1 k;have z:=fun k=>bc_ BX.out k)|(go_at_call 30;(with_reducible refine (C6.out _).mono ?_);rintro e w6 ⟨rfl,hb2⟩;replace FB:=am_ (pinfoldref11_Claim.B_st FB.out hb2);replace BX:=am_ (kb_ BX.out hb2);clear hb2 u v z;have u:=fun k=>bc_ FB.out.2.1 k;have v:=fun k=>bc_ FB.out.2.2.1 k;have z:=fun k=>bc_ BX.out k)|(go_at_call 32;(with_reducible refine (C7.out _ FB.out.2.2.2).mono ?_);rintro e w7 ⟨rfl,hb2⟩;replace FB:=am_ (pinfoldref11_Claim.B_st FB.out hb2);replace BX:=am_ (kb_ BX.out hb2);clear hb2 u v z;have u:=fun k=>bc_ FB.out.2.1 k;have v:=fun k=>bc_ FB.out.2.2.1 k;have z:=fun k=>bc_ BX.out k))
   all_goals ((try simp only [Exit.inBlock,Exit.then]);refine bodyPost_ret (results_tmp4 rfl _ _ _) rfl ?_)
   all_goals exact ⟨_,rfl,FB.out.1,FB.out.2.2.2⟩
  | true =>
  rw [if_neg (by decide),if_neg (by rintro ⟨h,_⟩;cases h)] at h
  cases isx with
  | false =>
   have hx0:=hxn rfl
   skip
   rw [if_neg (by rintro ⟨_,h,_⟩;cases h),if_pos ⟨by first|rfl|trivial,by first|rfl|trivial,.inl rfl⟩] at h
   obtain ⟨rfl,h5⟩:=Prod.mk.inj h
   obtain ⟨rfl,h6⟩:=Prod.mk.inj h5
   obtain ⟨rfl,rfl⟩:=Prod.mk.inj h6
   clear h6 h5 h
   clear m1 hx0
   clear hhh hbh hlive hholds hxn hsz hx5 hDl CDg CFg CPg n4 hq
   go_wp2_with (first|(go_at_call 29;(with_reducible refine (C5.out _ FB.out.2.2.2).mono ?_);rintro e w5 ⟨rfl,hb2⟩;replace FB:=am_ (pinfoldref11_Claim.B_al (pinfoldref11_Claim.B_st FB.out hb2) (.cells #[.int .i64 x0,.int .i64 x1,.string x2,.int .i64 x3,.string x4,.bool x5] 44));have BX:=am_ (blk_new w5 (.cells #[.int .i64 x0,.int .i64 x1,.string x2,.int .i64 x3,.string x4,.bool x5] 44));clear hb2 u v;have u:=fun k=>bc_ FB.out.2.1 k;have v:=fun k=>bc_ FB.out.2.2.1 k;have z:=fun k=>bc_ BX.out k)|(go_at_call 30;(with_reducible refine (C6.out _).mono ?_);rintro e w6 ⟨rfl,hb2⟩;replace FB:=am_ (pinfoldref11_Claim.B_st FB.out hb2);replace BX:=am_ (kb_ BX.out hb2);clear hb2 u v z;have u:=fun k=>bc_ FB.out.2.1 k;have v:=fun k=>bc_ FB.out.2.2.1 k;have z:=fun k=>bc_ BX.out k)|(go_at_call 32;(with_reducible refine (C7.out _ FB.out.2.2.2).mono ?_);rintro e w7 ⟨rfl,hb2⟩;replace FB:=am_ (pinfoldref11_Claim.B_st FB.out hb2);replace BX:=am_ (kb_ BX.out hb2);clear hb2 u v z;have u:=fun k=>bc_ FB.out.2.1 k;have v:=fun k=>bc_ FB.out.2.2.1 k;have z:=fun k=>bc_ BX.out k))
   all_goals ((try simp only [Exit.inBlock,Exit.then]);refine bodyPost_ret (results_tmp4 rfl _ _ _) rfl ?_)
   all_goals exact ⟨_,rfl,FB.out.1,FB.out.2.2.2⟩
  | true =>
  rw [Bool.true_and] at h
  cases lv with
  | true =>
   by_cases e1:x1=2
   rotate_left
   ·rw [if_pos ⟨by first|rfl|trivial,by first|rfl|trivial,.inl e1⟩] at h
    obtain ⟨rfl,h5⟩:=Prod.mk.inj h
    obtain ⟨rfl,h6⟩:=Prod.mk.inj h5
    obtain ⟨rfl,rfl⟩:=Prod.mk.inj h6
    clear h6 h5 h
    have f3:(x1 != 2)=true:=by simpa using e1
    clear m1 e1
    clear hhh hbh hlive hholds hxn hsz hx5 hDl CDg CFg CPg n4 hq
    go_wp2_with (first|(go_at_call 29;(with_reducible refine (C5.out _ FB.out.2.2.2).mono ?_);rintro e w5 ⟨rfl,hb2⟩;replace FB:=am_ (pinfoldref11_Claim.B_al (pinfoldref11_Claim.B_st FB.out hb2) (.cells #[.int .i64 x0,.int .i64 x1,.string x2,.int .i64 x3,.string x4,.bool x5] 44));have BX:=am_ (blk_new w5 (.cells #[.int .i64 x0,.int .i64 x1,.string x2,.int .i64 x3,.string x4,.bool x5] 44));clear hb2 u v;have u:=fun k=>bc_ FB.out.2.1 k;have v:=fun k=>bc_ FB.out.2.2.1 k;have z:=fun k=>bc_ BX.out k)|(go_at_call 30;(with_reducible refine (C6.out _).mono ?_);rintro e w6 ⟨rfl,hb2⟩;replace FB:=am_ (pinfoldref11_Claim.B_st FB.out hb2);replace BX:=am_ (kb_ BX.out hb2);clear hb2 u v z;have u:=fun k=>bc_ FB.out.2.1 k;have v:=fun k=>bc_ FB.out.2.2.1 k;have z:=fun k=>bc_ BX.out k)|(go_at_call 32;(with_reducible refine (C7.out _ FB.out.2.2.2).mono ?_);rintro e w7 ⟨rfl,hb2⟩;replace FB:=am_ (pinfoldref11_Claim.B_st FB.out hb2);replace BX:=am_ (kb_ BX.out hb2);clear hb2 u v z;have u:=fun k=>bc_ FB.out.2.1 k;have v:=fun k=>bc_ FB.out.2.2.1 k;have z:=fun k=>bc_ BX.out k))
    all_goals ((try simp only [Exit.inBlock,Exit.then]);refine bodyPost_ret (results_tmp4 rfl _ _ _) rfl ?_)
    all_goals exact ⟨_,rfl,FB.out.1,FB.out.2.2.2⟩
   by_cases e2:x2.toList=a3.toList
   rotate_left
   ·rw [if_pos ⟨by first|rfl|trivial,by first|rfl|trivial,.inr e2⟩] at h
    obtain ⟨rfl,h5⟩:=Prod.mk.inj h
    obtain ⟨rfl,h6⟩:=Prod.mk.inj h5
    obtain ⟨rfl,rfl⟩:=Prod.mk.inj h6
    clear h6 h5 h
    subst e1
    have f5:(x2.toList == a3.toList)=false:=by simpa using e2
    have f6:(x2.toList != a3.toList)=true:=by simpa using e2
    clear m1 e2
    clear hhh hbh hlive hholds hxn hsz hx5 hDl CDg CFg CPg n4 hq
    go_wp2_with (first|(go_at_call 29;(with_reducible refine (C5.out _ FB.out.2.2.2).mono ?_);rintro e w5 ⟨rfl,hb2⟩;replace FB:=am_ (pinfoldref11_Claim.B_al (pinfoldref11_Claim.B_st FB.out hb2) (.cells #[.int .i64 x0,.int .i64 2,.string x2,.int .i64 x3,.string x4,.bool x5] 44));have BX:=am_ (blk_new w5 (.cells #[.int .i64 x0,.int .i64 2,.string x2,.int .i64 x3,.string x4,.bool x5] 44));clear hb2 u v;have u:=fun k=>bc_ FB.out.2.1 k;have v:=fun k=>bc_ FB.out.2.2.1 k;have z:=fun k=>bc_ BX.out k)|(go_at_call 30;(with_reducible refine (C6.out _).mono ?_);rintro e w6 ⟨rfl,hb2⟩;replace FB:=am_ (pinfoldref11_Claim.B_st FB.out hb2);replace BX:=am_ (kb_ BX.out hb2);clear hb2 u v z;have u:=fun k=>bc_ FB.out.2.1 k;have v:=fun k=>bc_ FB.out.2.2.1 k;have z:=fun k=>bc_ BX.out k)|(go_at_call 32;(with_reducible refine (C7.out _ FB.out.2.2.2).mono ?_);rintro e w7 ⟨rfl,hb2⟩;replace FB:=am_ (pinfoldref11_Claim.B_st FB.out hb2);replace BX:=am_ (kb_ BX.out hb2);clear hb2 u v z;have u:=fun k=>bc_ FB.out.2.1 k;have v:=fun k=>bc_ FB.out.2.2.1 k;have z:=fun k=>bc_ BX.out k))
    all_goals ((try simp only [Exit.inBlock,Exit.then]);refine bodyPost_ret (results_tmp4 rfl _ _ _) rfl ?_)
    all_goals exact ⟨_,rfl,FB.out.1,FB.out.2.2.2⟩
   rw [if_neg (by rintro ⟨_,_,h|h⟩;exact h e1;exact h e2),if_neg (by rintro ⟨_,h,_⟩;cases h)] at h
   obtain ⟨hr,h5⟩:=Prod.mk.inj h
   obtain ⟨rfl,h6⟩:=Prod.mk.inj h5
   obtain ⟨rfl,rfl⟩:=Prod.mk.inj h6
   clear h6 h5 h
   have f5:(x2.toList == a3.toList)=true:=by simpa using e2
   have f6:(x2.toList != a3.toList)=false:=by simpa using e2
   subst e1
   clear m1 e2
   by_cases e1:q4.toList=[]
   rotate_left
   ·rw [if_neg (fun h=>e1 h.1)] at hr
    have nk:=e1
    have f1:(q4.toList == [])=false:=by simpa using e1
    have f2:q4.toList.isEmpty=false:=by simpa using e1
    have f4:(q4.toList != [])=true:=by simpa using e1
    clear e1
    obtain ⟨fr,hfr⟩:∃ b,freeB a0_0 a0_1 l0_2 l0_3 a0_4 a0_5 l0_6 l1 a2 a3 q4=b:=⟨_,rfl⟩
    have CF:=am_ (CFg q4 (by assumption))
    rw [hfr] at CF
    have CD:=am_ (CDg hh true)
    have CP:=am_ (CPg (dropL (letsP true) a3 a2 hh l1) (by rw [hDl];omega) ⟨hh,2,a3,a2+a0_4,q4,fr⟩)
    have eb:boundL (freeB a0_0 a0_1 l0_2 l0_3 a0_4 a0_5 l0_6 l1 a2 a3) hh (a2+a0_4) a3 q4=⟨hh,2,a3,a2+a0_4,q4,fr⟩:=by
     unfold boundL
     rw [hfr]
     first|(simp [nk];done)|(simp;done)
    have ed:dropL (fun _=>true) a3 a2 hh l1=dropL (letsP true) a3 a2 hh l1:=rfl
    rw [eb,ed] at hr
    generalize (if mayFree a0_0 a0_1 l0_2 l0_3 a0_4 a0_5 l0_6 l1 q4 then (0:Int) else 1600)=er at CF
    generalize dropL (letsP true) a3 a2 hh l1=D at CD CP hr
    replace hr:=am_ hr
    clear hhh hbh hlive hholds hxn hsz hx5 hDl CDg CFg CPg n4 hq eb ed hfr
    go_wp2_with (first|(go_at_call 29;(with_reducible refine (C5.out _ FB.out.2.2.2).mono ?_);rintro e w5 ⟨rfl,hb2⟩;replace FB:=am_ (pinfoldref11_Claim.B_al (pinfoldref11_Claim.B_st FB.out hb2) (.cells #[.int .i64 x0,.int .i64 2,.string x2,.int .i64 x3,.string x4,.bool x5] 44));have BX:=am_ (blk_new w5 (.cells #[.int .i64 x0,.int .i64 2,.string x2,.int .i64 x3,.string x4,.bool x5] 44));clear hb2 u v;have u:=fun k=>bc_ FB.out.2.1 k;have v:=fun k=>bc_ FB.out.2.2.1 k;have z:=fun k=>bc_ BX.out k)|(go_at_call 30;(with_reducible refine (C6.out _).mono ?_);rintro e w6 ⟨rfl,hb2⟩;replace FB:=am_ (pinfoldref11_Claim.B_st FB.out hb2);replace BX:=am_ (kb_ BX.out hb2);clear hb2 u v z;have u:=fun k=>bc_ FB.out.2.1 k;have v:=fun k=>bc_ FB.out.2.2.1 k;have z:=fun k=>bc_ BX.out k)|(go_at_call 32;(with_reducible refine (C7.out _ FB.out.2.2.2).mono ?_);rintro e w7 ⟨rfl,hb2⟩;replace FB:=am_ (pinfoldref11_Claim.B_st FB.out hb2);replace BX:=am_ (kb_ BX.out hb2);clear hb2 u v z;have u:=fun k=>bc_ FB.out.2.1 k;have v:=fun k=>bc_ FB.out.2.2.1 k;have z:=fun k=>bc_ BX.out k)|(go_at_call 33;(with_reducible refine (C8.out _).mono ?_);rintro e w8 ⟨rfl,hb2⟩;replace FB:=am_ (pinfoldref11_Claim.B_st FB.out hb2);replace BX:=am_ (kb_ BX.out hb2);clear hb2 u v z;have u:=fun k=>bc_ FB.out.2.1 k;have v:=fun k=>bc_ FB.out.2.2.1 k;have z:=fun k=>bc_ BX.out k)|(go_at_call 31;(with_reducible refine (CD.out _ FB.out.2.2.2).mono ?_);rintro e w9 ⟨v,rfl,hv,hb2⟩;obtain ⟨AD,cd,rfl,hcd,hD⟩:=Kd.R_reads hv;have HD:=am_ hD;have HCD:=am_ hcd;replace FB:=am_ (pinfoldref11_Claim.B_st FB.out hb2);replace BX:=am_ (kb_ BX.out hb2);clear hb2 hv hD hcd u v z;have u:=fun k=>bc_ FB.out.2.1 k;have v:=fun k=>bc_ FB.out.2.2.1 k;have z:=fun k=>bc_ BX.out k)|(go_at_call 34;(with_reducible refine (CF.out _ FB.out.2.2.2).mono ?_);rintro e w10 ⟨rfl,hb2⟩;replace HD:=am_ (c4_ HD.out hb2);replace FB:=am_ (pinfoldref11_Claim.B_st FB.out hb2);replace BX:=am_ (kb_ BX.out hb2);clear hb2 u v z;have u:=fun k=>bc_ FB.out.2.1 k;have v:=fun k=>bc_ FB.out.2.2.1 k;have z:=fun k=>bc_ BX.out k)|(go_at_call 35;(with_reducible refine (CP.out _ _ _ (by (with_reducible repeat (first|exact HD.out|refine c1_ ?_ _))) HCD.out).mono ?_);rintro e w11 ⟨v7,rfl,hv7,hb2⟩;have HV7:=am_ (Kd.R_lower hv7 (show w.heap.size≤_ from bz_ (by repeat (with_reducible first|exact FB.out.2.2.2|apply p3_))));have HB:=am_ (bt_ (by repeat (with_reducible first|exact FB.out.2.2.2|apply p3_)) hb2);clear hb2 hv7))
    all_goals ((try simp only [Exit.inBlock,Exit.then]);refine bodyPost_ret (results_tmp4 rfl _ _ _) rfl ?_)
    all_goals exact ⟨_,rfl,(by rw [←hr.out];exact HV7.out),HB.out⟩
   have f1:(q4.toList == [])=true:=by simpa using e1
   have f2:q4.toList.isEmpty=true:=by simpa using e1
   have f4:(q4.toList != [])=false:=by simpa using e1
   rw [if_pos ⟨e1,rfl⟩] at hr
   clear e1
   by_cases nk:x4.toList=[]
   ·have g1:(x4.toList == [])=true:=by simpa using nk
    have g2:x4.toList.isEmpty=true:=by simpa using nk
    have g4:(x4.toList != [])=false:=by simpa using nk
    obtain ⟨fr,hfr⟩:∃ b,freeB a0_0 a0_1 l0_2 l0_3 a0_4 a0_5 l0_6 l1 a2 a3 x4=b:=⟨_,rfl⟩
    have CF:=am_ (CFg x4 (by assumption))
    rw [hfr] at CF
    have CD:=am_ (CDg hh true)
    have CP:=am_ (CPg (dropL (letsP true) a3 a2 hh l1) (by rw [hDl];omega) ⟨hh,2,a3,a2+a0_4,x4,false⟩)
    have eb:boundL (freeB a0_0 a0_1 l0_2 l0_3 a0_4 a0_5 l0_6 l1 a2 a3) hh (a2+a0_4) a3 x4=⟨hh,2,a3,a2+a0_4,x4,false⟩:=by
     unfold boundL
     rw [hfr]
     first|(simp [nk];done)|(simp;done)
    have ed:dropL (fun _=>true) a3 a2 hh l1=dropL (letsP true) a3 a2 hh l1:=rfl
    rw [eb,ed] at hr
    generalize (if mayFree a0_0 a0_1 l0_2 l0_3 a0_4 a0_5 l0_6 l1 x4 then (0:Int) else 1600)=er at CF
    generalize dropL (letsP true) a3 a2 hh l1=D at CD CP hr
    replace hr:=am_ hr
    clear hhh hbh hlive hholds hxn hsz hx5 hDl CDg CFg CPg n4 hq eb ed hfr
    go_wp2_with (first|(go_at_call 29;(with_reducible refine (C5.out _ FB.out.2.2.2).mono ?_);rintro e w5 ⟨rfl,hb2⟩;replace FB:=am_ (pinfoldref11_Claim.B_al (pinfoldref11_Claim.B_st FB.out hb2) (.cells #[.int .i64 x0,.int .i64 2,.string x2,.int .i64 x3,.string x4,.bool x5] 44));have BX:=am_ (blk_new w5 (.cells #[.int .i64 x0,.int .i64 2,.string x2,.int .i64 x3,.string x4,.bool x5] 44));clear hb2 u v;have u:=fun k=>bc_ FB.out.2.1 k;have v:=fun k=>bc_ FB.out.2.2.1 k;have z:=fun k=>bc_ BX.out k)|(go_at_call 30;(with_reducible refine (C6.out _).mono ?_);rintro e w6 ⟨rfl,hb2⟩;replace FB:=am_ (pinfoldref11_Claim.B_st FB.out hb2);replace BX:=am_ (kb_ BX.out hb2);clear hb2 u v z;have u:=fun k=>bc_ FB.out.2.1 k;have v:=fun k=>bc_ FB.out.2.2.1 k;have z:=fun k=>bc_ BX.out k)|(go_at_call 32;(with_reducible refine (C7.out _ FB.out.2.2.2).mono ?_);rintro e w7 ⟨rfl,hb2⟩;replace FB:=am_ (pinfoldref11_Claim.B_st FB.out hb2);replace BX:=am_ (kb_ BX.out hb2);clear hb2 u v z;have u:=fun k=>bc_ FB.out.2.1 k;have v:=fun k=>bc_ FB.out.2.2.1 k;have z:=fun k=>bc_ BX.out k)|(go_at_call 33;(with_reducible refine (C8.out _).mono ?_);rintro e w8 ⟨rfl,hb2⟩;replace FB:=am_ (pinfoldref11_Claim.B_st FB.out hb2);replace BX:=am_ (kb_ BX.out hb2);clear hb2 u v z;have u:=fun k=>bc_ FB.out.2.1 k;have v:=fun k=>bc_ FB.out.2.2.1 k;have z:=fun k=>bc_ BX.out k)|(go_at_call 31;(with_reducible refine (CD.out _ FB.out.2.2.2).mono ?_);rintro e w9 ⟨v,rfl,hv,hb2⟩;obtain ⟨AD,cd,rfl,hcd,hD⟩:=Kd.R_reads hv;have HD:=am_ hD;have HCD:=am_ hcd;replace FB:=am_ (pinfoldref11_Claim.B_st FB.out hb2);replace BX:=am_ (kb_ BX.out hb2);clear hb2 hv hD hcd u v z;have u:=fun k=>bc_ FB.out.2.1 k;have v:=fun k=>bc_ FB.out.2.2.1 k;have z:=fun k=>bc_ BX.out k)|(go_at_call 34;(with_reducible refine (CF.out _ FB.out.2.2.2).mono ?_);rintro e w10 ⟨rfl,hb2⟩;replace HD:=am_ (c4_ HD.out hb2);replace FB:=am_ (pinfoldref11_Claim.B_st FB.out hb2);replace BX:=am_ (kb_ BX.out hb2);clear hb2 u v z;have u:=fun k=>bc_ FB.out.2.1 k;have v:=fun k=>bc_ FB.out.2.2.1 k;have z:=fun k=>bc_ BX.out k)|(go_at_call 35;(with_reducible refine (CP.out _ _ _ (by (with_reducible repeat (first|exact HD.out|refine c1_ ?_ _))) HCD.out).mono ?_);rintro e w11 ⟨v7,rfl,hv7,hb2⟩;have HV7:=am_ (Kd.R_lower hv7 (show w.heap.size≤_ from bz_ (by repeat (with_reducible first|exact FB.out.2.2.2|apply p3_))));have HB:=am_ (bt_ (by repeat (with_reducible first|exact FB.out.2.2.2|apply p3_)) hb2);clear hb2 hv7))
    all_goals ((try simp only [Exit.inBlock,Exit.then]);refine bodyPost_ret (results_tmp4 rfl _ _ _) rfl ?_)
    all_goals exact ⟨_,rfl,(by rw [←hr.out];exact HV7.out),HB.out⟩
   have g1:(x4.toList == [])=false:=by simpa using nk
   have g2:x4.toList.isEmpty=false:=by simpa using nk
   have g4:(x4.toList != [])=true:=by simpa using nk
   obtain ⟨fr,hfr⟩:∃ b,freeB a0_0 a0_1 l0_2 l0_3 a0_4 a0_5 l0_6 l1 a2 a3 x4=b:=⟨_,rfl⟩
   have CF:=am_ (CFg x4 (by assumption))
   rw [hfr] at CF
   have CD:=am_ (CDg hh true)
   have CP:=am_ (CPg (dropL (letsP true) a3 a2 hh l1) (by rw [hDl];omega) ⟨hh,2,a3,a2+a0_4,x4,fr⟩)
   have eb:boundL (freeB a0_0 a0_1 l0_2 l0_3 a0_4 a0_5 l0_6 l1 a2 a3) hh (a2+a0_4) a3 x4=⟨hh,2,a3,a2+a0_4,x4,fr⟩:=by
    unfold boundL
    rw [hfr]
    first|(simp [nk];done)|(simp;done)
   have ed:dropL (fun _=>true) a3 a2 hh l1=dropL (letsP true) a3 a2 hh l1:=rfl
   rw [eb,ed] at hr
   generalize (if mayFree a0_0 a0_1 l0_2 l0_3 a0_4 a0_5 l0_6 l1 x4 then (0:Int) else 1600)=er at CF
   generalize dropL (letsP true) a3 a2 hh l1=D at CD CP hr
   replace hr:=am_ hr
   clear hhh hbh hlive hholds hxn hsz hx5 hDl CDg CFg CPg n4 hq eb ed hfr
   go_wp2_with (first|(go_at_call 29;(with_reducible refine (C5.out _ FB.out.2.2.2).mono ?_);rintro e w5 ⟨rfl,hb2⟩;replace FB:=am_ (pinfoldref11_Claim.B_al (pinfoldref11_Claim.B_st FB.out hb2) (.cells #[.int .i64 x0,.int .i64 2,.string x2,.int .i64 x3,.string x4,.bool x5] 44));have BX:=am_ (blk_new w5 (.cells #[.int .i64 x0,.int .i64 2,.string x2,.int .i64 x3,.string x4,.bool x5] 44));clear hb2 u v;have u:=fun k=>bc_ FB.out.2.1 k;have v:=fun k=>bc_ FB.out.2.2.1 k;have z:=fun k=>bc_ BX.out k)|(go_at_call 30;(with_reducible refine (C6.out _).mono ?_);rintro e w6 ⟨rfl,hb2⟩;replace FB:=am_ (pinfoldref11_Claim.B_st FB.out hb2);replace BX:=am_ (kb_ BX.out hb2);clear hb2 u v z;have u:=fun k=>bc_ FB.out.2.1 k;have v:=fun k=>bc_ FB.out.2.2.1 k;have z:=fun k=>bc_ BX.out k)|(go_at_call 32;(with_reducible refine (C7.out _ FB.out.2.2.2).mono ?_);rintro e w7 ⟨rfl,hb2⟩;replace FB:=am_ (pinfoldref11_Claim.B_st FB.out hb2);replace BX:=am_ (kb_ BX.out hb2);clear hb2 u v z;have u:=fun k=>bc_ FB.out.2.1 k;have v:=fun k=>bc_ FB.out.2.2.1 k;have z:=fun k=>bc_ BX.out k)|(go_at_call 33;(with_reducible refine (C8.out _).mono ?_);rintro e w8 ⟨rfl,hb2⟩;replace FB:=am_ (pinfoldref11_Claim.B_st FB.out hb2);replace BX:=am_ (kb_ BX.out hb2);clear hb2 u v z;have u:=fun k=>bc_ FB.out.2.1 k;have v:=fun k=>bc_ FB.out.2.2.1 k;have z:=fun k=>bc_ BX.out k)|(go_at_call 31;(with_reducible refine (CD.out _ FB.out.2.2.2).mono ?_);rintro e w9 ⟨v,rfl,hv,hb2⟩;obtain ⟨AD,cd,rfl,hcd,hD⟩:=Kd.R_reads hv;have HD:=am_ hD;have HCD:=am_ hcd;replace FB:=am_ (pinfoldref11_Claim.B_st FB.out hb2);replace BX:=am_ (kb_ BX.out hb2);clear hb2 hv hD hcd u v z;have u:=fun k=>bc_ FB.out.2.1 k;have v:=fun k=>bc_ FB.out.2.2.1 k;have z:=fun k=>bc_ BX.out k)|(go_at_call 34;(with_reducible refine (CF.out _ FB.out.2.2.2).mono ?_);rintro e w10 ⟨rfl,hb2⟩;replace HD:=am_ (c4_ HD.out hb2);replace FB:=am_ (pinfoldref11_Claim.B_st FB.out hb2);replace BX:=am_ (kb_ BX.out hb2);clear hb2 u v z;have u:=fun k=>bc_ FB.out.2.1 k;have v:=fun k=>bc_ FB.out.2.2.1 k;have z:=fun k=>bc_ BX.out k)|(go_at_call 35;(with_reducible refine (CP.out _ _ _ (by (with_reducible repeat (first|exact HD.out|refine c1_ ?_ _))) HCD.out).mono ?_);rintro e w11 ⟨v7,rfl,hv7,hb2⟩;have HV7:=am_ (Kd.R_lower hv7 (show w.heap.size≤_ from bz_ (by repeat (with_reducible first|exact FB.out.2.2.2|apply p3_))));have HB:=am_ (bt_ (by repeat (with_reducible first|exact FB.out.2.2.2|apply p3_)) hb2);clear hb2 hv7))
   all_goals ((try simp only [Exit.inBlock,Exit.then]);refine bodyPost_ret (results_tmp4 rfl _ _ _) rfl ?_)
   all_goals exact ⟨_,rfl,(by rw [←hr.out];exact HV7.out),HB.out⟩
  | false =>
   by_cases e2:x2.toList=a3.toList
   rotate_left
   ·rw [if_neg (by rintro ⟨_,h,_⟩;cases h),if_pos ⟨by first|rfl|trivial,by first|rfl|trivial,.inr e2⟩] at h
    obtain ⟨rfl,h5⟩:=Prod.mk.inj h
    obtain ⟨rfl,h6⟩:=Prod.mk.inj h5
    obtain ⟨rfl,rfl⟩:=Prod.mk.inj h6
    clear h6 h5 h
    have f5:(x2.toList == a3.toList)=false:=by simpa using e2
    have f6:(x2.toList != a3.toList)=true:=by simpa using e2
    clear m1 e2
    clear hhh hbh hlive hholds hxn hsz hx5 hDl CDg CFg CPg n4 hq
    go_wp2_with (first|(go_at_call 29;(with_reducible refine (C5.out _ FB.out.2.2.2).mono ?_);rintro e w5 ⟨rfl,hb2⟩;replace FB:=am_ (pinfoldref11_Claim.B_al (pinfoldref11_Claim.B_st FB.out hb2) (.cells #[.int .i64 x0,.int .i64 x1,.string x2,.int .i64 x3,.string x4,.bool x5] 44));have BX:=am_ (blk_new w5 (.cells #[.int .i64 x0,.int .i64 x1,.string x2,.int .i64 x3,.string x4,.bool x5] 44));clear hb2 u v;have u:=fun k=>bc_ FB.out.2.1 k;have v:=fun k=>bc_ FB.out.2.2.1 k;have z:=fun k=>bc_ BX.out k)|(go_at_call 30;(with_reducible refine (C6.out _).mono ?_);rintro e w6 ⟨rfl,hb2⟩;replace FB:=am_ (pinfoldref11_Claim.B_st FB.out hb2);replace BX:=am_ (kb_ BX.out hb2);clear hb2 u v z;have u:=fun k=>bc_ FB.out.2.1 k;have v:=fun k=>bc_ FB.out.2.2.1 k;have z:=fun k=>bc_ BX.out k)|(go_at_call 32;(with_reducible refine (C7.out _ FB.out.2.2.2).mono ?_);rintro e w7 ⟨rfl,hb2⟩;replace FB:=am_ (pinfoldref11_Claim.B_st FB.out hb2);replace BX:=am_ (kb_ BX.out hb2);clear hb2 u v z;have u:=fun k=>bc_ FB.out.2.1 k;have v:=fun k=>bc_ FB.out.2.2.1 k;have z:=fun k=>bc_ BX.out k))
    all_goals ((try simp only [Exit.inBlock,Exit.then]);refine bodyPost_ret (results_tmp4 rfl _ _ _) rfl ?_)
    all_goals exact ⟨_,rfl,FB.out.1,FB.out.2.2.2⟩
   rw [if_neg (by rintro ⟨_,h,_⟩;cases h),if_neg (by rintro ⟨_,_,h|h⟩;cases h;exact h e2)] at h
   obtain ⟨hr,h5⟩:=Prod.mk.inj h
   obtain ⟨rfl,h6⟩:=Prod.mk.inj h5
   obtain ⟨rfl,rfl⟩:=Prod.mk.inj h6
   clear h6 h5 h
   have f5:(x2.toList == a3.toList)=true:=by simpa using e2
   have f6:(x2.toList != a3.toList)=false:=by simpa using e2
   clear m1 e2
   by_cases e1:q4.toList=[]
   rotate_left
   ·rw [if_neg (fun h=>e1 h.1)] at hr
    have nk:=e1
    have f1:(q4.toList == [])=false:=by simpa using e1
    have f2:q4.toList.isEmpty=false:=by simpa using e1
    have f4:(q4.toList != [])=true:=by simpa using e1
    clear e1
    obtain ⟨fr,hfr⟩:∃ b,freeB a0_0 a0_1 l0_2 l0_3 a0_4 a0_5 l0_6 l1 a2 a3 q4=b:=⟨_,rfl⟩
    have CF:=am_ (CFg q4 (by assumption))
    rw [hfr] at CF
    have CD:=am_ (CDg hh true)
    have CP:=am_ (CPg (dropL (letsP true) a3 a2 hh l1) (by rw [hDl];omega) ⟨hh,2,a3,a2+a0_4,q4,fr⟩)
    have eb:boundL (freeB a0_0 a0_1 l0_2 l0_3 a0_4 a0_5 l0_6 l1 a2 a3) hh (a2+a0_4) a3 q4=⟨hh,2,a3,a2+a0_4,q4,fr⟩:=by
     unfold boundL
     rw [hfr]
     first|(simp [nk];done)|(simp;done)
    have ed:dropL (fun _=>true) a3 a2 hh l1=dropL (letsP true) a3 a2 hh l1:=rfl
    rw [eb,ed] at hr
    generalize (if mayFree a0_0 a0_1 l0_2 l0_3 a0_4 a0_5 l0_6 l1 q4 then (0:Int) else 1600)=er at CF
    generalize dropL (letsP true) a3 a2 hh l1=D at CD CP hr
    replace hr:=am_ hr
    clear hhh hbh hlive hholds hxn hsz hx5 hDl CDg CFg CPg n4 hq eb ed hfr
    go_wp2_with (first|(go_at_call 29;(with_reducible refine (C5.out _ FB.out.2.2.2).mono ?_);rintro e w5 ⟨rfl,hb2⟩;replace FB:=am_ (pinfoldref11_Claim.B_al (pinfoldref11_Claim.B_st FB.out hb2) (.cells #[.int .i64 x0,.int .i64 x1,.string x2,.int .i64 x3,.string x4,.bool x5] 44));have BX:=am_ (blk_new w5 (.cells #[.int .i64 x0,.int .i64 x1,.string x2,.int .i64 x3,.string x4,.bool x5] 44));clear hb2 u v;have u:=fun k=>bc_ FB.out.2.1 k;have v:=fun k=>bc_ FB.out.2.2.1 k;have z:=fun k=>bc_ BX.out k)|(go_at_call 30;(with_reducible refine (C6.out _).mono ?_);rintro e w6 ⟨rfl,hb2⟩;replace FB:=am_ (pinfoldref11_Claim.B_st FB.out hb2);replace BX:=am_ (kb_ BX.out hb2);clear hb2 u v z;have u:=fun k=>bc_ FB.out.2.1 k;have v:=fun k=>bc_ FB.out.2.2.1 k;have z:=fun k=>bc_ BX.out k)|(go_at_call 32;(with_reducible refine (C7.out _ FB.out.2.2.2).mono ?_);rintro e w7 ⟨rfl,hb2⟩;replace FB:=am_ (pinfoldref11_Claim.B_st FB.out hb2);replace BX:=am_ (kb_ BX.out hb2);clear hb2 u v z;have u:=fun k=>bc_ FB.out.2.1 k;have v:=fun k=>bc_ FB.out.2.2.1 k;have z:=fun k=>bc_ BX.out k)|(go_at_call 33;(with_reducible refine (C8.out _).mono ?_);rintro e w8 ⟨rfl,hb2⟩;replace FB:=am_ (pinfoldref11_Claim.B_st FB.out hb2);replace BX:=am_ (kb_ BX.out hb2);clear hb2 u v z;have u:=fun k=>bc_ FB.out.2.1 k;have v:=fun k=>bc_ FB.out.2.2.1 k;have z:=fun k=>bc_ BX.out k)|(go_at_call 31;(with_reducible refine (CD.out _ FB.out.2.2.2).mono ?_);rintro e w9 ⟨v,rfl,hv,hb2⟩;obtain ⟨AD,cd,rfl,hcd,hD⟩:=Kd.R_reads hv;have HD:=am_ hD;have HCD:=am_ hcd;replace FB:=am_ (pinfoldref11_Claim.B_st FB.out hb2);replace BX:=am_ (kb_ BX.out hb2);clear hb2 hv hD hcd u v z;have u:=fun k=>bc_ FB.out.2.1 k;have v:=fun k=>bc_ FB.out.2.2.1 k;have z:=fun k=>bc_ BX.out k)|(go_at_call 34;(with_reducible refine (CF.out _ FB.out.2.2.2).mono ?_);rintro e w10 ⟨rfl,hb2⟩;replace HD:=am_ (c4_ HD.out hb2);replace FB:=am_ (pinfoldref11_Claim.B_st FB.out hb2);replace BX:=am_ (kb_ BX.out hb2);clear hb2 u v z;have u:=fun k=>bc_ FB.out.2.1 k;have v:=fun k=>bc_ FB.out.2.2.1 k;have z:=fun k=>bc_ BX.out k)|(go_at_call 35;(with_reducible refine (CP.out _ _ _ (by (with_reducible repeat (first|exact HD.out|refine c1_ ?_ _))) HCD.out).mono ?_);rintro e w11 ⟨v7,rfl,hv7,hb2⟩;have HV7:=am_ (Kd.R_lower hv7 (show w.heap.size≤_ from bz_ (by repeat (with_reducible first|exact FB.out.2.2.2|apply p3_))));have HB:=am_ (bt_ (by repeat (with_reducible first|exact FB.out.2.2.2|apply p3_)) hb2);clear hb2 hv7))
    all_goals ((try simp only [Exit.inBlock,Exit.then]);refine bodyPost_ret (results_tmp4 rfl _ _ _) rfl ?_)
    all_goals exact ⟨_,rfl,(by rw [←hr.out];exact HV7.out),HB.out⟩
   have f1:(q4.toList == [])=true:=by simpa using e1
   have f2:q4.toList.isEmpty=true:=by simpa using e1
   have f4:(q4.toList != [])=false:=by simpa using e1
   by_cases e2:x1=2
   rotate_left
   ·rw [if_neg (fun h=>e2 h.2)] at hr
    have nk:=e1
    have f3:(x1 == 2)=false:=by simpa using e2
    clear e1 e2
    obtain ⟨fr,hfr⟩:∃ b,freeB a0_0 a0_1 l0_2 l0_3 a0_4 a0_5 l0_6 l1 a2 a3 q4=b:=⟨_,rfl⟩
    have CF:=am_ (CFg q4 (by assumption))
    rw [hfr] at CF
    have CD:=am_ (CDg hh true)
    have CP:=am_ (CPg (dropL (letsP true) a3 a2 hh l1) (by rw [hDl];omega) ⟨hh,2,a3,a2+a0_4,q4,false⟩)
    have eb:boundL (freeB a0_0 a0_1 l0_2 l0_3 a0_4 a0_5 l0_6 l1 a2 a3) hh (a2+a0_4) a3 q4=⟨hh,2,a3,a2+a0_4,q4,false⟩:=by
     unfold boundL
     rw [hfr]
     first|(simp [nk];done)|(simp;done)
    have ed:dropL (fun _=>true) a3 a2 hh l1=dropL (letsP true) a3 a2 hh l1:=rfl
    rw [eb,ed] at hr
    generalize (if mayFree a0_0 a0_1 l0_2 l0_3 a0_4 a0_5 l0_6 l1 q4 then (0:Int) else 1600)=er at CF
    generalize dropL (letsP true) a3 a2 hh l1=D at CD CP hr
    replace hr:=am_ hr
    clear hhh hbh hlive hholds hxn hsz hx5 hDl CDg CFg CPg n4 hq eb ed hfr
    go_wp2_with (first|(go_at_call 29;(with_reducible refine (C5.out _ FB.out.2.2.2).mono ?_);rintro e w5 ⟨rfl,hb2⟩;replace FB:=am_ (pinfoldref11_Claim.B_al (pinfoldref11_Claim.B_st FB.out hb2) (.cells #[.int .i64 x0,.int .i64 x1,.string x2,.int .i64 x3,.string x4,.bool x5] 44));have BX:=am_ (blk_new w5 (.cells #[.int .i64 x0,.int .i64 x1,.string x2,.int .i64 x3,.string x4,.bool x5] 44));clear hb2 u v;have u:=fun k=>bc_ FB.out.2.1 k;have v:=fun k=>bc_ FB.out.2.2.1 k;have z:=fun k=>bc_ BX.out k)|(go_at_call 30;(with_reducible refine (C6.out _).mono ?_);rintro e w6 ⟨rfl,hb2⟩;replace FB:=am_ (pinfoldref11_Claim.B_st FB.out hb2);replace BX:=am_ (kb_ BX.out hb2);clear hb2 u v z;have u:=fun k=>bc_ FB.out.2.1 k;have v:=fun k=>bc_ FB.out.2.2.1 k;have z:=fun k=>bc_ BX.out k)|(go_at_call 32;(with_reducible refine (C7.out _ FB.out.2.2.2).mono ?_);rintro e w7 ⟨rfl,hb2⟩;replace FB:=am_ (pinfoldref11_Claim.B_st FB.out hb2);replace BX:=am_ (kb_ BX.out hb2);clear hb2 u v z;have u:=fun k=>bc_ FB.out.2.1 k;have v:=fun k=>bc_ FB.out.2.2.1 k;have z:=fun k=>bc_ BX.out k)|(go_at_call 33;(with_reducible refine (C8.out _).mono ?_);rintro e w8 ⟨rfl,hb2⟩;replace FB:=am_ (pinfoldref11_Claim.B_st FB.out hb2);replace BX:=am_ (kb_ BX.out hb2);clear hb2 u v z;have u:=fun k=>bc_ FB.out.2.1 k;have v:=fun k=>bc_ FB.out.2.2.1 k;have z:=fun k=>bc_ BX.out k)|(go_at_call 31;(with_reducible refine (CD.out _ FB.out.2.2.2).mono ?_);rintro e w9 ⟨v,rfl,hv,hb2⟩;obtain ⟨AD,cd,rfl,hcd,hD⟩:=Kd.R_reads hv;have HD:=am_ hD;have HCD:=am_ hcd;replace FB:=am_ (pinfoldref11_Claim.B_st FB.out hb2);replace BX:=am_ (kb_ BX.out hb2);clear hb2 hv hD hcd u v z;have u:=fun k=>bc_ FB.out.2.1 k;have v:=fun k=>bc_ FB.out.2.2.1 k;have z:=fun k=>bc_ BX.out k)|(go_at_call 34;(with_reducible refine (CF.out _ FB.out.2.2.2).mono ?_);rintro e w10 ⟨rfl,hb2⟩;replace HD:=am_ (c4_ HD.out hb2);replace FB:=am_ (pinfoldref11_Claim.B_st FB.out hb2);replace BX:=am_ (kb_ BX.out hb2);clear hb2 u v z;have u:=fun k=>bc_ FB.out.2.1 k;have v:=fun k=>bc_ FB.out.2.2.1 k;have z:=fun k=>bc_ BX.out k)|(go_at_call 35;(with_reducible refine (CP.out _ _ _ (by (with_reducible repeat (first|exact HD.out|refine c1_ ?_ _))) HCD.out).mono ?_);rintro e w11 ⟨v7,rfl,hv7,hb2⟩;have HV7:=am_ (Kd.R_lower hv7 (show w.heap.size≤_ from bz_ (by repeat (with_reducible first|exact FB.out.2.2.2|apply p3_))));have HB:=am_ (bt_ (by repeat (with_reducible first|exact FB.out.2.2.2|apply p3_)) hb2);clear hb2 hv7))
    all_goals ((try simp only [Exit.inBlock,Exit.then]);refine bodyPost_ret (results_tmp4 rfl _ _ _) rfl ?_)
    all_goals exact ⟨_,rfl,(by rw [←hr.out];exact HV7.out),HB.out⟩
   rw [if_pos ⟨e1,e2⟩] at hr
   subst e2
   clear e1
   by_cases nk:x4.toList=[]
   ·have g1:(x4.toList == [])=true:=by simpa using nk
    have g2:x4.toList.isEmpty=true:=by simpa using nk
    have g4:(x4.toList != [])=false:=by simpa using nk
    obtain ⟨fr,hfr⟩:∃ b,freeB a0_0 a0_1 l0_2 l0_3 a0_4 a0_5 l0_6 l1 a2 a3 x4=b:=⟨_,rfl⟩
    have CF:=am_ (CFg x4 (by assumption))
    rw [hfr] at CF
    have CD:=am_ (CDg hh true)
    have CP:=am_ (CPg (dropL (letsP true) a3 a2 hh l1) (by rw [hDl];omega) ⟨hh,2,a3,a2+a0_4,x4,false⟩)
    have eb:boundL (freeB a0_0 a0_1 l0_2 l0_3 a0_4 a0_5 l0_6 l1 a2 a3) hh (a2+a0_4) a3 x4=⟨hh,2,a3,a2+a0_4,x4,false⟩:=by
     unfold boundL
     rw [hfr]
     first|(simp [nk];done)|(simp;done)
    have ed:dropL (fun _=>true) a3 a2 hh l1=dropL (letsP true) a3 a2 hh l1:=rfl
    rw [eb,ed] at hr
    generalize (if mayFree a0_0 a0_1 l0_2 l0_3 a0_4 a0_5 l0_6 l1 x4 then (0:Int) else 1600)=er at CF
    generalize dropL (letsP true) a3 a2 hh l1=D at CD CP hr
    replace hr:=am_ hr
    clear hhh hbh hlive hholds hxn hsz hx5 hDl CDg CFg CPg n4 hq eb ed hfr
    go_wp2_with (first|(go_at_call 29;(with_reducible refine (C5.out _ FB.out.2.2.2).mono ?_);rintro e w5 ⟨rfl,hb2⟩;replace FB:=am_ (pinfoldref11_Claim.B_al (pinfoldref11_Claim.B_st FB.out hb2) (.cells #[.int .i64 x0,.int .i64 2,.string x2,.int .i64 x3,.string x4,.bool x5] 44));have BX:=am_ (blk_new w5 (.cells #[.int .i64 x0,.int .i64 2,.string x2,.int .i64 x3,.string x4,.bool x5] 44));clear hb2 u v;have u:=fun k=>bc_ FB.out.2.1 k;have v:=fun k=>bc_ FB.out.2.2.1 k;have z:=fun k=>bc_ BX.out k)|(go_at_call 30;(with_reducible refine (C6.out _).mono ?_);rintro e w6 ⟨rfl,hb2⟩;replace FB:=am_ (pinfoldref11_Claim.B_st FB.out hb2);replace BX:=am_ (kb_ BX.out hb2);clear hb2 u v z;have u:=fun k=>bc_ FB.out.2.1 k;have v:=fun k=>bc_ FB.out.2.2.1 k;have z:=fun k=>bc_ BX.out k)|(go_at_call 32;(with_reducible refine (C7.out _ FB.out.2.2.2).mono ?_);rintro e w7 ⟨rfl,hb2⟩;replace FB:=am_ (pinfoldref11_Claim.B_st FB.out hb2);replace BX:=am_ (kb_ BX.out hb2);clear hb2 u v z;have u:=fun k=>bc_ FB.out.2.1 k;have v:=fun k=>bc_ FB.out.2.2.1 k;have z:=fun k=>bc_ BX.out k)|(go_at_call 33;(with_reducible refine (C8.out _).mono ?_);rintro e w8 ⟨rfl,hb2⟩;replace FB:=am_ (pinfoldref11_Claim.B_st FB.out hb2);replace BX:=am_ (kb_ BX.out hb2);clear hb2 u v z;have u:=fun k=>bc_ FB.out.2.1 k;have v:=fun k=>bc_ FB.out.2.2.1 k;have z:=fun k=>bc_ BX.out k)|(go_at_call 31;(with_reducible refine (CD.out _ FB.out.2.2.2).mono ?_);rintro e w9 ⟨v,rfl,hv,hb2⟩;obtain ⟨AD,cd,rfl,hcd,hD⟩:=Kd.R_reads hv;have HD:=am_ hD;have HCD:=am_ hcd;replace FB:=am_ (pinfoldref11_Claim.B_st FB.out hb2);replace BX:=am_ (kb_ BX.out hb2);clear hb2 hv hD hcd u v z;have u:=fun k=>bc_ FB.out.2.1 k;have v:=fun k=>bc_ FB.out.2.2.1 k;have z:=fun k=>bc_ BX.out k)|(go_at_call 34;(with_reducible refine (CF.out _ FB.out.2.2.2).mono ?_);rintro e w10 ⟨rfl,hb2⟩;replace HD:=am_ (c4_ HD.out hb2);replace FB:=am_ (pinfoldref11_Claim.B_st FB.out hb2);replace BX:=am_ (kb_ BX.out hb2);clear hb2 u v z;have u:=fun k=>bc_ FB.out.2.1 k;have v:=fun k=>bc_ FB.out.2.2.1 k;have z:=fun k=>bc_ BX.out k)|(go_at_call 35;(with_reducible refine (CP.out _ _ _ (by (with_reducible repeat (first|exact HD.out|refine c1_ ?_ _))) HCD.out).mono ?_);rintro e w11 ⟨v7,rfl,hv7,hb2⟩;have HV7:=am_ (Kd.R_lower hv7 (show w.heap.size≤_ from bz_ (by repeat (with_reducible first|exact FB.out.2.2.2|apply p3_))));have HB:=am_ (bt_ (by repeat (with_reducible first|exact FB.out.2.2.2|apply p3_)) hb2);clear hb2 hv7))
    all_goals ((try simp only [Exit.inBlock,Exit.then]);refine bodyPost_ret (results_tmp4 rfl _ _ _) rfl ?_)
    all_goals exact ⟨_,rfl,(by rw [←hr.out];exact HV7.out),HB.out⟩
   have g1:(x4.toList == [])=false:=by simpa using nk
   have g2:x4.toList.isEmpty=false:=by simpa using nk
   have g4:(x4.toList != [])=true:=by simpa using nk
   obtain ⟨fr,hfr⟩:∃ b,freeB a0_0 a0_1 l0_2 l0_3 a0_4 a0_5 l0_6 l1 a2 a3 x4=b:=⟨_,rfl⟩
   have CF:=am_ (CFg x4 (by assumption))
   rw [hfr] at CF
   have CD:=am_ (CDg hh true)
   have CP:=am_ (CPg (dropL (letsP true) a3 a2 hh l1) (by rw [hDl];omega) ⟨hh,2,a3,a2+a0_4,x4,fr⟩)
   have eb:boundL (freeB a0_0 a0_1 l0_2 l0_3 a0_4 a0_5 l0_6 l1 a2 a3) hh (a2+a0_4) a3 x4=⟨hh,2,a3,a2+a0_4,x4,fr⟩:=by
    unfold boundL
    rw [hfr]
    first|(simp [nk];done)|(simp;done)
   have ed:dropL (fun _=>true) a3 a2 hh l1=dropL (letsP true) a3 a2 hh l1:=rfl
   rw [eb,ed] at hr
   generalize (if mayFree a0_0 a0_1 l0_2 l0_3 a0_4 a0_5 l0_6 l1 x4 then (0:Int) else 1600)=er at CF
   generalize dropL (letsP true) a3 a2 hh l1=D at CD CP hr
   replace hr:=am_ hr
   clear hhh hbh hlive hholds hxn hsz hx5 hDl CDg CFg CPg n4 hq eb ed hfr
   go_wp2_with (first|(go_at_call 29;(with_reducible refine (C5.out _ FB.out.2.2.2).mono ?_);rintro e w5 ⟨rfl,hb2⟩;replace FB:=am_ (pinfoldref11_Claim.B_al (pinfoldref11_Claim.B_st FB.out hb2) (.cells #[.int .i64 x0,.int .i64 2,.string x2,.int .i64 x3,.string x4,.bool x5] 44));have BX:=am_ (blk_new w5 (.cells #[.int .i64 x0,.int .i64 2,.string x2,.int .i64 x3,.string x4,.bool x5] 44));clear hb2 u v;have u:=fun k=>bc_ FB.out.2.1 k;have v:=fun k=>bc_ FB.out.2.2.1 k;have z:=fun k=>bc_ BX.out k)|(go_at_call 30;(with_reducible refine (C6.out _).mono ?_);rintro e w6 ⟨rfl,hb2⟩;replace FB:=am_ (pinfoldref11_Claim.B_st FB.out hb2);replace BX:=am_ (kb_ BX.out hb2);clear hb2 u v z;have u:=fun k=>bc_ FB.out.2.1 k;have v:=fun k=>bc_ FB.out.2.2.1 k;have z:=fun k=>bc_ BX.out k)|(go_at_call 32;(with_reducible refine (C7.out _ FB.out.2.2.2).mono ?_);rintro e w7 ⟨rfl,hb2⟩;replace FB:=am_ (pinfoldref11_Claim.B_st FB.out hb2);replace BX:=am_ (kb_ BX.out hb2);clear hb2 u v z;have u:=fun k=>bc_ FB.out.2.1 k;have v:=fun k=>bc_ FB.out.2.2.1 k;have z:=fun k=>bc_ BX.out k)|(go_at_call 33;(with_reducible refine (C8.out _).mono ?_);rintro e w8 ⟨rfl,hb2⟩;replace FB:=am_ (pinfoldref11_Claim.B_st FB.out hb2);replace BX:=am_ (kb_ BX.out hb2);clear hb2 u v z;have u:=fun k=>bc_ FB.out.2.1 k;have v:=fun k=>bc_ FB.out.2.2.1 k;have z:=fun k=>bc_ BX.out k)|(go_at_call 31;(with_reducible refine (CD.out _ FB.out.2.2.2).mono ?_);rintro e w9 ⟨v,rfl,hv,hb2⟩;obtain ⟨AD,cd,rfl,hcd,hD⟩:=Kd.R_reads hv;have HD:=am_ hD;have HCD:=am_ hcd;replace FB:=am_ (pinfoldref11_Claim.B_st FB.out hb2);replace BX:=am_ (kb_ BX.out hb2);clear hb2 hv hD hcd u v z;have u:=fun k=>bc_ FB.out.2.1 k;have v:=fun k=>bc_ FB.out.2.2.1 k;have z:=fun k=>bc_ BX.out k)|(go_at_call 34;(with_reducible refine (CF.out _ FB.out.2.2.2).mono ?_);rintro e w10 ⟨rfl,hb2⟩;replace HD:=am_ (c4_ HD.out hb2);replace FB:=am_ (pinfoldref11_Claim.B_st FB.out hb2);replace BX:=am_ (kb_ BX.out hb2);clear hb2 u v z;have u:=fun k=>bc_ FB.out.2.1 k;have v:=fun k=>bc_ FB.out.2.2.1 k;have z:=fun k=>bc_ BX.out k)|(go_at_call 35;(with_reducible refine (CP.out _ _ _ (by (with_reducible repeat (first|exact HD.out|refine c1_ ?_ _))) HCD.out).mono ?_);rintro e w11 ⟨v7,rfl,hv7,hb2⟩;have HV7:=am_ (Kd.R_lower hv7 (show w.heap.size≤_ from bz_ (by repeat (with_reducible first|exact FB.out.2.2.2|apply p3_))));have HB:=am_ (bt_ (by repeat (with_reducible first|exact FB.out.2.2.2|apply p3_)) hb2);clear hb2 hv7))
   all_goals ((try simp only [Exit.inBlock,Exit.then]);refine bodyPost_ret (results_tmp4 rfl _ _ _) rfl ?_)
   all_goals exact ⟨_,rfl,(by rw [←hr.out];exact HV7.out),HB.out⟩
theorem pinfoldref11_Claim.calls (a0_0:Int) (a0_1:Int) (A0_2:Option Addr) (c0_2:Nat) (l0_2:List Int) (A0_3:Option Addr) (c0_3:Nat) (l0_3:List S95) (a0_4:Int) (a0_5:ByteArray) (A0_6:Option Addr) (c0_6:Nat) (l0_6:List S93) (A1:Option Addr) (c1:Nat) (l1:List S44) (a2:Int) (a3:ByteArray) (q0:Bool) (q1 q2 q3:Int) (q4:ByteArray) (r1:List S44) (r2 r3 r4:Int) (w:World) (hr0_2:Kd.C (Kd.int .i64) w A0_2 l0_2.length l0_2) (hc0_2:l0_2.length≤c0_2) (hr0_3:Kd.C k95 w A0_3 l0_3.length l0_3) (hc0_3:l0_3.length≤c0_3) (hr0_6:Kd.C k93 w A0_6 l0_6.length l0_6) (hc0_6:l0_6.length≤c0_6) (hr1:Kd.C k44 w A1 l1.length l1) (hc1:l1.length≤c1) (h:pinfoldref11_Claim.f a0_0 a0_1 l0_2 l0_3 a0_4 a0_5 l0_6 l1 a2 a3 q0 q1 q2 q3 q4=some (r1,r2,r3,r4)) :
  Calls Tryz.prog 7 #[.agg #[.int .i64 a0_0,.int .i64 a0_1,.slice A0_2 l0_2.length c0_2,.slice A0_3 l0_3.length c0_3,.int .i64 a0_4,.string a0_5,.slice A0_6 l0_6.length c0_6],.slice A1 l1.length c1,.int .i64 a2,.string a3,.agg #[.bool q0,.int .i64 q1,.int .i64 q2,.int .i64 q3,.string q4]] w fun e w'=>∃ v0_:Value,e=.returned (.tuple #[v0_,.int .i64 r2,.int .i64 r3,.int .i64 r4])∧Kd.R k44 44 w' w.heap.size (fun _=>True) v0_ r1∧Below w.heap.size w w':=by
 by_cases hyes:askedB a0_0 a0_1 l0_2 l0_3 a0_4 a0_5 l0_6 l1 a2 a3 1099510579200=true∧nameB (bytesOf q4)=true∧0≤q1∧0≤q2∧0≤q3∧(q0=true∨q1=0)
 rotate_left
 ·exact pinfoldref11_Claim.calls_no a0_0 a0_1 A0_2 c0_2 l0_2 A0_3 c0_3 l0_3 a0_4 a0_5 A0_6 c0_6 l0_6 A1 c1 l1 a2 a3 q0 q1 q2 q3 q4 r1 r2 r3 r4 w hr0_2 hc0_2 hr0_3 hc0_3 hr0_6 hc0_6 hr1 hc1 h hyes
 by_cases hq:q0=true
 ·exact pinfoldref11_Claim.calls_1 a0_0 a0_1 A0_2 c0_2 l0_2 A0_3 c0_3 l0_3 a0_4 a0_5 A0_6 c0_6 l0_6 A1 c1 l1 a2 a3 q0 q1 q2 q3 q4 r1 r2 r3 r4 w hr0_2 hc0_2 hr0_3 hc0_3 hr0_6 hc0_6 hr1 hc1 h hyes hq
 have hq0:q0=false:=by simpa using hq
 by_cases e3:q3=0
 ·exact pinfoldref11_Claim.calls_2 a0_0 a0_1 A0_2 c0_2 l0_2 A0_3 c0_3 l0_3 a0_4 a0_5 A0_6 c0_6 l0_6 A1 c1 l1 a2 a3 q0 q1 q2 q3 q4 r1 r2 r3 r4 w hr0_2 hc0_2 hr0_3 hc0_3 hr0_6 hc0_6 hr1 hc1 h hyes ⟨hq0,e3⟩
 ·exact pinfoldref11_Claim.calls_3 a0_0 a0_1 A0_2 c0_2 l0_2 A0_3 c0_3 l0_3 a0_4 a0_5 A0_6 c0_6 l0_6 A1 c1 l1 a2 a3 q0 q1 q2 q3 q4 r1 r2 r3 r4 w hr0_2 hc0_2 hr0_3 hc0_3 hr0_6 hc0_6 hr1 hc1 h hyes ⟨hq0,e3⟩

end Go.Proofs.YtibalpbkmgegnaaGreatDoor.PL
