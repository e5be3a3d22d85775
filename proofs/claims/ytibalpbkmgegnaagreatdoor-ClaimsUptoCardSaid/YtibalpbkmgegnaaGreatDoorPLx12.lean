-- Made by wip/pr.py out of the translation (a turned copy of the kit's print; contracts by hand where said).
import Derived.Test.YtibalpbkmgegnaaGreatDoorPLx0
import Derived.Test.YtibalpbkmgegnaaGreatDoorPLx4
import Derived.Test.YtibalpbkmgegnaaGreatDoorPLx5
import Derived.Test.YtibalpbkmgegnaaGreatDoorPLx8
import Derived.Test.YtibalpbkmgegnaaGreatDoorPLx9
import Derived.Test.YtibalpbkmgegnaaGreatDoorPLx10
import Derived.Test.YtibalpbkmgegnaaGreatDoorPLx11
namespace Go.Proofs.YtibalpbkmgegnaaGreatDoor.PL
open Go.RowKit Go.Proofs.YtibalpbkmgegnaaGreatDoorW.PrintWords Go.Proofs.YtibalpbkmgegnaaGreatDoorW.PrintLast Go.Proofs.YtibalpbkmgegnaaGreatDoorW.PrintMore
-- shrunk
attribute [local go_sem] max2_int min2_int max_two min_two max_three min_three max_four min_four   -- for this text's walks alone
set_option linter.unusedVariables false
set_option linter.unusedSimpArgs false
set_option maxHeartbeats 8000000
set_option maxRecDepth 100000

/-! ### claim_bound: function 25 -/
-- BY HAND
-- 55
def claim_bound.S (gc go:Nat) (a0_0:Int) (a0_1:Int) (A0_2:Option Addr) (c0_2:Nat) (l0_2:List Int) (A0_3:Option Addr) (c0_3:Nat) (l0_3:List S95) (a0_4:Int) (a0_5:ByteArray) (A0_6:Option Addr) (c0_6:Nat) (l0_6:List S93) (K:ByteArray) (w':World):Prop:=w'.cell? ⟨gc,0,none⟩=some (.int .i64 a0_0)∧w'.cell? ⟨gc,1,none⟩=some (.int .i64 a0_1)∧w'.cell? ⟨gc,2,none⟩=some (.slice A0_2 l0_2.length c0_2)∧w'.cell? ⟨gc,3,none⟩=some (.slice A0_3 l0_3.length c0_3)∧w'.cell? ⟨gc,4,none⟩=some (.int .i64 a0_4)∧w'.cell? ⟨gc,5,none⟩=some (.string a0_5)∧w'.cell? ⟨gc,6,none⟩=some (.slice A0_6 l0_6.length c0_6)∧w'.cell? ⟨go,4,none⟩=some (.string K)

theorem claim_bound.S_below {w w2:World} {gc go:Nat} {a0_0:Int} {a0_1:Int} {A0_2:Option Addr} {c0_2:Nat} {l0_2:List Int} {A0_3:Option Addr} {c0_3:Nat} {l0_3:List S95} {a0_4:Int} {a0_5:ByteArray} {A0_6:Option Addr} {c0_6:Nat} {l0_6:List S93} {K:ByteArray} (h:claim_bound.S gc go a0_0 a0_1 A0_2 c0_2 l0_2 A0_3 c0_3 l0_3 a0_4 a0_5 A0_6 c0_6 l0_6 K w) (hb:Below w.heap.size w w2):claim_bound.S gc go a0_0 a0_1 A0_2 c0_2 l0_2 A0_3 c0_3 l0_3 a0_4 a0_5 A0_6 c0_6 l0_6 K w2:=by
 obtain ⟨s0,s1,s2,s3,s4,s5,s6,s7⟩:=h
 exact ⟨(hb.cell (wb_ _ _ s0)).trans s0,(hb.cell (wb_ _ _ s1)).trans s1,(hb.cell (wb_ _ _ s2)).trans s2,(hb.cell (wb_ _ _ s3)).trans s3,(hb.cell (wb_ _ _ s4)).trans s4,(hb.cell (wb_ _ _ s5)).trans s5,(hb.cell (wb_ _ _ s6)).trans s6,(hb.cell (wb_ _ _ s7)).trans s7⟩

theorem claim_bound.calls (gc gq gx:Nat) (a0_0:Int) (a0_1:Int) (A0_2:Option Addr) (c0_2:Nat) (l0_2:List Int) (A0_3:Option Addr) (c0_3:Nat) (l0_3:List S95) (a0_4:Int) (a0_5:ByteArray) (A0_6:Option Addr) (c0_6:Nat) (l0_6:List S93) (A1:Option Addr) (c1:Nat) (l1:List S44) (a2:Int) (a3:ByteArray) (q0:Bool) (q1 q2 q3:Int) (q4:ByteArray) (x0 x1:Int) (x2:ByteArray) (x3:Int) (x4:ByteArray) (x5:Bool) (hto:Int) (w:World) (bc:w.heap[gc]?=some (.cells #[.int .i64 a0_0,.int .i64 a0_1,.slice A0_2 l0_2.length c0_2,.slice A0_3 l0_3.length c0_3,.int .i64 a0_4,.string a0_5,.slice A0_6 l0_6.length c0_6] 26)) (bq:w.heap[gq]?=some (.cells #[.bool q0,.int .i64 q1,.int .i64 q2,.int .i64 q3,.string q4] 29)) (bx:w.heap[gx]?=some (.cells #[.int .i64 x0,.int .i64 x1,.string x2,.int .i64 x3,.string x4,.bool x5] 44)) (hr0_2:Kd.C (Kd.int .i64) w A0_2 l0_2.length l0_2) (hc0_2:l0_2.length≤c0_2) (hr0_3:Kd.C k95 w A0_3 l0_3.length l0_3) (hc0_3:l0_3.length≤c0_3) (hr0_6:Kd.C k93 w A0_6 l0_6.length l0_6) (hc0_6:l0_6.length≤c0_6) (hr1:Kd.C k44 w A1 l1.length l1) (hc1:l1.length≤c1) (hs:freeFit l0_2 l0_3 a0_5 l0_6 l1 (keptN q4 ⟨x0,x1,x2,x3,x4,x5⟩ a3)) (hn:0≤a2∧a2≤1099510579200) (h4:1≤a0_4∧a0_4≤1048576) :
  Calls Tryz.prog 25 #[.pointer (some ⟨gc,0,none⟩),.slice A1 l1.length c1,.int .i64 a2,.string a3,.pointer (some ⟨gq,0,none⟩),.pointer (some ⟨gx,0,none⟩),.int .i64 hto] w fun e w'=>e=.returned (.agg #[.int .i64 hto,.int .i64 2,.string a3,.int .i64 (a2+a0_4),.string (keptN q4 ⟨x0,x1,x2,x3,x4,x5⟩ a3),.bool (freeB a0_0 a0_1 l0_2 l0_3 a0_4 a0_5 l0_6 l1 a2 a3 (keptN q4 ⟨x0,x1,x2,x3,x4,x5⟩ a3) && decide ((keptN q4 ⟨x0,x1,x2,x3,x4,x5⟩ a3).toList≠[]))])∧Below w.heap.size w w':=by
 have hw:IntKind.i64.wrap (a2+a0_4)=a2+a0_4:=(i64_w _).trans (by unfold wrap64;omega)
 obtain ⟨K,hK⟩:∃ K,keptN q4 ⟨x0,x1,x2,x3,x4,x5⟩ a3=K:=⟨_,rfl⟩
 rw [hK] at hs ⊢
 obtain ⟨fr,hfr⟩:∃ b,freeB a0_0 a0_1 l0_2 l0_3 a0_4 a0_5 l0_6 l1 a2 a3 K=b:=⟨_,rfl⟩
 obtain ⟨er,her⟩:∃ b:Int,(if mayFree a0_0 a0_1 l0_2 l0_3 a0_4 a0_5 l0_6 l1 K then 0 else 1600)=b:=⟨_,rfl⟩
 have CF:=am_ (fun W (hb:Below w.heap.size w W)=>regis_Free.calls a0_0 a0_1 A0_2 c0_2 l0_2 A0_3 c0_3 l0_3 a0_4 a0_5 A0_6 c0_6 l0_6 A1 c1 l1 a2 a3 K fr er W (c4_ hr0_2 hb) hc0_2 (c4_ hr0_3 hb) hc0_3 (c4_ hr0_6 hb) hc0_6 (c4_ hr1 hb) hc1 (by unfold regis_Free.f;rw [if_pos hs,hfr,her]))
 rw [hfr]
 obtain ⟨nb,hnb⟩:∃ b,decide (K.toList≠[])=b:=⟨_,rfl⟩
 have k1:(K.toList == [])=!nb:=by rw [←hnb];cases K.toList<;>simp
 have k2:K.toList.isEmpty=!nb:=by rw [←hnb];cases K.toList<;>simp
 have k3:(K.toList != [])=nb:=by rw [←hnb];cases K.toList<;>simp
 rw [hnb]
 obtain ⟨w1,hw1⟩:∃ w1,((w.alloc (.cells #[.int .i64 0,.int .i64 0,.string ⟨#[]⟩,.int .i64 0,.string ⟨#[]⟩,.bool false] 44)).alloc (.cells #[.int .i64 hto,.int .i64 2,.string a3,.int .i64 (a2+a0_4),.string q4,.bool false] 44)).drew=w1:=⟨_,rfl⟩
 have HB:=am_ (show Below w.heap.size w w1 from by rw [←hw1];repeat (first|exact Below.refl _ _|apply p3_|apply p2_))
 have BC:=am_ (show w1.heap[gc]?=some (.cells #[.int .i64 a0_0,.int .i64 a0_1,.slice A0_2 l0_2.length c0_2,.slice A0_3 l0_3.length c0_3,.int .i64 a0_4,.string a0_5,.slice A0_6 l0_6.length c0_6] 26) from by rw [←hw1];exact k3_ (k1_ (k1_ bc _) _))
 have BQ:=am_ (show w1.heap[gq]?=some (.cells #[.bool q0,.int .i64 q1,.int .i64 q2,.int .i64 q3,.string q4] 29) from by rw [←hw1];exact k3_ (k1_ (k1_ bq _) _))
 have BX:=am_ (show w1.heap[gx]?=some (.cells #[.int .i64 x0,.int .i64 x1,.string x2,.int .i64 x3,.string x4,.bool x5] 44) from by rw [←hw1];exact k3_ (k1_ (k1_ bx _) _))
 have BR:=am_ (show w1.heap[w.heap.size]?=some (.cells #[.int .i64 0,.int .i64 0,.string ⟨#[]⟩,.int .i64 0,.string ⟨#[]⟩,.bool false] 44) from by rw [←hw1];exact k3_ (k1_ (blk_new w _) _))
 have BO:=am_ (show w1.heap[w.heap.size+1]?=some (.cells #[.int .i64 hto,.int .i64 2,.string a3,.int .i64 (a2+a0_4),.string q4,.bool false] 44) from by
  rw [←hw1]
  have:=k3_ (blk_new (w.alloc (.cells #[.int .i64 0,.int .i64 0,.string ⟨#[]⟩,.int .i64 0,.string ⟨#[]⟩,.bool false] 44)) (.cells #[.int .i64 hto,.int .i64 2,.string a3,.int .i64 (a2+a0_4),.string q4,.bool false] 44))
  simpa using this)
 have GC:=am_ (blk_lt bc)
 have gg1:=bc_ (k1_ bc (.cells #[.int .i64 0,.int .i64 0,.string ⟨#[]⟩,.int .i64 0,.string ⟨#[]⟩,.bool false] 44)) 4
 have gg2:=bc_ (k1_ (k1_ bc (.cells #[.int .i64 0,.int .i64 0,.string ⟨#[]⟩,.int .i64 0,.string ⟨#[]⟩,.bool false] 44)) (.cells #[.int .i64 0,.int .i64 0,.string ⟨#[]⟩,.int .i64 0,.string ⟨#[]⟩,.bool false] 44)) 4
 have gg3:=bc_ (k1_ bq (.cells #[.int .i64 0,.int .i64 0,.string ⟨#[]⟩,.int .i64 0,.string ⟨#[]⟩,.bool false] 44)) 4
 have gg4:=bc_ (k1_ (k1_ bq (.cells #[.int .i64 0,.int .i64 0,.string ⟨#[]⟩,.int .i64 0,.string ⟨#[]⟩,.bool false] 44)) (.cells #[.int .i64 0,.int .i64 0,.string ⟨#[]⟩,.int .i64 0,.string ⟨#[]⟩,.bool false] 44)) 4
 unfold keptN at hK
 dsimp only at hK
 replace hw1:=am_ hw1
 clear hs hfr her hr0_2 hr0_3 hr0_6 hc0_2 hc0_3 hc0_6 hr1 hc1 bc bq bx h4 hn hnb
 go_enter Tryz.func25,Tryz.ntmps25
 go_wp2_with (fail)
 go_region
 rw [hw1.out]
 clear hw1 gg1 gg2 gg3 gg4
 have u0:=bc_ BC.out 0;have u1:=bc_ BC.out 1;have u2:=bc_ BC.out 2;have u3:=bc_ BC.out 3;have u4:=bc_ BC.out 4;have u5:=bc_ BC.out 5;have u6:=bc_ BC.out 6
 have v0:=bc_ BQ.out 0;have v1:=bc_ BQ.out 1;have v2:=bc_ BQ.out 2;have v3:=bc_ BQ.out 3;have v4:=bc_ BQ.out 4
 have z0:=bc_ BX.out 0;have z1:=bc_ BX.out 1;have z2:=bc_ BX.out 2;have z3:=bc_ BX.out 3;have z4:=bc_ BX.out 4;have z5:=bc_ BX.out 5
 have o0:=bc_ BO.out 0;have o1:=bc_ BO.out 1;have o2:=bc_ BO.out 2;have o3:=bc_ BO.out 3;have o4:=bc_ BO.out 4;have o5:=bc_ BO.out 5;have fo0:=bf_ BO.out 0;have fo1:=bf_ BO.out 1;have fo2:=bf_ BO.out 2;have fo3:=bf_ BO.out 3;have fo4:=bf_ BO.out 4;have fo5:=bf_ BO.out 5
 have r0:=bc_ BR.out 0;have r1:=bc_ BR.out 1;have r2:=bc_ BR.out 2;have r3:=bc_ BR.out 3;have r4:=bc_ BR.out 4;have r5:=bc_ BR.out 5;have fr0:=bf_ BR.out 0;have fr1:=bf_ BR.out 1;have fr2:=bf_ BR.out 2;have fr3:=bf_ BR.out 3;have fr4:=bf_ BR.out 4;have fr5:=bf_ BR.out 5
 by_cases e1:q4.toList=[]
 rotate_left
 ·rw [if_neg (fun h=>e1 h.1)] at hK
  subst hK
  have f1:(q4.toList == [])=false:=by simpa using e1
  have f2:q4.toList.isEmpty=false:=by simpa using e1
  clear e1
  cases nb with
  | false=>rw [f1] at k1;cases k1
  | true =>
  go_wp2_with (fail)
  refine seqS (S:=claim_bound.S gc (w.heap.size+1) a0_0 a0_1 A0_2 c0_2 l0_2 A0_3 c0_3 l0_3 a0_4 a0_5 A0_6 c0_6 l0_6 q4) 14 (by kernel_rfl) rfl rfl (by unfold claim_bound.S;go_simp) ?_
  intro hHeld
  iterate 8 first|(refine seqP (v:=?_) (a':=?_) rfl rfl (by kernel_rfl) (fun _ _ _ h=>h) (Or.inl ⟨by kernel_rfl,?_⟩) ?_ ?_;rotate_left;(intro w';go_simp;with_reducible rfl);rotate_left;(simp only [Act.put,sa_,sb_,sc_,i64_w,i32_w];rfl))|(refine seqL (v:=?_) (a':=?_) rfl rfl (by kernel_rfl) (fun _ _ _ h=>h) (Or.inl ⟨by kernel_rfl,?_⟩) hHeld ?_ ?_;rotate_left;(rintro w' ⟨s0,s1,s2,s3,s4,s5,s6,s7⟩;go_simp;with_reducible rfl);rotate_left;(simp only [Act.put,sa_,sb_,sc_,i64_w,i32_w];rfl))
  refine seqG (fn:=Tryz.f55) rfl rfl (by kernel_rfl) rfl Tryz.func55 (by kernel_rfl) (by kernel_rfl) #[.agg #[.int .i64 a0_0,.int .i64 a0_1,.slice A0_2 l0_2.length c0_2,.slice A0_3 l0_3.length c0_3,.int .i64 a0_4,.string a0_5,.slice A0_6 l0_6.length c0_6],.slice A1 l1.length c1,.int .i64 a2,.string a3,.string q4] (by kernel_rfl) (by (try simp only [List.map_toArray,List.map_cons,List.map_nil]);first|done|rfl) ?_
  with_reducible refine (CF.out _ (by repeat (with_reducible first|exact HB.out|apply p3_|apply p1_|apply p2_))).mono ?_
  rintro e wg ⟨rfl,hb2⟩
  replace BR:=am_ (kb_ (k3_ BR.out) hb2)
  replace BO:=am_ (kb_ (k3_ BO.out) hb2)
  replace HB:=am_ (bt_ (p2_ HB.out) hb2)
  clear u0 u1 u2 u3 u4 u5 u6 v0 v1 v2 v3 v4 z0 r0 fr0 o0 fo0 z1 r1 fr1 o1 fo1 z2 r2 fr2 o2 fo2 z3 r3 fr3 o3 fo3 z4 r4 fr4 o4 fo4 z5 r5 fr5 o5 fo5
  refine ⟨_,rfl,(claim_bound.S_below hHeld hb2),fun hHeld=>⟨?_,?_,?_⟩⟩
  rotate_left
  ·simp only [Act.put,sa_,sb_,sc_,i64_w,i32_w]
   rfl
  iterate 5 first|(refine seqP (v:=?_) (a':=?_) rfl rfl (by kernel_rfl) (fun _ _ _ h=>h) (Or.inl ⟨by kernel_rfl,?_⟩) ?_ ?_;rotate_left;(intro w';go_simp;with_reducible rfl);rotate_left;(simp only [Act.put,sa_,sb_,sc_,i64_w,i32_w];rfl))|(refine seqL (v:=?_) (a':=?_) rfl rfl (by kernel_rfl) (fun _ _ _ h=>h) (Or.inl ⟨by kernel_rfl,?_⟩) hHeld ?_ ?_;rotate_left;(rintro w' ⟨s0,s1,s2,s3,s4,s5,s6,s7⟩;go_simp;with_reducible rfl);rotate_left;(simp only [Act.put,sa_,sb_,sc_,i64_w,i32_w];rfl))
  refine seqE (by kernel_rfl) ?_
  clear hHeld CF
  have o0:=bc_ BO.out 0
  have o1:=bc_ BO.out 1
  have o2:=bc_ BO.out 2
  have o3:=bc_ BO.out 3
  have o4:=bc_ BO.out 4
  have o5:=bc_ BO.out 5
  have fo0:=bf_ BO.out 0
  have fo1:=bf_ BO.out 1
  have fo2:=bf_ BO.out 2
  have fo3:=bf_ BO.out 3
  have fo4:=bf_ BO.out 4
  have fo5:=bf_ BO.out 5
  have r0:=bc_ BR.out 0
  have r1:=bc_ BR.out 1
  have r2:=bc_ BR.out 2
  have r3:=bc_ BR.out 3
  have r4:=bc_ BR.out 4
  have r5:=bc_ BR.out 5
  have fr0:=bf_ BR.out 0
  have fr1:=bf_ BR.out 1
  have fr2:=bf_ BR.out 2
  have fr3:=bf_ BR.out 3
  have fr4:=bf_ BR.out 4
  have fr5:=bf_ BR.out 5
  cases fr with
  | false =>
   go_wp2
   have SZ:=am_ (Nat.le_refl w.heap.size)
   refine bodyPost_ret (results_cell_row rfl _ _ w.heap.size 44 #[.int .i64 hto,.int .i64 2,.string a3,.int .i64 (a2+a0_4),.string q4,.bool false] (0,0) _ rfl (by refine blk_put (cs:=#[.int .i64 hto,.int .i64 2,.string a3,.int .i64 (a2+a0_4),.string q4,.bool false]) ?_ 5 _ rfl;refine blk_put (cs:=#[.int .i64 hto,.int .i64 2,.string a3,.int .i64 (a2+a0_4),.string (⟨#[]⟩:ByteArray),.bool false]) ?_ 4 _ rfl;refine blk_put (cs:=#[.int .i64 hto,.int .i64 2,.string a3,.int .i64 0,.string (⟨#[]⟩:ByteArray),.bool false]) ?_ 3 _ rfl;refine blk_put (cs:=#[.int .i64 hto,.int .i64 2,.string (⟨#[]⟩:ByteArray),.int .i64 0,.string (⟨#[]⟩:ByteArray),.bool false]) ?_ 2 _ rfl;refine blk_put (cs:=#[.int .i64 hto,.int .i64 0,.string (⟨#[]⟩:ByteArray),.int .i64 0,.string (⟨#[]⟩:ByteArray),.bool false]) ?_ 1 _ rfl;refine blk_put (cs:=#[.int .i64 0,.int .i64 0,.string (⟨#[]⟩:ByteArray),.int .i64 0,.string (⟨#[]⟩:ByteArray),.bool false]) ?_ 0 _ rfl;exact blk_far BR.out (by show w.heap.size≠w.heap.size+1;omega) _) Tryz.underlying44 rfl (by kernel_rfl)) rfl ?_
   exact ⟨rfl,by repeat (with_reducible first|exact HB.out|refine bs_ ?_ (by first|exact SZ.out|exact Nat.le_succ_of_le SZ.out))⟩
  | true =>
   go_wp2
   have SZ:=am_ (Nat.le_refl w.heap.size)
   refine bodyPost_ret (results_cell_row rfl _ _ w.heap.size 44 #[.int .i64 hto,.int .i64 2,.string a3,.int .i64 (a2+a0_4),.string q4,.bool true] (0,0) _ rfl (by refine blk_put (cs:=#[.int .i64 hto,.int .i64 2,.string a3,.int .i64 (a2+a0_4),.string q4,.bool false]) ?_ 5 _ rfl;refine blk_put (cs:=#[.int .i64 hto,.int .i64 2,.string a3,.int .i64 (a2+a0_4),.string (⟨#[]⟩:ByteArray),.bool false]) ?_ 4 _ rfl;refine blk_put (cs:=#[.int .i64 hto,.int .i64 2,.string a3,.int .i64 0,.string (⟨#[]⟩:ByteArray),.bool false]) ?_ 3 _ rfl;refine blk_put (cs:=#[.int .i64 hto,.int .i64 2,.string (⟨#[]⟩:ByteArray),.int .i64 0,.string (⟨#[]⟩:ByteArray),.bool false]) ?_ 2 _ rfl;refine blk_put (cs:=#[.int .i64 hto,.int .i64 0,.string (⟨#[]⟩:ByteArray),.int .i64 0,.string (⟨#[]⟩:ByteArray),.bool false]) ?_ 1 _ rfl;refine blk_put (cs:=#[.int .i64 0,.int .i64 0,.string (⟨#[]⟩:ByteArray),.int .i64 0,.string (⟨#[]⟩:ByteArray),.bool false]) ?_ 0 _ rfl;exact blk_far BR.out (by show w.heap.size≠w.heap.size+1;omega) _) Tryz.underlying44 rfl (by kernel_rfl)) rfl ?_
   exact ⟨rfl,by repeat (with_reducible first|exact HB.out|refine bs_ ?_ (by first|exact SZ.out|exact Nat.le_succ_of_le SZ.out))⟩
 by_cases e2:x1=2
 rotate_left
 ·rw [if_neg (fun h=>e2 h.2.1)] at hK
  subst hK
  have f1:(q4.toList == [])=true:=by simpa using e1
  have f2:q4.toList.isEmpty=true:=by simpa using e1
  have f3:(x1 == 2)=false:=by simpa using e2
  clear e1 e2
  cases nb with
  | true=>rw [f1] at k1;cases k1
  | false =>
  go_wp2_with (fail)
  refine seqS (S:=claim_bound.S gc (w.heap.size+1) a0_0 a0_1 A0_2 c0_2 l0_2 A0_3 c0_3 l0_3 a0_4 a0_5 A0_6 c0_6 l0_6 q4) 14 (by kernel_rfl) rfl rfl (by unfold claim_bound.S;go_simp) ?_
  intro hHeld
  iterate 8 first|(refine seqP (v:=?_) (a':=?_) rfl rfl (by kernel_rfl) (fun _ _ _ h=>h) (Or.inl ⟨by kernel_rfl,?_⟩) ?_ ?_;rotate_left;(intro w';go_simp;with_reducible rfl);rotate_left;(simp only [Act.put,sa_,sb_,sc_,i64_w,i32_w];rfl))|(refine seqL (v:=?_) (a':=?_) rfl rfl (by kernel_rfl) (fun _ _ _ h=>h) (Or.inl ⟨by kernel_rfl,?_⟩) hHeld ?_ ?_;rotate_left;(rintro w' ⟨s0,s1,s2,s3,s4,s5,s6,s7⟩;go_simp;with_reducible rfl);rotate_left;(simp only [Act.put,sa_,sb_,sc_,i64_w,i32_w];rfl))
  refine seqG (fn:=Tryz.f55) rfl rfl (by kernel_rfl) rfl Tryz.func55 (by kernel_rfl) (by kernel_rfl) #[.agg #[.int .i64 a0_0,.int .i64 a0_1,.slice A0_2 l0_2.length c0_2,.slice A0_3 l0_3.length c0_3,.int .i64 a0_4,.string a0_5,.slice A0_6 l0_6.length c0_6],.slice A1 l1.length c1,.int .i64 a2,.string a3,.string q4] (by kernel_rfl) (by (try simp only [List.map_toArray,List.map_cons,List.map_nil]);first|done|rfl) ?_
  with_reducible refine (CF.out _ (by repeat (with_reducible first|exact HB.out|apply p3_|apply p1_|apply p2_))).mono ?_
  rintro e wg ⟨rfl,hb2⟩
  replace BR:=am_ (kb_ (k3_ BR.out) hb2)
  replace BO:=am_ (kb_ (k3_ BO.out) hb2)
  replace HB:=am_ (bt_ (p2_ HB.out) hb2)
  clear u0 u1 u2 u3 u4 u5 u6 v0 v1 v2 v3 v4 z0 r0 fr0 o0 fo0 z1 r1 fr1 o1 fo1 z2 r2 fr2 o2 fo2 z3 r3 fr3 o3 fo3 z4 r4 fr4 o4 fo4 z5 r5 fr5 o5 fo5
  refine ⟨_,rfl,(claim_bound.S_below hHeld hb2),fun hHeld=>⟨?_,?_,?_⟩⟩
  rotate_left
  ·simp only [Act.put,sa_,sb_,sc_,i64_w,i32_w]
   rfl
  iterate 5 first|(refine seqP (v:=?_) (a':=?_) rfl rfl (by kernel_rfl) (fun _ _ _ h=>h) (Or.inl ⟨by kernel_rfl,?_⟩) ?_ ?_;rotate_left;(intro w';go_simp;with_reducible rfl);rotate_left;(simp only [Act.put,sa_,sb_,sc_,i64_w,i32_w];rfl))|(refine seqL (v:=?_) (a':=?_) rfl rfl (by kernel_rfl) (fun _ _ _ h=>h) (Or.inl ⟨by kernel_rfl,?_⟩) hHeld ?_ ?_;rotate_left;(rintro w' ⟨s0,s1,s2,s3,s4,s5,s6,s7⟩;go_simp;with_reducible rfl);rotate_left;(simp only [Act.put,sa_,sb_,sc_,i64_w,i32_w];rfl))
  refine seqE (by kernel_rfl) ?_
  clear hHeld CF
  have o0:=bc_ BO.out 0
  have o1:=bc_ BO.out 1
  have o2:=bc_ BO.out 2
  have o3:=bc_ BO.out 3
  have o4:=bc_ BO.out 4
  have o5:=bc_ BO.out 5
  have fo0:=bf_ BO.out 0
  have fo1:=bf_ BO.out 1
  have fo2:=bf_ BO.out 2
  have fo3:=bf_ BO.out 3
  have fo4:=bf_ BO.out 4
  have fo5:=bf_ BO.out 5
  have r0:=bc_ BR.out 0
  have r1:=bc_ BR.out 1
  have r2:=bc_ BR.out 2
  have r3:=bc_ BR.out 3
  have r4:=bc_ BR.out 4
  have r5:=bc_ BR.out 5
  have fr0:=bf_ BR.out 0
  have fr1:=bf_ BR.out 1
  have fr2:=bf_ BR.out 2
  have fr3:=bf_ BR.out 3
  have fr4:=bf_ BR.out 4
  have fr5:=bf_ BR.out 5
  cases fr with
  | false =>
   go_wp2
   have SZ:=am_ (Nat.le_refl w.heap.size)
   refine bodyPost_ret (results_cell_row rfl _ _ w.heap.size 44 #[.int .i64 hto,.int .i64 2,.string a3,.int .i64 (a2+a0_4),.string q4,.bool false] (0,0) _ rfl (by refine blk_put (cs:=#[.int .i64 hto,.int .i64 2,.string a3,.int .i64 (a2+a0_4),.string q4,.bool false]) ?_ 5 _ rfl;refine blk_put (cs:=#[.int .i64 hto,.int .i64 2,.string a3,.int .i64 (a2+a0_4),.string (⟨#[]⟩:ByteArray),.bool false]) ?_ 4 _ rfl;refine blk_put (cs:=#[.int .i64 hto,.int .i64 2,.string a3,.int .i64 0,.string (⟨#[]⟩:ByteArray),.bool false]) ?_ 3 _ rfl;refine blk_put (cs:=#[.int .i64 hto,.int .i64 2,.string (⟨#[]⟩:ByteArray),.int .i64 0,.string (⟨#[]⟩:ByteArray),.bool false]) ?_ 2 _ rfl;refine blk_put (cs:=#[.int .i64 hto,.int .i64 0,.string (⟨#[]⟩:ByteArray),.int .i64 0,.string (⟨#[]⟩:ByteArray),.bool false]) ?_ 1 _ rfl;refine blk_put (cs:=#[.int .i64 0,.int .i64 0,.string (⟨#[]⟩:ByteArray),.int .i64 0,.string (⟨#[]⟩:ByteArray),.bool false]) ?_ 0 _ rfl;exact blk_far BR.out (by show w.heap.size≠w.heap.size+1;omega) _) Tryz.underlying44 rfl (by kernel_rfl)) rfl ?_
   exact ⟨rfl,by repeat (with_reducible first|exact HB.out|refine bs_ ?_ (by first|exact SZ.out|exact Nat.le_succ_of_le SZ.out))⟩
  | true =>
   go_wp2
   have SZ:=am_ (Nat.le_refl w.heap.size)
   refine bodyPost_ret (results_cell_row rfl _ _ w.heap.size 44 #[.int .i64 hto,.int .i64 2,.string a3,.int .i64 (a2+a0_4),.string q4,.bool false] (0,0) _ rfl (by refine blk_put (cs:=#[.int .i64 hto,.int .i64 2,.string a3,.int .i64 (a2+a0_4),.string q4,.bool false]) ?_ 5 _ rfl;refine blk_put (cs:=#[.int .i64 hto,.int .i64 2,.string a3,.int .i64 (a2+a0_4),.string (⟨#[]⟩:ByteArray),.bool false]) ?_ 4 _ rfl;refine blk_put (cs:=#[.int .i64 hto,.int .i64 2,.string a3,.int .i64 0,.string (⟨#[]⟩:ByteArray),.bool false]) ?_ 3 _ rfl;refine blk_put (cs:=#[.int .i64 hto,.int .i64 2,.string (⟨#[]⟩:ByteArray),.int .i64 0,.string (⟨#[]⟩:ByteArray),.bool false]) ?_ 2 _ rfl;refine blk_put (cs:=#[.int .i64 hto,.int .i64 0,.string (⟨#[]⟩:ByteArray),.int .i64 0,.string (⟨#[]⟩:ByteArray),.bool false]) ?_ 1 _ rfl;refine blk_put (cs:=#[.int .i64 0,.int .i64 0,.string (⟨#[]⟩:ByteArray),.int .i64 0,.string (⟨#[]⟩:ByteArray),.bool false]) ?_ 0 _ rfl;exact blk_far BR.out (by show w.heap.size≠w.heap.size+1;omega) _) Tryz.underlying44 rfl (by kernel_rfl)) rfl ?_
   exact ⟨rfl,by repeat (with_reducible first|exact HB.out|refine bs_ ?_ (by first|exact SZ.out|exact Nat.le_succ_of_le SZ.out))⟩
 subst e2
 by_cases e3:x2.toList=a3.toList
 rotate_left
 ·rw [if_neg (fun h=>e3 h.2.2)] at hK
  subst hK
  have f1:(q4.toList == [])=true:=by simpa using e1
  have f2:q4.toList.isEmpty=true:=by simpa using e1
  have f3:(x2.toList == a3.toList)=false:=by simpa using e3
  clear e1 e3
  cases nb with
  | true=>rw [f1] at k1;cases k1
  | false =>
  go_wp2_with (fail)
  refine seqS (S:=claim_bound.S gc (w.heap.size+1) a0_0 a0_1 A0_2 c0_2 l0_2 A0_3 c0_3 l0_3 a0_4 a0_5 A0_6 c0_6 l0_6 q4) 14 (by kernel_rfl) rfl rfl (by unfold claim_bound.S;go_simp) ?_
  intro hHeld
  iterate 8 first|(refine seqP (v:=?_) (a':=?_) rfl rfl (by kernel_rfl) (fun _ _ _ h=>h) (Or.inl ⟨by kernel_rfl,?_⟩) ?_ ?_;rotate_left;(intro w';go_simp;with_reducible rfl);rotate_left;(simp only [Act.put,sa_,sb_,sc_,i64_w,i32_w];rfl))|(refine seqL (v:=?_) (a':=?_) rfl rfl (by kernel_rfl) (fun _ _ _ h=>h) (Or.inl ⟨by kernel_rfl,?_⟩) hHeld ?_ ?_;rotate_left;(rintro w' ⟨s0,s1,s2,s3,s4,s5,s6,s7⟩;go_simp;with_reducible rfl);rotate_left;(simp only [Act.put,sa_,sb_,sc_,i64_w,i32_w];rfl))
  refine seqG (fn:=Tryz.f55) rfl rfl (by kernel_rfl) rfl Tryz.func55 (by kernel_rfl) (by kernel_rfl) #[.agg #[.int .i64 a0_0,.int .i64 a0_1,.slice A0_2 l0_2.length c0_2,.slice A0_3 l0_3.length c0_3,.int .i64 a0_4,.string a0_5,.slice A0_6 l0_6.length c0_6],.slice A1 l1.length c1,.int .i64 a2,.string a3,.string q4] (by kernel_rfl) (by (try simp only [List.map_toArray,List.map_cons,List.map_nil]);first|done|rfl) ?_
  with_reducible refine (CF.out _ (by repeat (with_reducible first|exact HB.out|apply p3_|apply p1_|apply p2_))).mono ?_
  rintro e wg ⟨rfl,hb2⟩
  replace BR:=am_ (kb_ (k3_ BR.out) hb2)
  replace BO:=am_ (kb_ (k3_ BO.out) hb2)
  replace HB:=am_ (bt_ (p2_ HB.out) hb2)
  clear u0 u1 u2 u3 u4 u5 u6 v0 v1 v2 v3 v4 z0 r0 fr0 o0 fo0 z1 r1 fr1 o1 fo1 z2 r2 fr2 o2 fo2 z3 r3 fr3 o3 fo3 z4 r4 fr4 o4 fo4 z5 r5 fr5 o5 fo5
  refine ⟨_,rfl,(claim_bound.S_below hHeld hb2),fun hHeld=>⟨?_,?_,?_⟩⟩
  rotate_left
  ·simp only [Act.put,sa_,sb_,sc_,i64_w,i32_w]
   rfl
  iterate 5 first|(refine seqP (v:=?_) (a':=?_) rfl rfl (by kernel_rfl) (fun _ _ _ h=>h) (Or.inl ⟨by kernel_rfl,?_⟩) ?_ ?_;rotate_left;(intro w';go_simp;with_reducible rfl);rotate_left;(simp only [Act.put,sa_,sb_,sc_,i64_w,i32_w];rfl))|(refine seqL (v:=?_) (a':=?_) rfl rfl (by kernel_rfl) (fun _ _ _ h=>h) (Or.inl ⟨by kernel_rfl,?_⟩) hHeld ?_ ?_;rotate_left;(rintro w' ⟨s0,s1,s2,s3,s4,s5,s6,s7⟩;go_simp;with_reducible rfl);rotate_left;(simp only [Act.put,sa_,sb_,sc_,i64_w,i32_w];rfl))
  refine seqE (by kernel_rfl) ?_
  clear hHeld CF
  have o0:=bc_ BO.out 0
  have o1:=bc_ BO.out 1
  have o2:=bc_ BO.out 2
  have o3:=bc_ BO.out 3
  have o4:=bc_ BO.out 4
  have o5:=bc_ BO.out 5
  have fo0:=bf_ BO.out 0
  have fo1:=bf_ BO.out 1
  have fo2:=bf_ BO.out 2
  have fo3:=bf_ BO.out 3
  have fo4:=bf_ BO.out 4
  have fo5:=bf_ BO.out 5
  have r0:=bc_ BR.out 0
  have r1:=bc_ BR.out 1
  have r2:=bc_ BR.out 2
  have r3:=bc_ BR.out 3
  have r4:=bc_ BR.out 4
  have r5:=bc_ BR.out 5
  have fr0:=bf_ BR.out 0
  have fr1:=bf_ BR.out 1
  have fr2:=bf_ BR.out 2
  have fr3:=bf_ BR.out 3
  have fr4:=bf_ BR.out 4
  have fr5:=bf_ BR.out 5
  cases fr with
  | false =>
   go_wp2
   have SZ:=am_ (Nat.le_refl w.heap.size)
   refine bodyPost_ret (results_cell_row rfl _ _ w.heap.size 44 #[.int .i64 hto,.int .i64 2,.string a3,.int .i64 (a2+a0_4),.string q4,.bool false] (0,0) _ rfl (by refine blk_put (cs:=#[.int .i64 hto,.int .i64 2,.string a3,.int .i64 (a2+a0_4),.string q4,.bool false]) ?_ 5 _ rfl;refine blk_put (cs:=#[.int .i64 hto,.int .i64 2,.string a3,.int .i64 (a2+a0_4),.string (⟨#[]⟩:ByteArray),.bool false]) ?_ 4 _ rfl;refine blk_put (cs:=#[.int .i64 hto,.int .i64 2,.string a3,.int .i64 0,.string (⟨#[]⟩:ByteArray),.bool false]) ?_ 3 _ rfl;refine blk_put (cs:=#[.int .i64 hto,.int .i64 2,.string (⟨#[]⟩:ByteArray),.int .i64 0,.string (⟨#[]⟩:ByteArray),.bool false]) ?_ 2 _ rfl;refine blk_put (cs:=#[.int .i64 hto,.int .i64 0,.string (⟨#[]⟩:ByteArray),.int .i64 0,.string (⟨#[]⟩:ByteArray),.bool false]) ?_ 1 _ rfl;refine blk_put (cs:=#[.int .i64 0,.int .i64 0,.string (⟨#[]⟩:ByteArray),.int .i64 0,.string (⟨#[]⟩:ByteArray),.bool false]) ?_ 0 _ rfl;exact blk_far BR.out (by show w.heap.size≠w.heap.size+1;omega) _) Tryz.underlying44 rfl (by kernel_rfl)) rfl ?_
   exact ⟨rfl,by repeat (with_reducible first|exact HB.out|refine bs_ ?_ (by first|exact SZ.out|exact Nat.le_succ_of_le SZ.out))⟩
  | true =>
   go_wp2
   have SZ:=am_ (Nat.le_refl w.heap.size)
   refine bodyPost_ret (results_cell_row rfl _ _ w.heap.size 44 #[.int .i64 hto,.int .i64 2,.string a3,.int .i64 (a2+a0_4),.string q4,.bool false] (0,0) _ rfl (by refine blk_put (cs:=#[.int .i64 hto,.int .i64 2,.string a3,.int .i64 (a2+a0_4),.string q4,.bool false]) ?_ 5 _ rfl;refine blk_put (cs:=#[.int .i64 hto,.int .i64 2,.string a3,.int .i64 (a2+a0_4),.string (⟨#[]⟩:ByteArray),.bool false]) ?_ 4 _ rfl;refine blk_put (cs:=#[.int .i64 hto,.int .i64 2,.string a3,.int .i64 0,.string (⟨#[]⟩:ByteArray),.bool false]) ?_ 3 _ rfl;refine blk_put (cs:=#[.int .i64 hto,.int .i64 2,.string (⟨#[]⟩:ByteArray),.int .i64 0,.string (⟨#[]⟩:ByteArray),.bool false]) ?_ 2 _ rfl;refine blk_put (cs:=#[.int .i64 hto,.int .i64 0,.string (⟨#[]⟩:ByteArray),.int .i64 0,.string (⟨#[]⟩:ByteArray),.bool false]) ?_ 1 _ rfl;refine blk_put (cs:=#[.int .i64 0,.int .i64 0,.string (⟨#[]⟩:ByteArray),.int .i64 0,.string (⟨#[]⟩:ByteArray),.bool false]) ?_ 0 _ rfl;exact blk_far BR.out (by show w.heap.size≠w.heap.size+1;omega) _) Tryz.underlying44 rfl (by kernel_rfl)) rfl ?_
   exact ⟨rfl,by repeat (with_reducible first|exact HB.out|refine bs_ ?_ (by first|exact SZ.out|exact Nat.le_succ_of_le SZ.out))⟩
 rw [if_pos ⟨e1,rfl,e3⟩] at hK
 subst hK
 have f1:(q4.toList == [])=true:=by simpa using e1
 have f2:q4.toList.isEmpty=true:=by simpa using e1
 have f3:(x2.toList == a3.toList)=true:=by simpa using e3
 clear e1 e3
 obtain ⟨w2,hw2⟩:∃ w2,w1.setCell ⟨w.heap.size+1,4,none⟩ (.string x4)=w2:=⟨_,rfl⟩
 have HB2:=am_ (show Below w.heap.size w w2 from by rw [←hw2];exact bs_ HB.out (Nat.le_succ _))
 have BC2:=am_ (show w2.heap[gc]?=some (.cells #[.int .i64 a0_0,.int .i64 a0_1,.slice A0_2 l0_2.length c0_2,.slice A0_3 l0_3.length c0_3,.int .i64 a0_4,.string a0_5,.slice A0_6 l0_6.length c0_6] 26) from by rw [←hw2];exact blk_far BC.out (by have:=GC.out;show gc≠w.heap.size+1;omega) _)
 have BR2:=am_ (show w2.heap[w.heap.size]?=some (.cells #[.int .i64 0,.int .i64 0,.string ⟨#[]⟩,.int .i64 0,.string ⟨#[]⟩,.bool false] 44) from by rw [←hw2];exact blk_far BR.out (by show w.heap.size≠w.heap.size+1;omega) _)
 have BO2:=am_ (show w2.heap[w.heap.size+1]?=some (.cells #[.int .i64 hto,.int .i64 2,.string a3,.int .i64 (a2+a0_4),.string x4,.bool false] 44) from by rw [←hw2];exact blk_put (cs:=#[.int .i64 hto,.int .i64 2,.string a3,.int .i64 (a2+a0_4),.string q4,.bool false]) BO.out 4 _ rfl)
 replace hw2:=am_ hw2
 go_wp2_with (fail)
 rw [hw2.out]
 clear hw2 HB BC BR BO
 clear u0 u1 u2 u3 u4 u5 u6 v0 v1 v2 v3 v4 z0 r0 fr0 o0 fo0 z1 r1 fr1 o1 fo1 z2 r2 fr2 o2 fo2 z3 r3 fr3 o3 fo3 z4 r4 fr4 o4 fo4 z5 r5 fr5 o5 fo5
 have HB:=HB2
 have BC:=BC2
 have BR:=BR2
 have BO:=BO2
 clear HB2 BC2 BR2 BO2
 have u0:=bc_ BC.out 0;have u1:=bc_ BC.out 1;have u2:=bc_ BC.out 2;have u3:=bc_ BC.out 3;have u4:=bc_ BC.out 4;have u5:=bc_ BC.out 5;have u6:=bc_ BC.out 6
 have o0:=bc_ BO.out 0;have o1:=bc_ BO.out 1;have o2:=bc_ BO.out 2;have o3:=bc_ BO.out 3;have o4:=bc_ BO.out 4;have o5:=bc_ BO.out 5;have fo0:=bf_ BO.out 0;have fo1:=bf_ BO.out 1;have fo2:=bf_ BO.out 2;have fo3:=bf_ BO.out 3;have fo4:=bf_ BO.out 4;have fo5:=bf_ BO.out 5
 have r0:=bc_ BR.out 0;have r1:=bc_ BR.out 1;have r2:=bc_ BR.out 2;have r3:=bc_ BR.out 3;have r4:=bc_ BR.out 4;have r5:=bc_ BR.out 5;have fr0:=bf_ BR.out 0;have fr1:=bf_ BR.out 1;have fr2:=bf_ BR.out 2;have fr3:=bf_ BR.out 3;have fr4:=bf_ BR.out 4;have fr5:=bf_ BR.out 5
 cases nb with
 | true =>
  refine seqS (S:=claim_bound.S gc (w.heap.size+1) a0_0 a0_1 A0_2 c0_2 l0_2 A0_3 c0_3 l0_3 a0_4 a0_5 A0_6 c0_6 l0_6 x4) 14 (by kernel_rfl) rfl rfl (by unfold claim_bound.S;go_simp) ?_
  intro hHeld
  iterate 8 first|(refine seqP (v:=?_) (a':=?_) rfl rfl (by kernel_rfl) (fun _ _ _ h=>h) (Or.inl ⟨by kernel_rfl,?_⟩) ?_ ?_;rotate_left;(intro w';go_simp;with_reducible rfl);rotate_left;(simp only [Act.put,sa_,sb_,sc_,i64_w,i32_w];rfl))|(refine seqL (v:=?_) (a':=?_) rfl rfl (by kernel_rfl) (fun _ _ _ h=>h) (Or.inl ⟨by kernel_rfl,?_⟩) hHeld ?_ ?_;rotate_left;(rintro w' ⟨s0,s1,s2,s3,s4,s5,s6,s7⟩;go_simp;with_reducible rfl);rotate_left;(simp only [Act.put,sa_,sb_,sc_,i64_w,i32_w];rfl))
  refine seqG (fn:=Tryz.f55) rfl rfl (by kernel_rfl) rfl Tryz.func55 (by kernel_rfl) (by kernel_rfl) #[.agg #[.int .i64 a0_0,.int .i64 a0_1,.slice A0_2 l0_2.length c0_2,.slice A0_3 l0_3.length c0_3,.int .i64 a0_4,.string a0_5,.slice A0_6 l0_6.length c0_6],.slice A1 l1.length c1,.int .i64 a2,.string a3,.string x4] (by kernel_rfl) (by (try simp only [List.map_toArray,List.map_cons,List.map_nil]);first|done|rfl) ?_
  with_reducible refine (CF.out _ (by repeat (with_reducible first|exact HB.out|apply p3_|apply p1_|apply p2_))).mono ?_
  rintro e wg ⟨rfl,hb2⟩
  replace BR:=am_ (kb_ (k3_ BR.out) hb2)
  replace BO:=am_ (kb_ (k3_ BO.out) hb2)
  replace HB:=am_ (bt_ (p2_ HB.out) hb2)
  clear u0 u1 u2 u3 u4 u5 u6 r0 fr0 o0 fo0 r1 fr1 o1 fo1 r2 fr2 o2 fo2 r3 fr3 o3 fo3 r4 fr4 o4 fo4 r5 fr5 o5 fo5
  refine ⟨_,rfl,(claim_bound.S_below hHeld hb2),fun hHeld=>⟨?_,?_,?_⟩⟩
  rotate_left
  ·simp only [Act.put,sa_,sb_,sc_,i64_w,i32_w]
   rfl
  iterate 5 first|(refine seqP (v:=?_) (a':=?_) rfl rfl (by kernel_rfl) (fun _ _ _ h=>h) (Or.inl ⟨by kernel_rfl,?_⟩) ?_ ?_;rotate_left;(intro w';go_simp;with_reducible rfl);rotate_left;(simp only [Act.put,sa_,sb_,sc_,i64_w,i32_w];rfl))|(refine seqL (v:=?_) (a':=?_) rfl rfl (by kernel_rfl) (fun _ _ _ h=>h) (Or.inl ⟨by kernel_rfl,?_⟩) hHeld ?_ ?_;rotate_left;(rintro w' ⟨s0,s1,s2,s3,s4,s5,s6,s7⟩;go_simp;with_reducible rfl);rotate_left;(simp only [Act.put,sa_,sb_,sc_,i64_w,i32_w];rfl))
  refine seqE (by kernel_rfl) ?_
  clear hHeld CF
  have o0:=bc_ BO.out 0
  have o1:=bc_ BO.out 1
  have o2:=bc_ BO.out 2
  have o3:=bc_ BO.out 3
  have o4:=bc_ BO.out 4
  have o5:=bc_ BO.out 5
  have fo0:=bf_ BO.out 0
  have fo1:=bf_ BO.out 1
  have fo2:=bf_ BO.out 2
  have fo3:=bf_ BO.out 3
  have fo4:=bf_ BO.out 4
  have fo5:=bf_ BO.out 5
  have r0:=bc_ BR.out 0
  have r1:=bc_ BR.out 1
  have r2:=bc_ BR.out 2
  have r3:=bc_ BR.out 3
  have r4:=bc_ BR.out 4
  have r5:=bc_ BR.out 5
  have fr0:=bf_ BR.out 0
  have fr1:=bf_ BR.out 1
  have fr2:=bf_ BR.out 2
  have fr3:=bf_ BR.out 3
  have fr4:=bf_ BR.out 4
  have fr5:=bf_ BR.out 5
  cases fr with
  | false =>
   go_wp2
   have SZ:=am_ (Nat.le_refl w.heap.size)
   refine bodyPost_ret (results_cell_row rfl _ _ w.heap.size 44 #[.int .i64 hto,.int .i64 2,.string a3,.int .i64 (a2+a0_4),.string x4,.bool false] (0,0) _ rfl (by refine blk_put (cs:=#[.int .i64 hto,.int .i64 2,.string a3,.int .i64 (a2+a0_4),.string x4,.bool false]) ?_ 5 _ rfl;refine blk_put (cs:=#[.int .i64 hto,.int .i64 2,.string a3,.int .i64 (a2+a0_4),.string (⟨#[]⟩:ByteArray),.bool false]) ?_ 4 _ rfl;refine blk_put (cs:=#[.int .i64 hto,.int .i64 2,.string a3,.int .i64 0,.string (⟨#[]⟩:ByteArray),.bool false]) ?_ 3 _ rfl;refine blk_put (cs:=#[.int .i64 hto,.int .i64 2,.string (⟨#[]⟩:ByteArray),.int .i64 0,.string (⟨#[]⟩:ByteArray),.bool false]) ?_ 2 _ rfl;refine blk_put (cs:=#[.int .i64 hto,.int .i64 0,.string (⟨#[]⟩:ByteArray),.int .i64 0,.string (⟨#[]⟩:ByteArray),.bool false]) ?_ 1 _ rfl;refine blk_put (cs:=#[.int .i64 0,.int .i64 0,.string (⟨#[]⟩:ByteArray),.int .i64 0,.string (⟨#[]⟩:ByteArray),.bool false]) ?_ 0 _ rfl;exact blk_far BR.out (by show w.heap.size≠w.heap.size+1;omega) _) Tryz.underlying44 rfl (by kernel_rfl)) rfl ?_
   exact ⟨rfl,by repeat (with_reducible first|exact HB.out|refine bs_ ?_ (by first|exact SZ.out|exact Nat.le_succ_of_le SZ.out))⟩
  | true =>
   go_wp2
   have SZ:=am_ (Nat.le_refl w.heap.size)
   refine bodyPost_ret (results_cell_row rfl _ _ w.heap.size 44 #[.int .i64 hto,.int .i64 2,.string a3,.int .i64 (a2+a0_4),.string x4,.bool true] (0,0) _ rfl (by refine blk_put (cs:=#[.int .i64 hto,.int .i64 2,.string a3,.int .i64 (a2+a0_4),.string x4,.bool false]) ?_ 5 _ rfl;refine blk_put (cs:=#[.int .i64 hto,.int .i64 2,.string a3,.int .i64 (a2+a0_4),.string (⟨#[]⟩:ByteArray),.bool false]) ?_ 4 _ rfl;refine blk_put (cs:=#[.int .i64 hto,.int .i64 2,.string a3,.int .i64 0,.string (⟨#[]⟩:ByteArray),.bool false]) ?_ 3 _ rfl;refine blk_put (cs:=#[.int .i64 hto,.int .i64 2,.string (⟨#[]⟩:ByteArray),.int .i64 0,.string (⟨#[]⟩:ByteArray),.bool false]) ?_ 2 _ rfl;refine blk_put (cs:=#[.int .i64 hto,.int .i64 0,.string (⟨#[]⟩:ByteArray),.int .i64 0,.string (⟨#[]⟩:ByteArray),.bool false]) ?_ 1 _ rfl;refine blk_put (cs:=#[.int .i64 0,.int .i64 0,.string (⟨#[]⟩:ByteArray),.int .i64 0,.string (⟨#[]⟩:ByteArray),.bool false]) ?_ 0 _ rfl;exact blk_far BR.out (by show w.heap.size≠w.heap.size+1;omega) _) Tryz.underlying44 rfl (by kernel_rfl)) rfl ?_
   exact ⟨rfl,by repeat (with_reducible first|exact HB.out|refine bs_ ?_ (by first|exact SZ.out|exact Nat.le_succ_of_le SZ.out))⟩
 | false =>
  refine seqS (S:=claim_bound.S gc (w.heap.size+1) a0_0 a0_1 A0_2 c0_2 l0_2 A0_3 c0_3 l0_3 a0_4 a0_5 A0_6 c0_6 l0_6 x4) 14 (by kernel_rfl) rfl rfl (by unfold claim_bound.S;go_simp) ?_
  intro hHeld
  iterate 8 first|(refine seqP (v:=?_) (a':=?_) rfl rfl (by kernel_rfl) (fun _ _ _ h=>h) (Or.inl ⟨by kernel_rfl,?_⟩) ?_ ?_;rotate_left;(intro w';go_simp;with_reducible rfl);rotate_left;(simp only [Act.put,sa_,sb_,sc_,i64_w,i32_w];rfl))|(refine seqL (v:=?_) (a':=?_) rfl rfl (by kernel_rfl) (fun _ _ _ h=>h) (Or.inl ⟨by kernel_rfl,?_⟩) hHeld ?_ ?_;rotate_left;(rintro w' ⟨s0,s1,s2,s3,s4,s5,s6,s7⟩;go_simp;with_reducible rfl);rotate_left;(simp only [Act.put,sa_,sb_,sc_,i64_w,i32_w];rfl))
  refine seqG (fn:=Tryz.f55) rfl rfl (by kernel_rfl) rfl Tryz.func55 (by kernel_rfl) (by kernel_rfl) #[.agg #[.int .i64 a0_0,.int .i64 a0_1,.slice A0_2 l0_2.length c0_2,.slice A0_3 l0_3.length c0_3,.int .i64 a0_4,.string a0_5,.slice A0_6 l0_6.length c0_6],.slice A1 l1.length c1,.int .i64 a2,.string a3,.string x4] (by kernel_rfl) (by (try simp only [List.map_toArray,List.map_cons,List.map_nil]);first|done|rfl) ?_
  with_reducible refine (CF.out _ (by repeat (with_reducible first|exact HB.out|apply p3_|apply p1_|apply p2_))).mono ?_
  rintro e wg ⟨rfl,hb2⟩
  replace BR:=am_ (kb_ (k3_ BR.out) hb2)
  replace BO:=am_ (kb_ (k3_ BO.out) hb2)
  replace HB:=am_ (bt_ (p2_ HB.out) hb2)
  clear u0 u1 u2 u3 u4 u5 u6 r0 fr0 o0 fo0 r1 fr1 o1 fo1 r2 fr2 o2 fo2 r3 fr3 o3 fo3 r4 fr4 o4 fo4 r5 fr5 o5 fo5
  refine ⟨_,rfl,(claim_bound.S_below hHeld hb2),fun hHeld=>⟨?_,?_,?_⟩⟩
  rotate_left
  ·simp only [Act.put,sa_,sb_,sc_,i64_w,i32_w]
   rfl
  iterate 5 first|(refine seqP (v:=?_) (a':=?_) rfl rfl (by kernel_rfl) (fun _ _ _ h=>h) (Or.inl ⟨by kernel_rfl,?_⟩) ?_ ?_;rotate_left;(intro w';go_simp;with_reducible rfl);rotate_left;(simp only [Act.put,sa_,sb_,sc_,i64_w,i32_w];rfl))|(refine seqL (v:=?_) (a':=?_) rfl rfl (by kernel_rfl) (fun _ _ _ h=>h) (Or.inl ⟨by kernel_rfl,?_⟩) hHeld ?_ ?_;rotate_left;(rintro w' ⟨s0,s1,s2,s3,s4,s5,s6,s7⟩;go_simp;with_reducible rfl);rotate_left;(simp only [Act.put,sa_,sb_,sc_,i64_w,i32_w];rfl))
  refine seqE (by kernel_rfl) ?_
  clear hHeld CF
  have o0:=bc_ BO.out 0
  have o1:=bc_ BO.out 1
  have o2:=bc_ BO.out 2
  have o3:=bc_ BO.out 3
  have o4:=bc_ BO.out 4
  have o5:=bc_ BO.out 5
  have fo0:=bf_ BO.out 0
  have fo1:=bf_ BO.out 1
  have fo2:=bf_ BO.out 2
  have fo3:=bf_ BO.out 3
  have fo4:=bf_ BO.out 4
  have fo5:=bf_ BO.out 5
  have r0:=bc_ BR.out 0
  have r1:=bc_ BR.out 1
  have r2:=bc_ BR.out 2
  have r3:=bc_ BR.out 3
  have r4:=bc_ BR.out 4
  have r5:=bc_ BR.out 5
  have fr0:=bf_ BR.out 0
  have fr1:=bf_ BR.out 1
  have fr2:=bf_ BR.out 2
  have fr3:=bf_ BR.out 3
  have fr4:=bf_ BR.out 4
  have fr5:=bf_ BR.out 5
  cases fr with
  | false =>
   go_wp2
   have SZ:=am_ (Nat.le_refl w.heap.size)
   refine bodyPost_ret (results_cell_row rfl _ _ w.heap.size 44 #[.int .i64 hto,.int .i64 2,.string a3,.int .i64 (a2+a0_4),.string x4,.bool false] (0,0) _ rfl (by refine blk_put (cs:=#[.int .i64 hto,.int .i64 2,.string a3,.int .i64 (a2+a0_4),.string x4,.bool false]) ?_ 5 _ rfl;refine blk_put (cs:=#[.int .i64 hto,.int .i64 2,.string a3,.int .i64 (a2+a0_4),.string (⟨#[]⟩:ByteArray),.bool false]) ?_ 4 _ rfl;refine blk_put (cs:=#[.int .i64 hto,.int .i64 2,.string a3,.int .i64 0,.string (⟨#[]⟩:ByteArray),.bool false]) ?_ 3 _ rfl;refine blk_put (cs:=#[.int .i64 hto,.int .i64 2,.string (⟨#[]⟩:ByteArray),.int .i64 0,.string (⟨#[]⟩:ByteArray),.bool false]) ?_ 2 _ rfl;refine blk_put (cs:=#[.int .i64 hto,.int .i64 0,.string (⟨#[]⟩:ByteArray),.int .i64 0,.string (⟨#[]⟩:ByteArray),.bool false]) ?_ 1 _ rfl;refine blk_put (cs:=#[.int .i64 0,.int .i64 0,.string (⟨#[]⟩:ByteArray),.int .i64 0,.string (⟨#[]⟩:ByteArray),.bool false]) ?_ 0 _ rfl;exact blk_far BR.out (by show w.heap.size≠w.heap.size+1;omega) _) Tryz.underlying44 rfl (by kernel_rfl)) rfl ?_
   exact ⟨rfl,by repeat (with_reducible first|exact HB.out|refine bs_ ?_ (by first|exact SZ.out|exact Nat.le_succ_of_le SZ.out))⟩
  | true =>
   go_wp2
   have SZ:=am_ (Nat.le_refl w.heap.size)
   refine bodyPost_ret (results_cell_row rfl _ _ w.heap.size 44 #[.int .i64 hto,.int .i64 2,.string a3,.int .i64 (a2+a0_4),.string x4,.bool false] (0,0) _ rfl (by refine blk_put (cs:=#[.int .i64 hto,.int .i64 2,.string a3,.int .i64 (a2+a0_4),.string x4,.bool false]) ?_ 5 _ rfl;refine blk_put (cs:=#[.int .i64 hto,.int .i64 2,.string a3,.int .i64 (a2+a0_4),.string (⟨#[]⟩:ByteArray),.bool false]) ?_ 4 _ rfl;refine blk_put (cs:=#[.int .i64 hto,.int .i64 2,.string a3,.int .i64 0,.string (⟨#[]⟩:ByteArray),.bool false]) ?_ 3 _ rfl;refine blk_put (cs:=#[.int .i64 hto,.int .i64 2,.string (⟨#[]⟩:ByteArray),.int .i64 0,.string (⟨#[]⟩:ByteArray),.bool false]) ?_ 2 _ rfl;refine blk_put (cs:=#[.int .i64 hto,.int .i64 0,.string (⟨#[]⟩:ByteArray),.int .i64 0,.string (⟨#[]⟩:ByteArray),.bool false]) ?_ 1 _ rfl;refine blk_put (cs:=#[.int .i64 0,.int .i64 0,.string (⟨#[]⟩:ByteArray),.int .i64 0,.string (⟨#[]⟩:ByteArray),.bool false]) ?_ 0 _ rfl;exact blk_far BR.out (by show w.heap.size≠w.heap.size+1;omega) _) Tryz.underlying44 rfl (by kernel_rfl)) rfl ?_
   exact ⟨rfl,by repeat (with_reducible first|exact HB.out|refine bs_ ?_ (by first|exact SZ.out|exact Nat.le_succ_of_le SZ.out))⟩

/-! ### offer_Offered: function 26 -/
def offer_Offered.f (s0_0:Int) (s0_1:Int) (s0_2:ByteArray) (s0_3:Int) (s0_4:ByteArray) (s0_5:Bool):Option (Bool×Int×Int×ByteArray×Int×ByteArray×Bool):=some ((s0_1 == 1),s0_0,s0_1,s0_2,s0_3,s0_4,s0_5)
theorem offer_Offered.calls (g:Nat) (s0_0:Int) (s0_1:Int) (s0_2:ByteArray) (s0_3:Int) (s0_4:ByteArray) (s0_5:Bool) (r1:Bool) (r2:Int) (r3:Int) (r4:ByteArray) (r5:Int) (r6:ByteArray) (r7:Bool) (w0 w:World) (hI:IsS44 w0 w g s0_0 s0_1 s0_2 s0_3 s0_4 s0_5) (hB:Below w0.heap.size w0 w) (h:offer_Offered.f s0_0 s0_1 s0_2 s0_3 s0_4 s0_5=some (r1,r2,r3,r4,r5,r6,r7)) :
  Calls Tryz.prog 26 #[.pointer (some ⟨g,0,none⟩)] w fun e w'=>e=.returned (.bool r1)∧IsS44 w0 w' g r2 r3 r4 r5 r6 r7∧Below w0.heap.size w0 w'∧KeepBut w w' g none:=by
 have HI0:=am_ hI
 have HK:=am_ (KeepBut.refl w g none)
 have HL:=am_ hB.size
 clear hI
 have HW0:=am_ hB.size
 have HB:=am_ hB
 clear hB
 have H:(some ((s0_1 == 1),s0_0,s0_1,s0_2,s0_3,s0_4,s0_5))=some (r1,r2,r3,r4,r5,r6,r7):=h
 clear h
 simp only [Option.some.injEq,Prod.mk.injEq] at H
 obtain ⟨rfl,rfl,rfl,rfl,rfl,rfl,rfl⟩:=H
 obtain ⟨HGz2,hgz2⟩:=HI0.out
 have hcz2_0:=cellS44_0 HGz2
 have hcz2_1:=cellS44_1 HGz2
 have hcz2_2:=cellS44_2 HGz2
 have hcz2_3:=cellS44_3 HGz2
 have hcz2_4:=cellS44_4 HGz2
 have hcz2_5:=cellS44_5 HGz2
 have hfz2_0:=bf_ HGz2 0;have hfz2_1:=bf_ HGz2 1;have hfz2_2:=bf_ HGz2 2;have hfz2_3:=bf_ HGz2 3;have hfz2_4:=bf_ HGz2 4;have hfz2_5:=bf_ HGz2 5
 clear HGz2 hgz2
 go_enter Tryz.func26,Tryz.ntmps26
 go_wp2
 go_ret
 exact ⟨by first|rfl|(simp [errW_none,errW_some]<;>rfl)|(simp [*,errW_none,errW_some]<;>rfl),by repeat (with_reducible first|exact HI0.out|apply IsS44.alloc|apply IsS44.drewN|apply IsS44.drew|apply IsS44.set_0|apply IsS44.set_1|apply IsS44.set_2|apply IsS44.set_3|apply IsS44.set_4|apply IsS44.set_5),by repeat (first|(with_reducible first|exact HB.out|apply p3_|apply p1_|apply p2_|refine bs_ ?_ (IsS44.ge HI0.out))|exact HB.out),by repeat (with_reducible first|exact HK.out|apply KeepBut.set_|apply keep_drewN|apply keep_drew|apply keep_alloc)⟩

/-! ### claim_Claim: function 6 -/
-- BY HAND
-- 15 16 17 18 19 22 21 24 26 20 25 23
-- inc withput.inc
-- behind table_With.calls
def insR (lt:S44→S44→Bool) (x:S44):List S44→List S44→List S44
 | [],b=>x :: b
 | y :: ra,b=>if lt x y=true then insR lt x ra (y :: b) else (y :: ra).reverse ++ x :: b
theorem wp_get (a:List S44) (x:S44) (b:List S44) (i:Nat) (h:a.length=i):(a ++ x :: b).toArray[i]! = x:=by
 subst h
 rw [getElem!_pos _ _ (by simp)]
 simp
theorem wp_swp (a:List S44) (y x:S44) (b:List S44):Go.Sort.swp (a ++ y :: x :: b).toArray (a.length+1) a.length=(a ++ x :: y :: b).toArray:=by
 unfold Go.Sort.swp
 have e1:(a ++ y :: x :: b).toArray[a.length]! = y:=wp_get a y (x :: b) _ rfl
 have e2:(a ++ y :: x :: b).toArray[a.length+1]! = x:=by
  rw [show a ++ y :: x :: b=(a ++ [y]) ++ x :: b by simp]
  exact wp_get (a ++ [y]) x b _ (by simp)
 rw [e1,e2,sa_,sa_]
 congr 1
 rw [List.set_append_right _ _ (by omega),show a.length+1 - a.length=1 by omega,sc_,sb_,List.set_append_right _ _ (by omega),Nat.sub_self,sb_]
theorem wp_inner (lt:S44→S44→Bool) (x:S44):∀ (ra b:List S44),Go.Sort.insInner lt 0 ra.length (ra.reverse ++ x :: b).toArray=(insR lt x ra b).toArray
 | [],b=>rfl
 | y :: ra,b=>by
  have h1:((y :: ra).reverse ++ x :: b).toArray[ra.length+1]! = x:=wp_get _ x b _ (by simp)
  have h2:((y :: ra).reverse ++ x :: b).toArray[ra.length]! = y:=by
   rw [List.reverse_cons,List.append_assoc]
   exact wp_get _ y (x :: b) _ (by simp)
  have h3:Go.Sort.swp ((y :: ra).reverse ++ x :: b).toArray (ra.length+1) ra.length=(ra.reverse ++ x :: y :: b).toArray:=by
   have:=wp_swp ra.reverse y x b
   rw [List.length_reverse] at this
   rw [List.reverse_cons,List.append_assoc]
   exact this
  rw [List.length_cons,Go.Sort.insInner,h1,h2,h3]
  unfold insR
  cases lt x y with
  | true =>
   rw [show (decide (ra.length+1 > 0) && true)=true by simp,if_pos rfl,if_pos rfl]
   exact wp_inner lt x ra (y :: b)
  | false=>simp
/-- a row that stands in order stays. -/
theorem wp_rounds (lt:S44→S44→Bool) (l b:List S44) (hl:∀ u y x v,l=u ++ y :: x :: v→lt x y=false):∀ (m i:Nat),1≤i→i+m=l.length→table_With.outer lt m i (l ++ b).toArray=(l ++ b).toArray
 | 0,_,_,_=>rfl
 | m+1,i,h1,hi=>by
  have hs:Go.Sort.insInner lt 0 i (l ++ b).toArray=(l ++ b).toArray:=by
   obtain ⟨j,rfl⟩:∃ j,i=j+1:=⟨i - 1,by omega⟩
   have hj:j+1 < l.length:=by omega
   have e:l=l.take j ++ l[j] :: l[j+1] :: l.drop (j+2):=by
    rw [←List.drop_eq_getElem_cons hj,←List.drop_eq_getElem_cons (by omega:j < l.length),List.take_append_drop]
   have h1:(l ++ b).toArray[j+1]! = l[j+1]:=by
    rw [getElem!_pos _ _ (by simp;omega)]
    simp [List.getElem_append_left hj]
   have h2:(l ++ b).toArray[j]! = l[j]:=by
    rw [getElem!_pos _ _ (by simp;omega)]
    simp [List.getElem_append_left (show j < l.length by omega)]
   rw [Go.Sort.insInner,h1,h2,hl _ _ _ _ e]
   simp
  rw [table_With.outer,hs]
  exact wp_rounds lt l b hl m (i+1) (by omega) (by omega)
theorem wp_last (lt:S44→S44→Bool) (l:List S44) (x:S44) (hl:∀ u y x v,l=u ++ y :: x :: v→lt x y=false):(table_With.outer lt ((l ++ [x]).length - 1) 1 (l ++ [x]).toArray).toList=insR lt x l.reverse []:=by
 cases l with
 | nil=>rfl
 | cons a r =>
  have key:∀ (m i:Nat) (d:Array S44),table_With.outer lt (m+1) i d=Go.Sort.insInner lt 0 (i+m) (table_With.outer lt m i d):=by
   intro m
   induction m with
   | zero=>intro i d;rfl
   | succ m ih =>
    intro i d
    rw [table_With.outer,ih (i+1)]
    conv=>rhs;rw [table_With.outer]
    rw [show i+1+m=i+(m+1) by omega]
  have e1:((a :: r) ++ [x]).length - 1=r.length+1:=by simp
  rw [e1,key,wp_rounds lt (a :: r) [x] hl r.length 1 (by omega) (by simp;omega)]
  have:=wp_inner lt x (a :: r).reverse []
  rw [List.reverse_reverse,List.length_reverse] at this
  rw [show 1+r.length=(a :: r).length by simp;omega,this]
theorem wp_ins (lt:S44→S44→Bool) (x:S44) (u:List S44) (hu:∀ y∈u,lt x y=false):∀ (rv b:List S44),(∀y∈rv,lt x y=true)→insR lt x (rv ++ u.reverse) b=u ++ x :: (rv.reverse ++ b)
 | [],b,_=>by
  rw [List.nil_append,List.reverse_nil,List.nil_append]
  cases hr:u.reverse with
  | nil =>
   have:u=[]:=by simpa using hr
   rw [this]
   rfl
  | cons y ra =>
   have hy:lt x y=false:=hu y (by rw [←List.mem_reverse,hr];exact List.mem_cons_self)
   unfold insR
   rw [hy,if_neg (by decide),←hr,List.reverse_reverse]
 | y :: rv,b,h=>by
  rw [List.cons_append]
  unfold insR
  rw [h y List.mem_cons_self,if_pos rfl,wp_ins lt x u hu rv (y :: b) (fun z hz=>h z (List.mem_cons_of_mem _ hz))]
  simp
theorem wp_split (x:S44):∀ (l:List S44),l.Pairwise (fun a b=>a.f0 < b.f0)→(∀y∈l,y.f0≠x.f0)→∃ u v,l=u ++ v∧(∀y∈u,y.f0 < x.f0)∧∀ y∈v,x.f0 < y.f0
 | [],_,_=>⟨[],[],rfl,(fun y h=>by cases h),(fun y h=>by cases h)⟩
 | y :: r,hs,hn=>by
  obtain ⟨h1,h2⟩:=List.pairwise_cons.1 hs
  by_cases q:y.f0 < x.f0
  ·obtain ⟨u,v,e,hu,hv⟩:=wp_split x r h2 (fun z hz=>hn z (List.mem_cons_of_mem _ hz))
   refine ⟨y :: u,v,by rw [e];rfl,?_,hv⟩
   intro z hz
   rcases List.mem_cons.1 hz with e|e
   ·rw [e];exact q
   ·exact hu z e
  ·refine ⟨[],y :: r,rfl,(fun z h=>by cases h),?_⟩
   have:=hn y List.mem_cons_self
   intro z hz
   rcases List.mem_cons.1 hz with e|e
   ·rw [e];omega
   ·have:=h1 z e;omega
theorem put_mid (x:S44) (v:List S44) (hv:∀ y∈v,x.f0 < y.f0):∀ (u:List S44),(∀y∈u,y.f0 < x.f0)→putGo x false (u ++ v)=u ++ x :: v
 | [],_=>by
  rw [List.nil_append,List.nil_append]
  cases v with
  | nil=>rfl
  | cons y r =>
   have hy:=hv y List.mem_cons_self
   unfold putGo
   rw [if_pos ⟨rfl,by omega⟩,if_neg (by omega),decide_eq_true (by omega),Bool.or_true,put_done r x (fun z hz=>by have:=hv z (List.mem_cons_of_mem _ hz);omega)]
   rfl
 | y :: u,hu=>by
  have hy:=hu y List.mem_cons_self
  rw [List.cons_append,List.cons_append]
  unfold putGo
  rw [if_neg (by omega),if_neg (by omega),decide_eq_false (by omega),Bool.or_false,put_mid x v hv u (fun z hz=>hu z (List.mem_cons_of_mem _ hz))]
  rfl
theorem lease_host {x:S44} (h:leaseOk x=true):2≤x.f0∧x.f0≤254:=by
 have h1:leaseB x.f0 x.f1 x.f2 x.f3 x.f4 x.f5=true:=h
 unfold leaseB at h1
 simp only [Bool.and_eq_true,decide_eq_true_eq] at h1
 exact h1.1.1.1.1
theorem cf_lt (x y:S44) (hx:2≤x.f0∧x.f0≤254) (hy:2≤y.f0∧y.f0≤254):ltOf table_With.cf x y=decide (x.f0 < y.f0):=by
 unfold ltOf table_With.cf
 rw [show wrap64 (x.f0 - y.f0)=x.f0 - y.f0 by unfold wrap64;omega,decide_eq_decide]
 omega
/-- With's row is the document's. -/
theorem with_put (l:List S44) (x:S44) (hT:tableB l=true) (hx:leaseOk x=true):table_With.out l x=putL l x:=by
 obtain ⟨hok,hs,h8⟩:=table_sorted hT
 have hxb:=lease_host hx
 unfold table_With.out putL
 by_cases hm:∃ y∈l,y.f0=x.f0
 ·rw [put_swap l x hs hm]
  obtain ⟨y,hy,hye⟩:=hm
  obtain ⟨i,hi,rfl⟩:=List.getElem_of_mem hy
  have hne:∀ (j:Nat) (hj:j < l.length),l[j].f0=x.f0→j=i:=by
   intro j hj e
   rcases Nat.lt_trichotomy j i with h|h|h
   ·have:=List.pairwise_iff_getElem.1 hs j i hj hi h;omega
   ·exact h
   ·have:=List.pairwise_iff_getElem.1 hs i j hi hj h;omega
  have he:table_at.idx (fun y=>y.f0 == x.f0) l=(i:Int):=table_at.idx_hit _ l i hi (by simpa using hye) (fun j hj hji=>by
   rw [beq_eq_false_iff_ne]
   intro e
   have:=hne j hj e
   omega)
  rw [he,if_pos (by omega),Int.toNat_natCast]
  refine List.ext_getElem (by unfold swapL;rw [List.length_set,List.length_map]) (fun j h1 h2=>?_)
  have hj:j < l.length:=by rw [List.length_set] at h1;exact h1
  have e5:(swapL l x.f0 x)[j]'h2=(if l[j].f0=x.f0 then x else l[j]):=by simp only [swapL,List.getElem_map]
  rw [List.getElem_set,e5]
  by_cases e:i=j
  ·subst e
   rw [if_pos rfl,if_pos hye]
  ·rw [if_neg e,if_neg (fun h=>e (hne j hj h).symm)]
 ·have hn:∀ y∈l,y.f0≠x.f0:=fun y hy e=>hm ⟨y,hy,e⟩
  have he:table_at.idx (fun y=>y.f0 == x.f0) l = -1:=table_at.idx_miss _ l (fun j hj=>by
   rw [beq_eq_false_iff_ne]
   exact hn _ (List.getElem_mem hj))
  rw [he,if_neg (by decide)]
  have hlt:∀ y∈l,ltOf table_With.cf x y=decide (x.f0 < y.f0):=fun y hy=>cf_lt x y hxb (lease_host (hok y hy))
  obtain ⟨u,v,e,hu,hv⟩:=wp_split x l hs hn
  unfold table_With.srt
  rw [wp_last (ltOf table_With.cf) l x (fun a y z b e=>by
   have hy:y∈l:=by rw [e];simp
   have hz:z∈l:=by rw [e];simp
   have h1:=(List.pairwise_append.1 (by rw [e] at hs;exact hs)).2.1
   have h2:=(List.pairwise_cons.1 h1).1 z List.mem_cons_self
   rw [cf_lt z y (lease_host (hok z hz)) (lease_host (hok y hy)),decide_eq_false (by omega)])]
  have e2:l.reverse=v.reverse ++ u.reverse:=by rw [e,List.reverse_append]
  rw [e2,wp_ins (ltOf table_With.cf) x u (fun y hy=>by rw [hlt y (by rw [e];exact List.mem_append_left _ hy),decide_eq_false (by have:=hu y hy;omega)]) v.reverse [] (fun y hy=>by
   have hy2:y∈v:=by simpa using hy
   rw [hlt y (by rw [e];exact List.mem_append_right _ hy2),decide_eq_true (hv y hy2)])]
  rw [List.reverse_reverse,List.append_nil,e,put_mid x v hv u hu]
theorem claim_Claim.offered (gl:Nat) (x:S44) (w:World) (h:w.heap[gl]?=some (.cells #[.int .i64 x.f0,.int .i64 x.f1,.string x.f2,.int .i64 x.f3,.string x.f4,.bool x.f5] 44)) :
  Calls Tryz.prog 26 #[.pointer (some ⟨gl,0,none⟩)] w fun e w'=>e=.returned (.bool (offeredX x))∧Below w.heap.size w w':=by
 have v1:=bc_ h 1
 have e1:(x.f1 == 1)=offeredX x:=by unfold offeredX;rw [Bool.eq_iff_iff,beq_iff_eq,decide_eq_true_eq]
 clear h
 go_enter Tryz.func26,Tryz.ntmps26
 go_wp2
 go_ret
 exact ⟨ret_bool e1,by repeat (with_reducible first|exact Below.refl _ _|apply p1_|apply p2_)⟩
theorem claim_Claim.every (gl:Nat) (w:World) :
  Calls Tryz.prog 20 #[.pointer (some ⟨gl,0,none⟩)] w fun e w'=>e=.returned (.bool true)∧Below w.heap.size w w':=by
 go_enter Tryz.func20,Tryz.ntmps20
 go_wp2
 go_ret
 exact ⟨rfl,by repeat (with_reducible first|exact Below.refl _ _|apply p1_|apply p2_)⟩
theorem claim_Claim.info:(Tryz.prog.info? 44).map (fun i=>(i.zero,i.size,i.bytes))=some (some (.agg #[.int .i64 0,.int .i64 0,.string ⟨#[]⟩,.int .i64 0,.string ⟨#[]⟩,.bool false]),6,64):=by kernel_rfl
theorem kind_is (q0:Bool) (q1 hh:Int) (lent:Bool) (x:S44) (c:ByteArray) (now:Int):kindV q0 q1 hh lent x c now=0∨kindV q0 q1 hh lent x c now=1∨kindV q0 q1 hh lent x c now=2:=by
 unfold kindV
 repeat' split
 all_goals simp
def claim_Claim.f (a0_0:Int) (a0_1:Int) (l0_2:List Int) (l0_3:List S95) (a0_4:Int) (a0_5:ByteArray) (l0_6:List S93) (l1:List S44) (a2:Int) (a3:ByteArray) (q0:Bool) (q1 q2 q3:Int) (q4:ByteArray):Option (List S44×Int×Int×Int):=if pickFit l0_2 l0_3 a0_5 l0_6 l1∧q4.size≤140737488351232 then some (claimV (freeB a0_0 a0_1 l0_2 l0_3 a0_4 a0_5 l0_6 l1 a2 a3) a0_0 a0_1 l0_2 l0_3 a0_4 a0_5 l0_6 l1 a2 a3 q0 q1 q2 q3 q4) else none
theorem claim_Claim.calls (a0_0:Int) (a0_1:Int) (A0_2:Option Addr) (c0_2:Nat) (l0_2:List Int) (A0_3:Option Addr) (c0_3:Nat) (l0_3:List S95) (a0_4:Int) (a0_5:ByteArray) (A0_6:Option Addr) (c0_6:Nat) (l0_6:List S93) (A1:Option Addr) (c1:Nat) (l1:List S44) (a2:Int) (a3:ByteArray) (q0:Bool) (q1 q2 q3:Int) (q4:ByteArray) (r1:List S44) (r2 r3 r4:Int) (w:World) (hr0_2:Kd.C (Kd.int .i64) w A0_2 l0_2.length l0_2) (hc0_2:l0_2.length≤c0_2) (hr0_3:Kd.C k95 w A0_3 l0_3.length l0_3) (hc0_3:l0_3.length≤c0_3) (hr0_6:Kd.C k93 w A0_6 l0_6.length l0_6) (hc0_6:l0_6.length≤c0_6) (hr1:Kd.C k44 w A1 l1.length l1) (hc1:l1.length≤c1) (h:claim_Claim.f a0_0 a0_1 l0_2 l0_3 a0_4 a0_5 l0_6 l1 a2 a3 q0 q1 q2 q3 q4=some (r1,r2,r3,r4)) :
  Calls Tryz.prog 6 #[.agg #[.int .i64 a0_0,.int .i64 a0_1,.slice A0_2 l0_2.length c0_2,.slice A0_3 l0_3.length c0_3,.int .i64 a0_4,.string a0_5,.slice A0_6 l0_6.length c0_6],.slice A1 l1.length c1,.int .i64 a2,.string a3,.agg #[.bool q0,.int .i64 q1,.int .i64 q2,.int .i64 q3,.string q4]] w fun e w'=>∃ v0_:Value,e=.returned (.tuple #[v0_,.int .i64 r2,.int .i64 r3,.int .i64 r4])∧Kd.R k44 44 w' w.heap.size (fun _=>True) v0_ r1∧Below w.heap.size w w':=by
 unfold claim_Claim.f at h
 by_cases hsq:pickFit l0_2 l0_3 a0_5 l0_6 l1∧q4.size≤140737488351232
 rotate_left
 ·rw [if_neg hsq] at h
  cases h
 rw [if_pos hsq] at h
 obtain ⟨hs,hq⟩:=hsq
 replace h:=e5_ h
 have htold:=claim_told h
 unfold claimV at h
 obtain ⟨b1,h1⟩:∃ b,pickMayB a0_0 a0_1 l0_2 l0_3 a0_4 a0_5 l0_6 l1 a2 a3=b:=⟨_,rfl⟩
 obtain ⟨b2,h2⟩:∃ b,decide (0≤a2∧a2≤1099510579200)=b:=⟨_,rfl⟩
 obtain ⟨b3,h3⟩:∃ b,reqB q0 q1 q2 q3 q4=b:=⟨_,rfl⟩
 rw [h1,h2,h3] at h
 obtain ⟨W2,hW2⟩:∃ W2,((w.alloc (.cells #[.int .i64 a0_0,.int .i64 a0_1,.slice A0_2 l0_2.length c0_2,.slice A0_3 l0_3.length c0_3,.int .i64 a0_4,.string a0_5,.slice A0_6 l0_6.length c0_6] 26)).alloc (.cells #[.bool q0,.int .i64 q1,.int .i64 q2,.int .i64 q3,.string q4] 29))=W2:=⟨_,rfl⟩
 have HB:=am_ (show Below w.heap.size w W2 by rw [←hW2];repeat (first|exact Below.refl _ _|apply p3_))
 have BK:=am_ (show W2.heap[w.heap.size]?=some (.cells #[.int .i64 a0_0,.int .i64 a0_1,.slice A0_2 l0_2.length c0_2,.slice A0_3 l0_3.length c0_3,.int .i64 a0_4,.string a0_5,.slice A0_6 l0_6.length c0_6] 26) by rw [←hW2];exact k1_ (blk_new w _) _)
 have BQ:=am_ (show W2.heap[w.heap.size+1]?=some (.cells #[.bool q0,.int .i64 q1,.int .i64 q2,.int .i64 q3,.string q4] 29) by
  have:=blk_new (w.alloc (.cells #[.int .i64 a0_0,.int .i64 a0_1,.slice A0_2 l0_2.length c0_2,.slice A0_3 l0_3.length c0_3,.int .i64 a0_4,.string a0_5,.slice A0_6 l0_6.length c0_6] 26)) (.cells #[.bool q0,.int .i64 q1,.int .i64 q2,.int .i64 q3,.string q4] 29)
  rw [hW2] at this
  simpa using this)
 have C1:=am_ (fun W (hb:Below w.heap.size w W) (bk:W.heap[w.heap.size]?=some (.cells #[.int .i64 a0_0,.int .i64 a0_1,.slice A0_2 l0_2.length c0_2,.slice A0_3 l0_3.length c0_3,.int .i64 a0_4,.string a0_5,.slice A0_6 l0_6.length c0_6] 26))=>pick_May.calls w.heap.size a0_0 a0_1 A0_2 c0_2 l0_2 A0_3 c0_3 l0_3 a0_4 a0_5 A0_6 c0_6 l0_6 A1 c1 l1 a2 a3 b1 W bk (c4_ hr0_2 hb) hc0_2 (c4_ hr0_3 hb) hc0_3 (c4_ hr0_6 hb) hc0_6 (c4_ hr1 hb) hc1 hs h1)
 have C2:=am_ (fun W=>lease_Early_c.calls a2 b2 W (by unfold lease_Early_c.f;rw [h2]))
 have C3:=am_ (fun W (bk:W.heap[w.heap.size+1]?=some (.cells #[.bool q0,.int .i64 q1,.int .i64 q2,.int .i64 q3,.string q4] 29))=>claim_may.calls (w.heap.size+1) q0 q1 q2 q3 q4 b3 W bk hq h3)
 cases b1 with
 | false =>
  rw [if_neg (by first|decide|simp)] at h
  obtain ⟨rfl,h5⟩:=Prod.mk.inj h
  obtain ⟨rfl,h6⟩:=Prod.mk.inj h5
  obtain ⟨rfl,rfl⟩:=Prod.mk.inj h6
  clear h6 h5 h
  clear htold C2 C3 h1 h2 h3 hs hq hr0_2 hr0_3 hr0_6 hc0_2 hc0_3 hc0_6 hr1 hc1
  go_enter Tryz.func6,Tryz.ntmps6
  go_wp2_with (first|(go_at_call 15;(try rw [hW2]);(with_reducible refine (C1.out _ (by repeat (with_reducible first|exact HB.out|apply p3_|apply p1_|apply p2_)) (by (with_reducible repeat (first|exact BK.out|refine k2_ ?_ _|refine k3_ ?_|refine k1_ ?_ _)))).mono ?_);rintro e w1 ⟨rfl,hb2⟩;replace BK:=am_ (kb_ (show _ from (by (with_reducible repeat (first|exact BK.out|refine k2_ ?_ _|refine k3_ ?_|refine k1_ ?_ _)))) hb2);replace BQ:=am_ (kb_ (show _ from (by (with_reducible repeat (first|exact BQ.out|refine k2_ ?_ _|refine k3_ ?_|refine k1_ ?_ _)))) hb2);replace HB:=am_ (bt_ (show Below w.heap.size w _ from (by repeat (with_reducible first|exact HB.out|apply p3_|apply p1_|apply p2_))) hb2);clear hb2;(try clear u0 u1 u2 u3 u4 u5 u6);(try clear v0 v1 v2 v3 v4);have u0:=bc_ BK.out 0;have u1:=bc_ BK.out 1;have u2:=bc_ BK.out 2;have u3:=bc_ BK.out 3;have u4:=bc_ BK.out 4;have u5:=bc_ BK.out 5;have u6:=bc_ BK.out 6;have v0:=bc_ BQ.out 0;have v1:=bc_ BQ.out 1;have v2:=bc_ BQ.out 2;have v3:=bc_ BQ.out 3;have v4:=bc_ BQ.out 4))
  ((try simp only [Exit.inBlock,Exit.then]);refine bodyPost_ret (results_tmp4 rfl _ _ _) rfl ?_)
  exact ⟨_,rfl,Kd.R_nil _ _ _ _ _,(by repeat (with_reducible first|exact HB.out|apply p3_|apply p1_|apply p2_))⟩
 | true =>
 cases b2 with
 | false =>
  rw [if_neg (by first|decide|simp)] at h
  obtain ⟨rfl,h5⟩:=Prod.mk.inj h
  obtain ⟨rfl,h6⟩:=Prod.mk.inj h5
  obtain ⟨rfl,rfl⟩:=Prod.mk.inj h6
  clear h6 h5 h
  clear htold C3 h1 h2 h3 hs hq hr0_2 hr0_3 hr0_6 hc0_2 hc0_3 hc0_6 hr1 hc1
  go_enter Tryz.func6,Tryz.ntmps6
  go_wp2_with (first|(go_at_call 15;(try rw [hW2]);(with_reducible refine (C1.out _ (by repeat (with_reducible first|exact HB.out|apply p3_|apply p1_|apply p2_)) (by (with_reducible repeat (first|exact BK.out|refine k2_ ?_ _|refine k3_ ?_|refine k1_ ?_ _)))).mono ?_);rintro e w1 ⟨rfl,hb2⟩;replace BK:=am_ (kb_ (show _ from (by (with_reducible repeat (first|exact BK.out|refine k2_ ?_ _|refine k3_ ?_|refine k1_ ?_ _)))) hb2);replace BQ:=am_ (kb_ (show _ from (by (with_reducible repeat (first|exact BQ.out|refine k2_ ?_ _|refine k3_ ?_|refine k1_ ?_ _)))) hb2);replace HB:=am_ (bt_ (show Below w.heap.size w _ from (by repeat (with_reducible first|exact HB.out|apply p3_|apply p1_|apply p2_))) hb2);clear hb2;(try clear u0 u1 u2 u3 u4 u5 u6);(try clear v0 v1 v2 v3 v4);have u0:=bc_ BK.out 0;have u1:=bc_ BK.out 1;have u2:=bc_ BK.out 2;have u3:=bc_ BK.out 3;have u4:=bc_ BK.out 4;have u5:=bc_ BK.out 5;have u6:=bc_ BK.out 6;have v0:=bc_ BQ.out 0;have v1:=bc_ BQ.out 1;have v2:=bc_ BQ.out 2;have v3:=bc_ BQ.out 3;have v4:=bc_ BQ.out 4)|(go_at_call 16;(with_reducible refine (C2.out _).mono ?_);rintro e w2 ⟨rfl,⟨nd,rfl⟩⟩;replace BK:=am_ (k2_ BK.out nd);replace BQ:=am_ (k2_ BQ.out nd);replace HB:=am_ (p1_ HB.out nd)))
  ((try simp only [Exit.inBlock,Exit.then]);refine bodyPost_ret (results_tmp4 rfl _ _ _) rfl ?_)
  exact ⟨_,rfl,Kd.R_nil _ _ _ _ _,(by repeat (with_reducible first|exact HB.out|apply p3_|apply p1_|apply p2_))⟩
 | true =>
 cases b3 with
 | false =>
  rw [if_neg (by first|decide|simp)] at h
  obtain ⟨rfl,h5⟩:=Prod.mk.inj h
  obtain ⟨rfl,h6⟩:=Prod.mk.inj h5
  obtain ⟨rfl,rfl⟩:=Prod.mk.inj h6
  clear h6 h5 h
  clear htold h1 h2 h3 hs hq hr0_2 hr0_3 hr0_6 hc0_2 hc0_3 hc0_6 hr1 hc1
  go_enter Tryz.func6,Tryz.ntmps6
  go_wp2_with (first|(go_at_call 15;(try rw [hW2]);(with_reducible refine (C1.out _ (by repeat (with_reducible first|exact HB.out|apply p3_|apply p1_|apply p2_)) (by (with_reducible repeat (first|exact BK.out|refine k2_ ?_ _|refine k3_ ?_|refine k1_ ?_ _)))).mono ?_);rintro e w1 ⟨rfl,hb2⟩;replace BK:=am_ (kb_ (show _ from (by (with_reducible repeat (first|exact BK.out|refine k2_ ?_ _|refine k3_ ?_|refine k1_ ?_ _)))) hb2);replace BQ:=am_ (kb_ (show _ from (by (with_reducible repeat (first|exact BQ.out|refine k2_ ?_ _|refine k3_ ?_|refine k1_ ?_ _)))) hb2);replace HB:=am_ (bt_ (show Below w.heap.size w _ from (by repeat (with_reducible first|exact HB.out|apply p3_|apply p1_|apply p2_))) hb2);clear hb2;(try clear u0 u1 u2 u3 u4 u5 u6);(try clear v0 v1 v2 v3 v4);have u0:=bc_ BK.out 0;have u1:=bc_ BK.out 1;have u2:=bc_ BK.out 2;have u3:=bc_ BK.out 3;have u4:=bc_ BK.out 4;have u5:=bc_ BK.out 5;have u6:=bc_ BK.out 6;have v0:=bc_ BQ.out 0;have v1:=bc_ BQ.out 1;have v2:=bc_ BQ.out 2;have v3:=bc_ BQ.out 3;have v4:=bc_ BQ.out 4)|(go_at_call 16;(with_reducible refine (C2.out _).mono ?_);rintro e w2 ⟨rfl,⟨nd,rfl⟩⟩;replace BK:=am_ (k2_ BK.out nd);replace BQ:=am_ (k2_ BQ.out nd);replace HB:=am_ (p1_ HB.out nd))|(go_at_call 17;(with_reducible refine (C3.out _ (by (with_reducible repeat (first|exact BQ.out|refine k2_ ?_ _|refine k3_ ?_|refine k1_ ?_ _)))).mono ?_);rintro e w3 ⟨rfl,hb2⟩;replace BK:=am_ (kb_ (show _ from (by (with_reducible repeat (first|exact BK.out|refine k2_ ?_ _|refine k3_ ?_|refine k1_ ?_ _)))) hb2);replace BQ:=am_ (kb_ (show _ from (by (with_reducible repeat (first|exact BQ.out|refine k2_ ?_ _|refine k3_ ?_|refine k1_ ?_ _)))) hb2);replace HB:=am_ (bt_ (show Below w.heap.size w _ from (by repeat (with_reducible first|exact HB.out|apply p3_|apply p1_|apply p2_))) hb2);clear hb2;(try clear u0 u1 u2 u3 u4 u5 u6);(try clear v0 v1 v2 v3 v4);have u0:=bc_ BK.out 0;have u1:=bc_ BK.out 1;have u2:=bc_ BK.out 2;have u3:=bc_ BK.out 3;have u4:=bc_ BK.out 4;have u5:=bc_ BK.out 5;have u6:=bc_ BK.out 6;have v0:=bc_ BQ.out 0;have v1:=bc_ BQ.out 1;have v2:=bc_ BQ.out 2;have v3:=bc_ BQ.out 3;have v4:=bc_ BQ.out 4))
  ((try simp only [Exit.inBlock,Exit.then]);refine bodyPost_ret (results_tmp4 rfl _ _ _) rfl ?_)
  exact ⟨_,rfl,Kd.R_nil _ _ _ _ _,(by repeat (with_reducible first|exact HB.out|apply p3_|apply p1_|apply p2_))⟩
 | true =>
 rw [if_pos (by decide)] at h
 have hm:=may_parts h1
 have hn:=of_decide_eq_true h2
 have hT:=hm.2.2.2.1
 obtain ⟨hh,hhh⟩:∃ v,claimHost q0 q2 q3=v:=⟨_,rfl⟩
 rw [hhh] at h
 have C4:=am_ (fun W (bk:W.heap[w.heap.size+1]?=some (.cells #[.bool q0,.int .i64 q1,.int .i64 q2,.int .i64 q3,.string q4] 29))=>claim_host.calls (w.heap.size+1) q0 q1 q2 q3 q4 hh W bk hhh)
 obtain ⟨x,hx⟩:∃ x,gotL (findL l1 hh)=x:=⟨_,rfl⟩
 rw [hx] at h
 have hsz:x.f4.size≤140737488351232:=by
  rw [←hx]
  cases e:findL l1 hh with
  | none=>exact (by decide:(⟨#[]⟩:ByteArray).size≤140737488351232)
  | some y=>exact hs.2.2 y (List.mem_of_find?_eq_some e)
 have C5:=am_ (fun W (hb:Below w.heap.size w W)=>table_Find_c.calls A1 c1 l1 hh x.f0 x.f1 x.f2 x.f3 x.f4 x.f5 (findL l1 hh).isSome W (c4_ hr1 hb) hc1 (by unfold table_Find_c.f;rw [if_pos hs.2.1,hx]))
 obtain ⟨lt,hlt⟩:∃ b,lentB a0_0 a0_1 l0_2 l0_3 a0_4 a0_5 l0_6 hh a3=b:=⟨_,rfl⟩
 rw [hlt] at h
 have C6:=am_ (fun W (hb:Below w.heap.size w W) (bk:W.heap[w.heap.size]?=some (.cells #[.int .i64 a0_0,.int .i64 a0_1,.slice A0_2 l0_2.length c0_2,.slice A0_3 l0_3.length c0_3,.int .i64 a0_4,.string a0_5,.slice A0_6 l0_6.length c0_6] 26))=>conf_Lent.calls w.heap.size a0_0 a0_1 A0_2 c0_2 l0_2 A0_3 c0_3 l0_3 a0_4 a0_5 A0_6 c0_6 l0_6 hh a3 lt W bk (c4_ hr0_2 hb) hc0_2 (c4_ hr0_3 hb) hc0_3 (c4_ hr0_6 hb) hc0_6 hs.1 hlt)
 obtain ⟨k,hk⟩:∃ v,kindV q0 q1 hh lt x a3 a2=v:=⟨_,rfl⟩
 rw [hk] at h
 have hkis:=kind_is q0 q1 hh lt x a3 a2
 rw [hk] at hkis
 have hown:k=1→x.f2.toList=a3.toList:=fun e=>(kind_own (hk.trans e)).1
 have hKs:(keptN q4 x a3).size≤140737488351232:=by unfold keptN;split<;>assumption
 obtain ⟨x0,x1,x2,x3,x4,x5⟩:=x
 simp only at hsz C5
 have C7:=am_ (fun W (gl:Nat) (bq:W.heap[w.heap.size+1]?=some (.cells #[.bool q0,.int .i64 q1,.int .i64 q2,.int .i64 q3,.string q4] 29)) (bx:W.heap[gl]?=some (.cells #[.int .i64 x0,.int .i64 x1,.string x2,.int .i64 x3,.string x4,.bool x5] 44))=>claim_kind.calls (w.heap.size+1) q0 q1 q2 q3 q4 hh lt gl x0 x1 x2 x3 x4 x5 a3 a2 k W bq bx hsz hk)
 generalize hix:(findL l1 hh).isSome=isx at C5
 unfold claimGo at h
 by_cases k1:k=1
 rotate_left
 ·rw [if_neg k1] at h
  have k1b:(k == 1)=false:=by simpa using k1
  by_cases k0:k=0∧q0=true
  ·rw [if_pos k0] at h
   obtain ⟨rfl,h5⟩:=Prod.mk.inj h
   obtain ⟨rfl,h6⟩:=Prod.mk.inj h5
   obtain ⟨rfl,rfl⟩:=Prod.mk.inj h6
   clear h6 h5 h
   obtain ⟨rfl,rfl⟩:=k0
   have CD:=am_ (fun W (hb:Below w.heap.size w W)=>offer_Drop.calls offeredX 26 #[] A1 c1 l1 a2 a3 0 W (c4_ hr1 hb) hc1 ⟨by have:=(table_sorted hT).2.2;omega,hs.2.2⟩ (fun args w=>enters_ Tryz.func26 (by kernel_rfl) rfl args w) (fun W gl x hx=>claim_Claim.offered gl x W hx))
   clear htold h1 h2 h3 hs hq hr0_2 hr0_3 hr0_6 hc0_2 hc0_3 hc0_6 hr1 hc1 hm hT hhh hx hsz hlt hk hkis hown hKs k1 hn
   go_enter Tryz.func6,Tryz.ntmps6
   go_wp2_with (first|(go_at_call 15;(try rw [hW2]);(with_reducible refine (C1.out _ (by repeat (with_reducible first|exact HB.out|apply p3_|apply p1_|apply p2_)) (by (with_reducible repeat (first|exact BK.out|refine k2_ ?_ _|refine k3_ ?_|refine k1_ ?_ _)))).mono ?_);rintro e w1 ⟨rfl,hb2⟩;replace BK:=am_ (kb_ (show _ from (by (with_reducible repeat (first|exact BK.out|refine k2_ ?_ _|refine k3_ ?_|refine k1_ ?_ _)))) hb2);replace BQ:=am_ (kb_ (show _ from (by (with_reducible repeat (first|exact BQ.out|refine k2_ ?_ _|refine k3_ ?_|refine k1_ ?_ _)))) hb2);replace HB:=am_ (bt_ (show Below w.heap.size w _ from (by repeat (with_reducible first|exact HB.out|apply p3_|apply p1_|apply p2_))) hb2);clear hb2;(try clear u0 u1 u2 u3 u4 u5 u6);(try clear v0 v1 v2 v3 v4);have u0:=bc_ BK.out 0;have u1:=bc_ BK.out 1;have u2:=bc_ BK.out 2;have u3:=bc_ BK.out 3;have u4:=bc_ BK.out 4;have u5:=bc_ BK.out 5;have u6:=bc_ BK.out 6;have v0:=bc_ BQ.out 0;have v1:=bc_ BQ.out 1;have v2:=bc_ BQ.out 2;have v3:=bc_ BQ.out 3;have v4:=bc_ BQ.out 4)|(go_at_call 16;(with_reducible refine (C2.out _).mono ?_);rintro e w2 ⟨rfl,⟨nd,rfl⟩⟩;replace BK:=am_ (k2_ BK.out nd);replace BQ:=am_ (k2_ BQ.out nd);replace HB:=am_ (p1_ HB.out nd))|(go_at_call 17;(with_reducible refine (C3.out _ (by (with_reducible repeat (first|exact BQ.out|refine k2_ ?_ _|refine k3_ ?_|refine k1_ ?_ _)))).mono ?_);rintro e w3 ⟨rfl,hb2⟩;replace BK:=am_ (kb_ (show _ from (by (with_reducible repeat (first|exact BK.out|refine k2_ ?_ _|refine k3_ ?_|refine k1_ ?_ _)))) hb2);replace BQ:=am_ (kb_ (show _ from (by (with_reducible repeat (first|exact BQ.out|refine k2_ ?_ _|refine k3_ ?_|refine k1_ ?_ _)))) hb2);replace HB:=am_ (bt_ (show Below w.heap.size w _ from (by repeat (with_reducible first|exact HB.out|apply p3_|apply p1_|apply p2_))) hb2);clear hb2;(try clear u0 u1 u2 u3 u4 u5 u6);(try clear v0 v1 v2 v3 v4);have u0:=bc_ BK.out 0;have u1:=bc_ BK.out 1;have u2:=bc_ BK.out 2;have u3:=bc_ BK.out 3;have u4:=bc_ BK.out 4;have u5:=bc_ BK.out 5;have u6:=bc_ BK.out 6;have v0:=bc_ BQ.out 0;have v1:=bc_ BQ.out 1;have v2:=bc_ BQ.out 2;have v3:=bc_ BQ.out 3;have v4:=bc_ BQ.out 4)|(go_at_call 18;(with_reducible refine (C4.out _ (by (with_reducible repeat (first|exact BQ.out|refine k2_ ?_ _|refine k3_ ?_|refine k1_ ?_ _)))).mono ?_);rintro e w4 ⟨rfl,hb2⟩;replace BK:=am_ (kb_ (show _ from (by (with_reducible repeat (first|exact BK.out|refine k2_ ?_ _|refine k3_ ?_|refine k1_ ?_ _)))) hb2);replace BQ:=am_ (kb_ (show _ from (by (with_reducible repeat (first|exact BQ.out|refine k2_ ?_ _|refine k3_ ?_|refine k1_ ?_ _)))) hb2);replace HB:=am_ (bt_ (show Below w.heap.size w _ from (by repeat (with_reducible first|exact HB.out|apply p3_|apply p1_|apply p2_))) hb2);clear hb2;(try clear u0 u1 u2 u3 u4 u5 u6);(try clear v0 v1 v2 v3 v4);have u0:=bc_ BK.out 0;have u1:=bc_ BK.out 1;have u2:=bc_ BK.out 2;have u3:=bc_ BK.out 3;have u4:=bc_ BK.out 4;have u5:=bc_ BK.out 5;have u6:=bc_ BK.out 6;have v0:=bc_ BQ.out 0;have v1:=bc_ BQ.out 1;have v2:=bc_ BQ.out 2;have v3:=bc_ BQ.out 3;have v4:=bc_ BQ.out 4)|(go_at_call 19;(with_reducible refine (C5.out _ (by repeat (with_reducible first|exact HB.out|apply p3_|apply p1_|apply p2_))).mono ?_);rintro e w5 ⟨rfl,hb2⟩;replace BK:=am_ (kb_ (show _ from (by (with_reducible repeat (first|exact BK.out|refine k2_ ?_ _|refine k3_ ?_|refine k1_ ?_ _)))) hb2);replace BQ:=am_ (kb_ (show _ from (by (with_reducible repeat (first|exact BQ.out|refine k2_ ?_ _|refine k3_ ?_|refine k1_ ?_ _)))) hb2);replace HB:=am_ (bt_ (show Below w.heap.size w _ from (by repeat (with_reducible first|exact HB.out|apply p3_|apply p1_|apply p2_))) hb2);clear hb2;have BX:=am_ (blk_new w5 (.cells #[.int .i64 x0,.int .i64 x1,.string x2,.int .i64 x3,.string x4,.bool x5] 44));replace BK:=am_ (k1_ BK.out (.cells #[.int .i64 x0,.int .i64 x1,.string x2,.int .i64 x3,.string x4,.bool x5] 44));replace BQ:=am_ (k1_ BQ.out (.cells #[.int .i64 x0,.int .i64 x1,.string x2,.int .i64 x3,.string x4,.bool x5] 44));replace HB:=am_ (p3_ HB.out (.cells #[.int .i64 x0,.int .i64 x1,.string x2,.int .i64 x3,.string x4,.bool x5] 44));(try clear u0 u1 u2 u3 u4 u5 u6);(try clear v0 v1 v2 v3 v4);have u0:=bc_ BK.out 0;have u1:=bc_ BK.out 1;have u2:=bc_ BK.out 2;have u3:=bc_ BK.out 3;have u4:=bc_ BK.out 4;have u5:=bc_ BK.out 5;have u6:=bc_ BK.out 6;have v0:=bc_ BQ.out 0;have v1:=bc_ BQ.out 1;have v2:=bc_ BQ.out 2;have v3:=bc_ BQ.out 3;have v4:=bc_ BQ.out 4;have z0:=bc_ BX.out 0;have z1:=bc_ BX.out 1;have z2:=bc_ BX.out 2;have z3:=bc_ BX.out 3;have z4:=bc_ BX.out 4;have z5:=bc_ BX.out 5)|(go_at_call 22;(with_reducible refine (C6.out _ (by repeat (with_reducible first|exact HB.out|apply p3_|apply p1_|apply p2_)) (by (with_reducible repeat (first|exact BK.out|refine k2_ ?_ _|refine k3_ ?_|refine k1_ ?_ _)))).mono ?_);rintro e w6 ⟨rfl,hb2⟩;replace BK:=am_ (kb_ (show _ from (by (with_reducible repeat (first|exact BK.out|refine k2_ ?_ _|refine k3_ ?_|refine k1_ ?_ _)))) hb2);replace BQ:=am_ (kb_ (show _ from (by (with_reducible repeat (first|exact BQ.out|refine k2_ ?_ _|refine k3_ ?_|refine k1_ ?_ _)))) hb2);replace BX:=am_ (kb_ (show _ from (by (with_reducible repeat (first|exact BX.out|refine k2_ ?_ _|refine k3_ ?_|refine k1_ ?_ _)))) hb2);replace HB:=am_ (bt_ (show Below w.heap.size w _ from (by repeat (with_reducible first|exact HB.out|apply p3_|apply p1_|apply p2_))) hb2);clear hb2;(try clear u0 u1 u2 u3 u4 u5 u6);(try clear v0 v1 v2 v3 v4);have u0:=bc_ BK.out 0;have u1:=bc_ BK.out 1;have u2:=bc_ BK.out 2;have u3:=bc_ BK.out 3;have u4:=bc_ BK.out 4;have u5:=bc_ BK.out 5;have u6:=bc_ BK.out 6;have v0:=bc_ BQ.out 0;have v1:=bc_ BQ.out 1;have v2:=bc_ BQ.out 2;have v3:=bc_ BQ.out 3;have v4:=bc_ BQ.out 4;(try clear z0 z1 z2 z3 z4 z5);have z0:=bc_ BX.out 0;have z1:=bc_ BX.out 1;have z2:=bc_ BX.out 2;have z3:=bc_ BX.out 3;have z4:=bc_ BX.out 4;have z5:=bc_ BX.out 5)|(go_at_call 21;(with_reducible refine (C7.out _ _ (by (with_reducible repeat (first|exact BQ.out|refine k2_ ?_ _|refine k3_ ?_|refine k1_ ?_ _))) (by (with_reducible repeat (first|exact BX.out|refine k2_ ?_ _|refine k3_ ?_|refine k1_ ?_ _)))).mono ?_);rintro e w7 ⟨rfl,hb2⟩;replace BK:=am_ (kb_ (show _ from (by (with_reducible repeat (first|exact BK.out|refine k2_ ?_ _|refine k3_ ?_|refine k1_ ?_ _)))) hb2);replace BQ:=am_ (kb_ (show _ from (by (with_reducible repeat (first|exact BQ.out|refine k2_ ?_ _|refine k3_ ?_|refine k1_ ?_ _)))) hb2);replace BX:=am_ (kb_ (show _ from (by (with_reducible repeat (first|exact BX.out|refine k2_ ?_ _|refine k3_ ?_|refine k1_ ?_ _)))) hb2);replace HB:=am_ (bt_ (show Below w.heap.size w _ from (by repeat (with_reducible first|exact HB.out|apply p3_|apply p1_|apply p2_))) hb2);clear hb2;(try clear u0 u1 u2 u3 u4 u5 u6);(try clear v0 v1 v2 v3 v4);have u0:=bc_ BK.out 0;have u1:=bc_ BK.out 1;have u2:=bc_ BK.out 2;have u3:=bc_ BK.out 3;have u4:=bc_ BK.out 4;have u5:=bc_ BK.out 5;have u6:=bc_ BK.out 6;have v0:=bc_ BQ.out 0;have v1:=bc_ BQ.out 1;have v2:=bc_ BQ.out 2;have v3:=bc_ BQ.out 3;have v4:=bc_ BQ.out 4;(try clear z0 z1 z2 z3 z4 z5);have z0:=bc_ BX.out 0;have z1:=bc_ BX.out 1;have z2:=bc_ BX.out 2;have z3:=bc_ BX.out 3;have z4:=bc_ BX.out 4;have z5:=bc_ BX.out 5)|(go_at_call 24;(with_reducible refine (CD.out _ (by repeat (with_reducible first|exact HB.out|apply p3_|apply p1_|apply p2_))).mono ?_);rintro e w8 ⟨v,rfl,hv,hb2⟩;have HV:=am_ (Kd.R_lower hv (show w.heap.size≤_ from (show Below w.heap.size w _ from (by repeat (with_reducible first|exact HB.out|apply p3_|apply p1_|apply p2_))).size));replace HB:=am_ (bt_ (show Below w.heap.size w _ from (by repeat (with_reducible first|exact HB.out|apply p3_|apply p1_|apply p2_))) hb2);clear hb2 hv))
   ((try simp only [Exit.inBlock,Exit.then]);refine bodyPost_ret (results_tmp4 rfl _ _ _) rfl ?_)
   exact ⟨_,rfl,HV.out,HB.out⟩
  ·rw [if_neg k0] at h
   obtain ⟨rfl,h5⟩:=Prod.mk.inj h
   obtain ⟨rfl,h6⟩:=Prod.mk.inj h5
   obtain ⟨rfl,rfl⟩:=Prod.mk.inj h6
   clear h6 h5 h
   have hl8:=(table_sorted hT).2.2
   have HR1:=am_ hr1
   have AP:=True.intro
   have hq0:k=0→q0=false:=fun e=>by cases q0 with
    | false=>rfl
    | true=>exact absurd ⟨e,rfl⟩ k0
   clear htold h1 h2 h3 hs hq hr0_2 hr0_3 hr0_6 hc0_2 hc0_3 hc0_6 hr1 hc1 hm hT hhh hx hsz hlt hk hown hKs k1 hn k0
   by_cases e0:k=0
   ·subst e0
    obtain rfl:=hq0 rfl
    clear hkis hq0
    go_enter Tryz.func6,Tryz.ntmps6
    go_wp2_with (first
     | (go_at_call 15;(try rw [hW2]);(with_reducible refine (C1.out _ (by repeat (with_reducible first|exact HB.out|apply p3_|apply p1_|apply p2_)) (by (with_reducible repeat (first|exact BK.out|refine k2_ ?_ _|refine k3_ ?_|refine k1_ ?_ _)))).mono ?_);rintro e w1 ⟨rfl,hb2⟩;replace BK:=am_ (kb_ (show _ from (by (with_reducible repeat (first|exact BK.out|refine k2_ ?_ _|refine k3_ ?_|refine k1_ ?_ _)))) hb2);replace BQ:=am_ (kb_ (show _ from (by (with_reducible repeat (first|exact BQ.out|refine k2_ ?_ _|refine k3_ ?_|refine k1_ ?_ _)))) hb2);replace HB:=am_ (bt_ (show Below w.heap.size w _ from (by repeat (with_reducible first|exact HB.out|apply p3_|apply p1_|apply p2_))) hb2);clear hb2;(try clear u0 u1 u2 u3 u4 u5 u6);(try clear v0 v1 v2 v3 v4);have u0:=bc_ BK.out 0;have u1:=bc_ BK.out 1;have u2:=bc_ BK.out 2;have u3:=bc_ BK.out 3;have u4:=bc_ BK.out 4;have u5:=bc_ BK.out 5;have u6:=bc_ BK.out 6;have v0:=bc_ BQ.out 0;have v1:=bc_ BQ.out 1;have v2:=bc_ BQ.out 2;have v3:=bc_ BQ.out 3;have v4:=bc_ BQ.out 4)|(go_at_call 16;(with_reducible refine (C2.out _).mono ?_);rintro e w2 ⟨rfl,⟨nd,rfl⟩⟩;replace BK:=am_ (k2_ BK.out nd);replace BQ:=am_ (k2_ BQ.out nd);replace HB:=am_ (p1_ HB.out nd))|(go_at_call 17;(with_reducible refine (C3.out _ (by (with_reducible repeat (first|exact BQ.out|refine k2_ ?_ _|refine k3_ ?_|refine k1_ ?_ _)))).mono ?_);rintro e w3 ⟨rfl,hb2⟩;replace BK:=am_ (kb_ (show _ from (by (with_reducible repeat (first|exact BK.out|refine k2_ ?_ _|refine k3_ ?_|refine k1_ ?_ _)))) hb2);replace BQ:=am_ (kb_ (show _ from (by (with_reducible repeat (first|exact BQ.out|refine k2_ ?_ _|refine k3_ ?_|refine k1_ ?_ _)))) hb2);replace HB:=am_ (bt_ (show Below w.heap.size w _ from (by repeat (with_reducible first|exact HB.out|apply p3_|apply p1_|apply p2_))) hb2);clear hb2;(try clear u0 u1 u2 u3 u4 u5 u6);(try clear v0 v1 v2 v3 v4);have u0:=bc_ BK.out 0;have u1:=bc_ BK.out 1;have u2:=bc_ BK.out 2;have u3:=bc_ BK.out 3;have u4:=bc_ BK.out 4;have u5:=bc_ BK.out 5;have u6:=bc_ BK.out 6;have v0:=bc_ BQ.out 0;have v1:=bc_ BQ.out 1;have v2:=bc_ BQ.out 2;have v3:=bc_ BQ.out 3;have v4:=bc_ BQ.out 4)|(go_at_call 18;(with_reducible refine (C4.out _ (by (with_reducible repeat (first|exact BQ.out|refine k2_ ?_ _|refine k3_ ?_|refine k1_ ?_ _)))).mono ?_);rintro e w4 ⟨rfl,hb2⟩;replace BK:=am_ (kb_ (show _ from (by (with_reducible repeat (first|exact BK.out|refine k2_ ?_ _|refine k3_ ?_|refine k1_ ?_ _)))) hb2);replace BQ:=am_ (kb_ (show _ from (by (with_reducible repeat (first|exact BQ.out|refine k2_ ?_ _|refine k3_ ?_|refine k1_ ?_ _)))) hb2);replace HB:=am_ (bt_ (show Below w.heap.size w _ from (by repeat (with_reducible first|exact HB.out|apply p3_|apply p1_|apply p2_))) hb2);clear hb2;(try clear u0 u1 u2 u3 u4 u5 u6);(try clear v0 v1 v2 v3 v4);have u0:=bc_ BK.out 0;have u1:=bc_ BK.out 1;have u2:=bc_ BK.out 2;have u3:=bc_ BK.out 3;have u4:=bc_ BK.out 4;have u5:=bc_ BK.out 5;have u6:=bc_ BK.out 6;have v0:=bc_ BQ.out 0;have v1:=bc_ BQ.out 1;have v2:=bc_ BQ.out 2;have v3:=bc_ BQ.out 3;have v4:=bc_ BQ.out 4)|(go_at_call 19;(with_reducible refine (C5.out _ (by repeat (with_reducible first|exact HB.out|apply p3_|apply p1_|apply p2_))).mono ?_);rintro e w5 ⟨rfl,hb2⟩;replace BK:=am_ (kb_ (show _ from (by (with_reducible repeat (first|exact BK.out|refine k2_ ?_ _|refine k3_ ?_|refine k1_ ?_ _)))) hb2);replace BQ:=am_ (kb_ (show _ from (by (with_reducible repeat (first|exact BQ.out|refine k2_ ?_ _|refine k3_ ?_|refine k1_ ?_ _)))) hb2);replace HB:=am_ (bt_ (show Below w.heap.size w _ from (by repeat (with_reducible first|exact HB.out|apply p3_|apply p1_|apply p2_))) hb2);clear hb2;have BX:=am_ (blk_new w5 (.cells #[.int .i64 x0,.int .i64 x1,.string x2,.int .i64 x3,.string x4,.bool x5] 44));replace BK:=am_ (k1_ BK.out (.cells #[.int .i64 x0,.int .i64 x1,.string x2,.int .i64 x3,.string x4,.bool x5] 44));replace BQ:=am_ (k1_ BQ.out (.cells #[.int .i64 x0,.int .i64 x1,.string x2,.int .i64 x3,.string x4,.bool x5] 44));replace HB:=am_ (p3_ HB.out (.cells #[.int .i64 x0,.int .i64 x1,.string x2,.int .i64 x3,.string x4,.bool x5] 44));(try clear u0 u1 u2 u3 u4 u5 u6);(try clear v0 v1 v2 v3 v4);have u0:=bc_ BK.out 0;have u1:=bc_ BK.out 1;have u2:=bc_ BK.out 2;have u3:=bc_ BK.out 3;have u4:=bc_ BK.out 4;have u5:=bc_ BK.out 5;have u6:=bc_ BK.out 6;have v0:=bc_ BQ.out 0;have v1:=bc_ BQ.out 1;have v2:=bc_ BQ.out 2;have v3:=bc_ BQ.out 3;have v4:=bc_ BQ.out 4;have z0:=bc_ BX.out 0;have z1:=bc_ BX.out 1;have z2:=bc_ BX.out 2;have z3:=bc_ BX.out 3;have z4:=bc_ BX.out 4;have z5:=bc_ BX.out 5)|(go_at_call 22;(with_reducible refine (C6.out _ (by repeat (with_reducible first|exact HB.out|apply p3_|apply p1_|apply p2_)) (by (with_reducible repeat (first|exact BK.out|refine k2_ ?_ _|refine k3_ ?_|refine k1_ ?_ _)))).mono ?_);rintro e w6 ⟨rfl,hb2⟩;replace BK:=am_ (kb_ (show _ from (by (with_reducible repeat (first|exact BK.out|refine k2_ ?_ _|refine k3_ ?_|refine k1_ ?_ _)))) hb2);replace BQ:=am_ (kb_ (show _ from (by (with_reducible repeat (first|exact BQ.out|refine k2_ ?_ _|refine k3_ ?_|refine k1_ ?_ _)))) hb2);replace BX:=am_ (kb_ (show _ from (by (with_reducible repeat (first|exact BX.out|refine k2_ ?_ _|refine k3_ ?_|refine k1_ ?_ _)))) hb2);replace HB:=am_ (bt_ (show Below w.heap.size w _ from (by repeat (with_reducible first|exact HB.out|apply p3_|apply p1_|apply p2_))) hb2);clear hb2;(try clear u0 u1 u2 u3 u4 u5 u6);(try clear v0 v1 v2 v3 v4);have u0:=bc_ BK.out 0;have u1:=bc_ BK.out 1;have u2:=bc_ BK.out 2;have u3:=bc_ BK.out 3;have u4:=bc_ BK.out 4;have u5:=bc_ BK.out 5;have u6:=bc_ BK.out 6;have v0:=bc_ BQ.out 0;have v1:=bc_ BQ.out 1;have v2:=bc_ BQ.out 2;have v3:=bc_ BQ.out 3;have v4:=bc_ BQ.out 4;(try clear z0 z1 z2 z3 z4 z5);have z0:=bc_ BX.out 0;have z1:=bc_ BX.out 1;have z2:=bc_ BX.out 2;have z3:=bc_ BX.out 3;have z4:=bc_ BX.out 4;have z5:=bc_ BX.out 5)|(go_at_call 21;(with_reducible refine (C7.out _ _ (by (with_reducible repeat (first|exact BQ.out|refine k2_ ?_ _|refine k3_ ?_|refine k1_ ?_ _))) (by (with_reducible repeat (first|exact BX.out|refine k2_ ?_ _|refine k3_ ?_|refine k1_ ?_ _)))).mono ?_);rintro e w7 ⟨rfl,hb2⟩;replace BK:=am_ (kb_ (show _ from (by (with_reducible repeat (first|exact BK.out|refine k2_ ?_ _|refine k3_ ?_|refine k1_ ?_ _)))) hb2);replace BQ:=am_ (kb_ (show _ from (by (with_reducible repeat (first|exact BQ.out|refine k2_ ?_ _|refine k3_ ?_|refine k1_ ?_ _)))) hb2);replace BX:=am_ (kb_ (show _ from (by (with_reducible repeat (first|exact BX.out|refine k2_ ?_ _|refine k3_ ?_|refine k1_ ?_ _)))) hb2);replace HB:=am_ (bt_ (show Below w.heap.size w _ from (by repeat (with_reducible first|exact HB.out|apply p3_|apply p1_|apply p2_))) hb2);clear hb2;(try clear u0 u1 u2 u3 u4 u5 u6);(try clear v0 v1 v2 v3 v4);have u0:=bc_ BK.out 0;have u1:=bc_ BK.out 1;have u2:=bc_ BK.out 2;have u3:=bc_ BK.out 3;have u4:=bc_ BK.out 4;have u5:=bc_ BK.out 5;have u6:=bc_ BK.out 6;have v0:=bc_ BQ.out 0;have v1:=bc_ BQ.out 1;have v2:=bc_ BQ.out 2;have v3:=bc_ BQ.out 3;have v4:=bc_ BQ.out 4;(try clear z0 z1 z2 z3 z4 z5);have z0:=bc_ BX.out 0;have z1:=bc_ BX.out 1;have z2:=bc_ BX.out 2;have z3:=bc_ BX.out 3;have z4:=bc_ BX.out 4;have z5:=bc_ BX.out 5)
     | ((with_reducible refine gate_builtin (b:=.append) (xs:=#[.const (.slice none 0 0),.tmp 49]) rfl ?_);at_builtin;refine Kd.R_append_rows k44 (w0:=w) w.heap.size rfl (.const (.slice none 0 0)) (.tmp 49) 27 44 (.agg #[.int .i64 0,.int .i64 0,.string ⟨#[]⟩,.int .i64 0,.string ⟨#[]⟩,.bool false]) 64 rfl Tryz.underlying27 claim_Claim.info rfl (by decide) (by omega) (.slice none 0 0) [] l1 _ _ _ (fun _=>True) (fun _=>False) rfl rfl ?aO ?aR (fun _ _ h=>h) (fun _ h=>h.elim) ?aF ?aB ?aS ?aL ?_;(case aR=>exact c4_ HR1.out (by repeat (with_reducible first|exact HB.out|apply p3_|apply p1_|apply p2_)));(case aB=>exact (by repeat (with_reducible first|exact HB.out|apply p3_|apply p1_|apply p2_)));(case aF=>exact (fun _ _=>trivial));(case aO=>exact Kd.R_nil _ _ _ _ _);(case aS=>exact (bz_ (by repeat (with_reducible first|exact HB.out|apply p3_|apply p1_|apply p2_))));(case aL=>simp;omega);intro v107 w9 ho hb hg hat;rw [List.nil_append] at ho;clear hg hat))
    ((try simp only [Exit.inBlock,Exit.then]);refine bodyPost_ret (results_tmp4 rfl _ _ _) rfl ?_)
    exact ⟨_,rfl,ho,hb⟩
   ·have e0b:(k == 0)=false:=by simpa using e0
    clear hkis hq0
    go_enter Tryz.func6,Tryz.ntmps6
    go_wp2_with (first
     | (go_at_call 15;(try rw [hW2]);(with_reducible refine (C1.out _ (by repeat (with_reducible first|exact HB.out|apply p3_|apply p1_|apply p2_)) (by (with_reducible repeat (first|exact BK.out|refine k2_ ?_ _|refine k3_ ?_|refine k1_ ?_ _)))).mono ?_);rintro e w1 ⟨rfl,hb2⟩;replace BK:=am_ (kb_ (show _ from (by (with_reducible repeat (first|exact BK.out|refine k2_ ?_ _|refine k3_ ?_|refine k1_ ?_ _)))) hb2);replace BQ:=am_ (kb_ (show _ from (by (with_reducible repeat (first|exact BQ.out|refine k2_ ?_ _|refine k3_ ?_|refine k1_ ?_ _)))) hb2);replace HB:=am_ (bt_ (show Below w.heap.size w _ from (by repeat (with_reducible first|exact HB.out|apply p3_|apply p1_|apply p2_))) hb2);clear hb2;(try clear u0 u1 u2 u3 u4 u5 u6);(try clear v0 v1 v2 v3 v4);have u0:=bc_ BK.out 0;have u1:=bc_ BK.out 1;have u2:=bc_ BK.out 2;have u3:=bc_ BK.out 3;have u4:=bc_ BK.out 4;have u5:=bc_ BK.out 5;have u6:=bc_ BK.out 6;have v0:=bc_ BQ.out 0;have v1:=bc_ BQ.out 1;have v2:=bc_ BQ.out 2;have v3:=bc_ BQ.out 3;have v4:=bc_ BQ.out 4)|(go_at_call 16;(with_reducible refine (C2.out _).mono ?_);rintro e w2 ⟨rfl,⟨nd,rfl⟩⟩;replace BK:=am_ (k2_ BK.out nd);replace BQ:=am_ (k2_ BQ.out nd);replace HB:=am_ (p1_ HB.out nd))|(go_at_call 17;(with_reducible refine (C3.out _ (by (with_reducible repeat (first|exact BQ.out|refine k2_ ?_ _|refine k3_ ?_|refine k1_ ?_ _)))).mono ?_);rintro e w3 ⟨rfl,hb2⟩;replace BK:=am_ (kb_ (show _ from (by (with_reducible repeat (first|exact BK.out|refine k2_ ?_ _|refine k3_ ?_|refine k1_ ?_ _)))) hb2);replace BQ:=am_ (kb_ (show _ from (by (with_reducible repeat (first|exact BQ.out|refine k2_ ?_ _|refine k3_ ?_|refine k1_ ?_ _)))) hb2);replace HB:=am_ (bt_ (show Below w.heap.size w _ from (by repeat (with_reducible first|exact HB.out|apply p3_|apply p1_|apply p2_))) hb2);clear hb2;(try clear u0 u1 u2 u3 u4 u5 u6);(try clear v0 v1 v2 v3 v4);have u0:=bc_ BK.out 0;have u1:=bc_ BK.out 1;have u2:=bc_ BK.out 2;have u3:=bc_ BK.out 3;have u4:=bc_ BK.out 4;have u5:=bc_ BK.out 5;have u6:=bc_ BK.out 6;have v0:=bc_ BQ.out 0;have v1:=bc_ BQ.out 1;have v2:=bc_ BQ.out 2;have v3:=bc_ BQ.out 3;have v4:=bc_ BQ.out 4)|(go_at_call 18;(with_reducible refine (C4.out _ (by (with_reducible repeat (first|exact BQ.out|refine k2_ ?_ _|refine k3_ ?_|refine k1_ ?_ _)))).mono ?_);rintro e w4 ⟨rfl,hb2⟩;replace BK:=am_ (kb_ (show _ from (by (with_reducible repeat (first|exact BK.out|refine k2_ ?_ _|refine k3_ ?_|refine k1_ ?_ _)))) hb2);replace BQ:=am_ (kb_ (show _ from (by (with_reducible repeat (first|exact BQ.out|refine k2_ ?_ _|refine k3_ ?_|refine k1_ ?_ _)))) hb2);replace HB:=am_ (bt_ (show Below w.heap.size w _ from (by repeat (with_reducible first|exact HB.out|apply p3_|apply p1_|apply p2_))) hb2);clear hb2;(try clear u0 u1 u2 u3 u4 u5 u6);(try clear v0 v1 v2 v3 v4);have u0:=bc_ BK.out 0;have u1:=bc_ BK.out 1;have u2:=bc_ BK.out 2;have u3:=bc_ BK.out 3;have u4:=bc_ BK.out 4;have u5:=bc_ BK.out 5;have u6:=bc_ BK.out 6;have v0:=bc_ BQ.out 0;have v1:=bc_ BQ.out 1;have v2:=bc_ BQ.out 2;have v3:=bc_ BQ.out 3;have v4:=bc_ BQ.out 4)|(go_at_call 19;(with_reducible refine (C5.out _ (by repeat (with_reducible first|exact HB.out|apply p3_|apply p1_|apply p2_))).mono ?_);rintro e w5 ⟨rfl,hb2⟩;replace BK:=am_ (kb_ (show _ from (by (with_reducible repeat (first|exact BK.out|refine k2_ ?_ _|refine k3_ ?_|refine k1_ ?_ _)))) hb2);replace BQ:=am_ (kb_ (show _ from (by (with_reducible repeat (first|exact BQ.out|refine k2_ ?_ _|refine k3_ ?_|refine k1_ ?_ _)))) hb2);replace HB:=am_ (bt_ (show Below w.heap.size w _ from (by repeat (with_reducible first|exact HB.out|apply p3_|apply p1_|apply p2_))) hb2);clear hb2;have BX:=am_ (blk_new w5 (.cells #[.int .i64 x0,.int .i64 x1,.string x2,.int .i64 x3,.string x4,.bool x5] 44));replace BK:=am_ (k1_ BK.out (.cells #[.int .i64 x0,.int .i64 x1,.string x2,.int .i64 x3,.string x4,.bool x5] 44));replace BQ:=am_ (k1_ BQ.out (.cells #[.int .i64 x0,.int .i64 x1,.string x2,.int .i64 x3,.string x4,.bool x5] 44));replace HB:=am_ (p3_ HB.out (.cells #[.int .i64 x0,.int .i64 x1,.string x2,.int .i64 x3,.string x4,.bool x5] 44));(try clear u0 u1 u2 u3 u4 u5 u6);(try clear v0 v1 v2 v3 v4);have u0:=bc_ BK.out 0;have u1:=bc_ BK.out 1;have u2:=bc_ BK.out 2;have u3:=bc_ BK.out 3;have u4:=bc_ BK.out 4;have u5:=bc_ BK.out 5;have u6:=bc_ BK.out 6;have v0:=bc_ BQ.out 0;have v1:=bc_ BQ.out 1;have v2:=bc_ BQ.out 2;have v3:=bc_ BQ.out 3;have v4:=bc_ BQ.out 4;have z0:=bc_ BX.out 0;have z1:=bc_ BX.out 1;have z2:=bc_ BX.out 2;have z3:=bc_ BX.out 3;have z4:=bc_ BX.out 4;have z5:=bc_ BX.out 5)|(go_at_call 22;(with_reducible refine (C6.out _ (by repeat (with_reducible first|exact HB.out|apply p3_|apply p1_|apply p2_)) (by (with_reducible repeat (first|exact BK.out|refine k2_ ?_ _|refine k3_ ?_|refine k1_ ?_ _)))).mono ?_);rintro e w6 ⟨rfl,hb2⟩;replace BK:=am_ (kb_ (show _ from (by (with_reducible repeat (first|exact BK.out|refine k2_ ?_ _|refine k3_ ?_|refine k1_ ?_ _)))) hb2);replace BQ:=am_ (kb_ (show _ from (by (with_reducible repeat (first|exact BQ.out|refine k2_ ?_ _|refine k3_ ?_|refine k1_ ?_ _)))) hb2);replace BX:=am_ (kb_ (show _ from (by (with_reducible repeat (first|exact BX.out|refine k2_ ?_ _|refine k3_ ?_|refine k1_ ?_ _)))) hb2);replace HB:=am_ (bt_ (show Below w.heap.size w _ from (by repeat (with_reducible first|exact HB.out|apply p3_|apply p1_|apply p2_))) hb2);clear hb2;(try clear u0 u1 u2 u3 u4 u5 u6);(try clear v0 v1 v2 v3 v4);have u0:=bc_ BK.out 0;have u1:=bc_ BK.out 1;have u2:=bc_ BK.out 2;have u3:=bc_ BK.out 3;have u4:=bc_ BK.out 4;have u5:=bc_ BK.out 5;have u6:=bc_ BK.out 6;have v0:=bc_ BQ.out 0;have v1:=bc_ BQ.out 1;have v2:=bc_ BQ.out 2;have v3:=bc_ BQ.out 3;have v4:=bc_ BQ.out 4;(try clear z0 z1 z2 z3 z4 z5);have z0:=bc_ BX.out 0;have z1:=bc_ BX.out 1;have z2:=bc_ BX.out 2;have z3:=bc_ BX.out 3;have z4:=bc_ BX.out 4;have z5:=bc_ BX.out 5)|(go_at_call 21;(with_reducible refine (C7.out _ _ (by (with_reducible repeat (first|exact BQ.out|refine k2_ ?_ _|refine k3_ ?_|refine k1_ ?_ _))) (by (with_reducible repeat (first|exact BX.out|refine k2_ ?_ _|refine k3_ ?_|refine k1_ ?_ _)))).mono ?_);rintro e w7 ⟨rfl,hb2⟩;replace BK:=am_ (kb_ (show _ from (by (with_reducible repeat (first|exact BK.out|refine k2_ ?_ _|refine k3_ ?_|refine k1_ ?_ _)))) hb2);replace BQ:=am_ (kb_ (show _ from (by (with_reducible repeat (first|exact BQ.out|refine k2_ ?_ _|refine k3_ ?_|refine k1_ ?_ _)))) hb2);replace BX:=am_ (kb_ (show _ from (by (with_reducible repeat (first|exact BX.out|refine k2_ ?_ _|refine k3_ ?_|refine k1_ ?_ _)))) hb2);replace HB:=am_ (bt_ (show Below w.heap.size w _ from (by repeat (with_reducible first|exact HB.out|apply p3_|apply p1_|apply p2_))) hb2);clear hb2;(try clear u0 u1 u2 u3 u4 u5 u6);(try clear v0 v1 v2 v3 v4);have u0:=bc_ BK.out 0;have u1:=bc_ BK.out 1;have u2:=bc_ BK.out 2;have u3:=bc_ BK.out 3;have u4:=bc_ BK.out 4;have u5:=bc_ BK.out 5;have u6:=bc_ BK.out 6;have v0:=bc_ BQ.out 0;have v1:=bc_ BQ.out 1;have v2:=bc_ BQ.out 2;have v3:=bc_ BQ.out 3;have v4:=bc_ BQ.out 4;(try clear z0 z1 z2 z3 z4 z5);have z0:=bc_ BX.out 0;have z1:=bc_ BX.out 1;have z2:=bc_ BX.out 2;have z3:=bc_ BX.out 3;have z4:=bc_ BX.out 4;have z5:=bc_ BX.out 5)
     | ((with_reducible refine gate_builtin (b:=.append) (xs:=#[.const (.slice none 0 0),.tmp 49]) rfl ?_);at_builtin;refine Kd.R_append_rows k44 (w0:=w) w.heap.size rfl (.const (.slice none 0 0)) (.tmp 49) 27 44 (.agg #[.int .i64 0,.int .i64 0,.string ⟨#[]⟩,.int .i64 0,.string ⟨#[]⟩,.bool false]) 64 rfl Tryz.underlying27 claim_Claim.info rfl (by decide) (by omega) (.slice none 0 0) [] l1 _ _ _ (fun _=>True) (fun _=>False) rfl rfl ?aO ?aR (fun _ _ h=>h) (fun _ h=>h.elim) ?aF ?aB ?aS ?aL ?_;(case aR=>exact c4_ HR1.out (by repeat (with_reducible first|exact HB.out|apply p3_|apply p1_|apply p2_)));(case aB=>exact (by repeat (with_reducible first|exact HB.out|apply p3_|apply p1_|apply p2_)));(case aF=>exact (fun _ _=>trivial));(case aO=>exact Kd.R_nil _ _ _ _ _);(case aS=>exact (bz_ (by repeat (with_reducible first|exact HB.out|apply p3_|apply p1_|apply p2_))));(case aL=>simp;omega);intro v107 w9 ho hb hg hat;rw [List.nil_append] at ho;clear hg hat))
    ((try simp only [Exit.inBlock,Exit.then]);refine bodyPost_ret (results_tmp4 rfl _ _ _) rfl ?_)
    exact ⟨_,rfl,ho,hb⟩
 subst k1
 rw [if_pos rfl,hx] at h
 obtain ⟨rfl,h5⟩:=Prod.mk.inj h
 obtain ⟨rfl,h6⟩:=Prod.mk.inj h5
 obtain ⟨rfl,rfl⟩:=Prod.mk.inj h6
 clear h6 h5 h hkis
 have hcl:=client_parts hm.2.2.2.2.2
 obtain ⟨xx,hxx⟩:=got_found hcl.1 (by rw [hx];exact hown rfl)
 rcases htold with ⟨e,_⟩|⟨_,_,_,_,⟨_,x',e1,hx',hk',ea,hbok,ht'⟩|⟨e,_⟩⟩
 ·exact absurd e (by decide)
 rotate_left
 ·exact absurd rfl e
 have ex':x'=⟨x0,x1,x2,x3,x4,x5⟩:=by
  have e2:gotL (findL l1 hh)=x':=by rw [hx'];rfl
  rw [←e2,hx]
 subst ex'
 have hD:tableB (dropL (fun _=>true) a3 a2 hh l1)=true:=table_drop hT
 have hrow:(putL (dropL (fun _=>true) a3 a2 hh l1) (boundL (freeB a0_0 a0_1 l0_2 l0_3 a0_4 a0_5 l0_6 l1 a2 a3) hh (a2+a0_4) a3 (keptN q4 ⟨x0,x1,x2,x3,x4,x5⟩ a3))).length=l1.length:=(claim_row (p:=fun _=>true) (c:=a3) (now:=a2) (b:=boundL (freeB a0_0 a0_1 l0_2 l0_3 a0_4 a0_5 l0_6 l1 a2 a3) hh (a2+a0_4) a3 (keptN q4 ⟨x0,x1,x2,x3,x4,x5⟩ a3)) hT hx').2
 have hput:=with_put (dropL (fun _=>true) a3 a2 hh l1) (boundL (freeB a0_0 a0_1 l0_2 l0_3 a0_4 a0_5 l0_6 l1 a2 a3) hh (a2+a0_4) a3 (keptN q4 ⟨x0,x1,x2,x3,x4,x5⟩ a3)) hD hbok
 have hDl:(dropL (fun _=>true) a3 a2 hh l1).length=l1.length:=by unfold dropL;rw [List.length_map]
 have hl8:=(table_sorted hT).2.2
 have ha4:1≤a0_4∧a0_4≤1048576:=by
  have h1:=hm.2.2.1
  unfold confB at h1
  simp only [Bool.and_eq_true,decide_eq_true_eq] at h1
  exact h1.2.1
 have CD:=am_ (fun W (hb:Below w.heap.size w W)=>offer_Drop.calls (fun _=>true) 20 #[] A1 c1 l1 a2 a3 hh W (c4_ hr1 hb) hc1 ⟨by omega,hs.2.2⟩ (fun args w=>enters_ Tryz.func20 (by kernel_rfl) rfl args w) (fun W gl x hx=>claim_Claim.every gl W))
 have C8:=am_ (fun W (gl:Nat) (hb:Below w.heap.size w W) (bk:W.heap[w.heap.size]?=some (.cells #[.int .i64 a0_0,.int .i64 a0_1,.slice A0_2 l0_2.length c0_2,.slice A0_3 l0_3.length c0_3,.int .i64 a0_4,.string a0_5,.slice A0_6 l0_6.length c0_6] 26)) (bq:W.heap[w.heap.size+1]?=some (.cells #[.bool q0,.int .i64 q1,.int .i64 q2,.int .i64 q3,.string q4] 29)) (bx:W.heap[gl]?=some (.cells #[.int .i64 x0,.int .i64 x1,.string x2,.int .i64 x3,.string x4,.bool x5] 44))=>claim_bound.calls w.heap.size (w.heap.size+1) gl a0_0 a0_1 A0_2 c0_2 l0_2 A0_3 c0_3 l0_3 a0_4 a0_5 A0_6 c0_6 l0_6 A1 c1 l1 a2 a3 q0 q1 q2 q3 q4 x0 x1 x2 x3 x4 x5 hh W bk bq bx (c4_ hr0_2 hb) hc0_2 (c4_ hr0_3 hb) hc0_3 (c4_ hr0_6 hb) hc0_6 (c4_ hr1 hb) hc1 ⟨⟨hs.1,hKs⟩,hs.2⟩ hn ha4)
 have CT:=am_ (fun W A c (h1:Kd.C k44 W A (dropL (fun _=>true) a3 a2 hh l1).length (dropL (fun _=>true) a3 a2 hh l1)) (h2:(dropL (fun _=>true) a3 a2 hh l1).length≤c)=>table_With.calls A c (dropL (fun _=>true) a3 a2 hh l1) hh 2 a3 (a2+a0_4) (keptN q4 ⟨x0,x1,x2,x3,x4,x5⟩ a3) (freeB a0_0 a0_1 l0_2 l0_3 a0_4 a0_5 l0_6 l1 a2 a3 (keptN q4 ⟨x0,x1,x2,x3,x4,x5⟩ a3) && decide ((keptN q4 ⟨x0,x1,x2,x3,x4,x5⟩ a3).toList≠[])) (putL (dropL (fun _=>true) a3 a2 hh l1) (boundL (freeB a0_0 a0_1 l0_2 l0_3 a0_4 a0_5 l0_6 l1 a2 a3) hh (a2+a0_4) a3 (keptN q4 ⟨x0,x1,x2,x3,x4,x5⟩ a3))) 0 W h1 h2 (by
  have hfit1:tabFit (dropL (fun _=>true) a3 a2 hh l1):=by have:=table_fitr hD;exact ⟨this.1,fun x hx=>by have:=this.2 x hx;omega⟩
  have hfit2:tabFit (putL (dropL (fun _=>true) a3 a2 hh l1) (boundL (freeB a0_0 a0_1 l0_2 l0_3 a0_4 a0_5 l0_6 l1 a2 a3) hh (a2+a0_4) a3 (keptN q4 ⟨x0,x1,x2,x3,x4,x5⟩ a3))):=by
   have hmem:=putfit (dropL (fun _=>true) a3 a2 hh l1) (boundL (freeB a0_0 a0_1 l0_2 l0_3 a0_4 a0_5 l0_6 l1 a2 a3) hh (a2+a0_4) a3 (keptN q4 ⟨x0,x1,x2,x3,x4,x5⟩ a3)) 140737488351232 hfit1.2 hKs
   exact ⟨by have:=hmem.1;omega,hmem.2⟩
  have eb:(⟨hh,2,a3,a2+a0_4,keptN q4 ⟨x0,x1,x2,x3,x4,x5⟩ a3,freeB a0_0 a0_1 l0_2 l0_3 a0_4 a0_5 l0_6 l1 a2 a3 (keptN q4 ⟨x0,x1,x2,x3,x4,x5⟩ a3) && decide ((keptN q4 ⟨x0,x1,x2,x3,x4,x5⟩ a3).toList≠[])⟩:S44)=boundL (freeB a0_0 a0_1 l0_2 l0_3 a0_4 a0_5 l0_6 l1 a2 a3) hh (a2+a0_4) a3 (keptN q4 ⟨x0,x1,x2,x3,x4,x5⟩ a3):=rfl
  unfold table_With.f table_May_c.f
  rw [if_pos (by omega),if_pos hfit1,hD,Option.bind_some,if_pos rfl,eb,hput,if_pos hfit2,Option.bind_some,table_put hD hbok,hrow,decide_eq_true hl8,if_pos rfl]))
 have hix2:isx=true:=by rw [←hix,hx'];rfl
 generalize hKK:keptN q4 ⟨x0,x1,x2,x3,x4,x5⟩ a3=KK at C8 CT ⊢
 generalize putL (dropL (fun _=>true) a3 a2 hh l1) (boundL (freeB a0_0 a0_1 l0_2 l0_3 a0_4 a0_5 l0_6 l1 a2 a3) hh (a2+a0_4) a3 KK)=OUT at CT ⊢
 generalize dropL (fun _=>true) a3 a2 hh l1=D at CD CT
 generalize (freeB a0_0 a0_1 l0_2 l0_3 a0_4 a0_5 l0_6 l1 a2 a3 KK && decide (KK.toList≠[]))=WON at C8 CT
 clear hKK hix hix2 hrow hput hDl hD hbok ht' hk' hx' e1 hxx hcl h1 h2 h3 hs hq hr0_2 hr0_3 hr0_6 hc0_2 hc0_3 hc0_6 hr1 hc1 hm hT hhh hx hsz hlt hk hown hKs hn
 go_enter Tryz.func6,Tryz.ntmps6
 go_wp2_with (first
  | (go_at_call 15;(try rw [hW2]);(with_reducible refine (C1.out _ (by repeat (with_reducible first|exact HB.out|apply p3_|apply p1_|apply p2_)) (by (with_reducible repeat (first|exact BK.out|refine k2_ ?_ _|refine k3_ ?_|refine k1_ ?_ _)))).mono ?_);rintro e w1 ⟨rfl,hb2⟩;replace BK:=am_ (kb_ (show _ from (by (with_reducible repeat (first|exact BK.out|refine k2_ ?_ _|refine k3_ ?_|refine k1_ ?_ _)))) hb2);replace BQ:=am_ (kb_ (show _ from (by (with_reducible repeat (first|exact BQ.out|refine k2_ ?_ _|refine k3_ ?_|refine k1_ ?_ _)))) hb2);replace HB:=am_ (bt_ (show Below w.heap.size w _ from (by repeat (with_reducible first|exact HB.out|apply p3_|apply p1_|apply p2_))) hb2);clear hb2;(try clear u0 u1 u2 u3 u4 u5 u6);(try clear v0 v1 v2 v3 v4);have u0:=bc_ BK.out 0;have u1:=bc_ BK.out 1;have u2:=bc_ BK.out 2;have u3:=bc_ BK.out 3;have u4:=bc_ BK.out 4;have u5:=bc_ BK.out 5;have u6:=bc_ BK.out 6;have v0:=bc_ BQ.out 0;have v1:=bc_ BQ.out 1;have v2:=bc_ BQ.out 2;have v3:=bc_ BQ.out 3;have v4:=bc_ BQ.out 4)|(go_at_call 16;(with_reducible refine (C2.out _).mono ?_);rintro e w2 ⟨rfl,⟨nd,rfl⟩⟩;replace BK:=am_ (k2_ BK.out nd);replace BQ:=am_ (k2_ BQ.out nd);replace HB:=am_ (p1_ HB.out nd))|(go_at_call 17;(with_reducible refine (C3.out _ (by (with_reducible repeat (first|exact BQ.out|refine k2_ ?_ _|refine k3_ ?_|refine k1_ ?_ _)))).mono ?_);rintro e w3 ⟨rfl,hb2⟩;replace BK:=am_ (kb_ (show _ from (by (with_reducible repeat (first|exact BK.out|refine k2_ ?_ _|refine k3_ ?_|refine k1_ ?_ _)))) hb2);replace BQ:=am_ (kb_ (show _ from (by (with_reducible repeat (first|exact BQ.out|refine k2_ ?_ _|refine k3_ ?_|refine k1_ ?_ _)))) hb2);replace HB:=am_ (bt_ (show Below w.heap.size w _ from (by repeat (with_reducible first|exact HB.out|apply p3_|apply p1_|apply p2_))) hb2);clear hb2;(try clear u0 u1 u2 u3 u4 u5 u6);(try clear v0 v1 v2 v3 v4);have u0:=bc_ BK.out 0;have u1:=bc_ BK.out 1;have u2:=bc_ BK.out 2;have u3:=bc_ BK.out 3;have u4:=bc_ BK.out 4;have u5:=bc_ BK.out 5;have u6:=bc_ BK.out 6;have v0:=bc_ BQ.out 0;have v1:=bc_ BQ.out 1;have v2:=bc_ BQ.out 2;have v3:=bc_ BQ.out 3;have v4:=bc_ BQ.out 4)|(go_at_call 18;(with_reducible refine (C4.out _ (by (with_reducible repeat (first|exact BQ.out|refine k2_ ?_ _|refine k3_ ?_|refine k1_ ?_ _)))).mono ?_);rintro e w4 ⟨rfl,hb2⟩;replace BK:=am_ (kb_ (show _ from (by (with_reducible repeat (first|exact BK.out|refine k2_ ?_ _|refine k3_ ?_|refine k1_ ?_ _)))) hb2);replace BQ:=am_ (kb_ (show _ from (by (with_reducible repeat (first|exact BQ.out|refine k2_ ?_ _|refine k3_ ?_|refine k1_ ?_ _)))) hb2);replace HB:=am_ (bt_ (show Below w.heap.size w _ from (by repeat (with_reducible first|exact HB.out|apply p3_|apply p1_|apply p2_))) hb2);clear hb2;(try clear u0 u1 u2 u3 u4 u5 u6);(try clear v0 v1 v2 v3 v4);have u0:=bc_ BK.out 0;have u1:=bc_ BK.out 1;have u2:=bc_ BK.out 2;have u3:=bc_ BK.out 3;have u4:=bc_ BK.out 4;have u5:=bc_ BK.out 5;have u6:=bc_ BK.out 6;have v0:=bc_ BQ.out 0;have v1:=bc_ BQ.out 1;have v2:=bc_ BQ.out 2;have v3:=bc_ BQ.out 3;have v4:=bc_ BQ.out 4)|(go_at_call 19;(with_reducible refine (C5.out _ (by repeat (with_reducible first|exact HB.out|apply p3_|apply p1_|apply p2_))).mono ?_);rintro e w5 ⟨rfl,hb2⟩;replace BK:=am_ (kb_ (show _ from (by (with_reducible repeat (first|exact BK.out|refine k2_ ?_ _|refine k3_ ?_|refine k1_ ?_ _)))) hb2);replace BQ:=am_ (kb_ (show _ from (by (with_reducible repeat (first|exact BQ.out|refine k2_ ?_ _|refine k3_ ?_|refine k1_ ?_ _)))) hb2);replace HB:=am_ (bt_ (show Below w.heap.size w _ from (by repeat (with_reducible first|exact HB.out|apply p3_|apply p1_|apply p2_))) hb2);clear hb2;have BX:=am_ (blk_new w5 (.cells #[.int .i64 x0,.int .i64 x1,.string x2,.int .i64 x3,.string x4,.bool x5] 44));replace BK:=am_ (k1_ BK.out (.cells #[.int .i64 x0,.int .i64 x1,.string x2,.int .i64 x3,.string x4,.bool x5] 44));replace BQ:=am_ (k1_ BQ.out (.cells #[.int .i64 x0,.int .i64 x1,.string x2,.int .i64 x3,.string x4,.bool x5] 44));replace HB:=am_ (p3_ HB.out (.cells #[.int .i64 x0,.int .i64 x1,.string x2,.int .i64 x3,.string x4,.bool x5] 44));(try clear u0 u1 u2 u3 u4 u5 u6);(try clear v0 v1 v2 v3 v4);have u0:=bc_ BK.out 0;have u1:=bc_ BK.out 1;have u2:=bc_ BK.out 2;have u3:=bc_ BK.out 3;have u4:=bc_ BK.out 4;have u5:=bc_ BK.out 5;have u6:=bc_ BK.out 6;have v0:=bc_ BQ.out 0;have v1:=bc_ BQ.out 1;have v2:=bc_ BQ.out 2;have v3:=bc_ BQ.out 3;have v4:=bc_ BQ.out 4;have z0:=bc_ BX.out 0;have z1:=bc_ BX.out 1;have z2:=bc_ BX.out 2;have z3:=bc_ BX.out 3;have z4:=bc_ BX.out 4;have z5:=bc_ BX.out 5)|(go_at_call 22;(with_reducible refine (C6.out _ (by repeat (with_reducible first|exact HB.out|apply p3_|apply p1_|apply p2_)) (by (with_reducible repeat (first|exact BK.out|refine k2_ ?_ _|refine k3_ ?_|refine k1_ ?_ _)))).mono ?_);rintro e w6 ⟨rfl,hb2⟩;replace BK:=am_ (kb_ (show _ from (by (with_reducible repeat (first|exact BK.out|refine k2_ ?_ _|refine k3_ ?_|refine k1_ ?_ _)))) hb2);replace BQ:=am_ (kb_ (show _ from (by (with_reducible repeat (first|exact BQ.out|refine k2_ ?_ _|refine k3_ ?_|refine k1_ ?_ _)))) hb2);replace BX:=am_ (kb_ (show _ from (by (with_reducible repeat (first|exact BX.out|refine k2_ ?_ _|refine k3_ ?_|refine k1_ ?_ _)))) hb2);replace HB:=am_ (bt_ (show Below w.heap.size w _ from (by repeat (with_reducible first|exact HB.out|apply p3_|apply p1_|apply p2_))) hb2);clear hb2;(try clear u0 u1 u2 u3 u4 u5 u6);(try clear v0 v1 v2 v3 v4);have u0:=bc_ BK.out 0;have u1:=bc_ BK.out 1;have u2:=bc_ BK.out 2;have u3:=bc_ BK.out 3;have u4:=bc_ BK.out 4;have u5:=bc_ BK.out 5;have u6:=bc_ BK.out 6;have v0:=bc_ BQ.out 0;have v1:=bc_ BQ.out 1;have v2:=bc_ BQ.out 2;have v3:=bc_ BQ.out 3;have v4:=bc_ BQ.out 4;(try clear z0 z1 z2 z3 z4 z5);have z0:=bc_ BX.out 0;have z1:=bc_ BX.out 1;have z2:=bc_ BX.out 2;have z3:=bc_ BX.out 3;have z4:=bc_ BX.out 4;have z5:=bc_ BX.out 5)|(go_at_call 21;(with_reducible refine (C7.out _ _ (by (with_reducible repeat (first|exact BQ.out|refine k2_ ?_ _|refine k3_ ?_|refine k1_ ?_ _))) (by (with_reducible repeat (first|exact BX.out|refine k2_ ?_ _|refine k3_ ?_|refine k1_ ?_ _)))).mono ?_);rintro e w7 ⟨rfl,hb2⟩;replace BK:=am_ (kb_ (show _ from (by (with_reducible repeat (first|exact BK.out|refine k2_ ?_ _|refine k3_ ?_|refine k1_ ?_ _)))) hb2);replace BQ:=am_ (kb_ (show _ from (by (with_reducible repeat (first|exact BQ.out|refine k2_ ?_ _|refine k3_ ?_|refine k1_ ?_ _)))) hb2);replace BX:=am_ (kb_ (show _ from (by (with_reducible repeat (first|exact BX.out|refine k2_ ?_ _|refine k3_ ?_|refine k1_ ?_ _)))) hb2);replace HB:=am_ (bt_ (show Below w.heap.size w _ from (by repeat (with_reducible first|exact HB.out|apply p3_|apply p1_|apply p2_))) hb2);clear hb2;(try clear u0 u1 u2 u3 u4 u5 u6);(try clear v0 v1 v2 v3 v4);have u0:=bc_ BK.out 0;have u1:=bc_ BK.out 1;have u2:=bc_ BK.out 2;have u3:=bc_ BK.out 3;have u4:=bc_ BK.out 4;have u5:=bc_ BK.out 5;have u6:=bc_ BK.out 6;have v0:=bc_ BQ.out 0;have v1:=bc_ BQ.out 1;have v2:=bc_ BQ.out 2;have v3:=bc_ BQ.out 3;have v4:=bc_ BQ.out 4;(try clear z0 z1 z2 z3 z4 z5);have z0:=bc_ BX.out 0;have z1:=bc_ BX.out 1;have z2:=bc_ BX.out 2;have z3:=bc_ BX.out 3;have z4:=bc_ BX.out 4;have z5:=bc_ BX.out 5)
  | (go_at_call 24;(with_reducible refine (CD.out _ (by repeat (with_reducible first|exact HB.out|apply p3_|apply p1_|apply p2_))).mono ?_);rintro e w8 ⟨v,rfl,hv,hb2⟩;obtain ⟨AD,cd,rfl,hcd,hD⟩:=Kd.R_reads hv;have HV:=am_ (Kd.R_lower hv (show w.heap.size≤_ from (show Below w.heap.size w _ from (by repeat (with_reducible first|exact HB.out|apply p3_|apply p1_|apply p2_))).size));have HD:=am_ hD;have HCD:=am_ hcd;replace BK:=am_ (kb_ (show _ from (by (with_reducible repeat (first|exact BK.out|refine k2_ ?_ _|refine k3_ ?_|refine k1_ ?_ _)))) hb2);replace BQ:=am_ (kb_ (show _ from (by (with_reducible repeat (first|exact BQ.out|refine k2_ ?_ _|refine k3_ ?_|refine k1_ ?_ _)))) hb2);replace BX:=am_ (kb_ (show _ from (by (with_reducible repeat (first|exact BX.out|refine k2_ ?_ _|refine k3_ ?_|refine k1_ ?_ _)))) hb2);replace HB:=am_ (bt_ (show Below w.heap.size w _ from (by repeat (with_reducible first|exact HB.out|apply p3_|apply p1_|apply p2_))) hb2);clear hb2 hv hD hcd)
  | (go_at_call 25;(with_reducible refine (C8.out _ _ (by repeat (with_reducible first|exact HB.out|apply p3_|apply p1_|apply p2_)) (by (with_reducible repeat (first|exact BK.out|refine k2_ ?_ _|refine k3_ ?_|refine k1_ ?_ _))) (by (with_reducible repeat (first|exact BQ.out|refine k2_ ?_ _|refine k3_ ?_|refine k1_ ?_ _))) (by (with_reducible repeat (first|exact BX.out|refine k2_ ?_ _|refine k3_ ?_|refine k1_ ?_ _)))).mono ?_);rintro e w9 ⟨rfl,hb2⟩;replace HD:=am_ (c4_ HD.out hb2);replace BK:=am_ (kb_ (show _ from (by (with_reducible repeat (first|exact BK.out|refine k2_ ?_ _|refine k3_ ?_|refine k1_ ?_ _)))) hb2);replace BQ:=am_ (kb_ (show _ from (by (with_reducible repeat (first|exact BQ.out|refine k2_ ?_ _|refine k3_ ?_|refine k1_ ?_ _)))) hb2);replace BX:=am_ (kb_ (show _ from (by (with_reducible repeat (first|exact BX.out|refine k2_ ?_ _|refine k3_ ?_|refine k1_ ?_ _)))) hb2);replace HB:=am_ (bt_ (show Below w.heap.size w _ from (by repeat (with_reducible first|exact HB.out|apply p3_|apply p1_|apply p2_))) hb2);clear hb2)
  | (go_at_call 23;(with_reducible refine (CT.out _ _ _ HD.out HCD.out).mono ?_);rintro e w10 ⟨v7,rfl,hv7,hb2⟩;have HV7:=am_ (Kd.R_lower hv7 (show w.heap.size≤_ from HB.out.size));replace HB:=am_ (bt_ HB.out hb2);clear hb2 hv7))
 ((try simp only [Exit.inBlock,Exit.then]);refine bodyPost_ret (results_tmp4 rfl _ _ _) rfl ?_)
 exact ⟨_,rfl,HV7.out,HB.out⟩

end Go.Proofs.YtibalpbkmgegnaaGreatDoor.PL
