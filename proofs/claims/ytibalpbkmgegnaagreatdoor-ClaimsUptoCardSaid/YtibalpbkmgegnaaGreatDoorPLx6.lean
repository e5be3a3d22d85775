-- Made by wip/pr.py out of the translation (a turned copy of the kit's print; contracts by hand where said).
import Derived.Test.YtibalpbkmgegnaaGreatDoorPLx0
import Derived.Test.YtibalpbkmgegnaaGreatDoorPLx4
namespace Go.Proofs.YtibalpbkmgegnaaGreatDoor.PL
open Go.RowKit Go.Proofs.YtibalpbkmgegnaaGreatDoorW.PrintWords Go.Proofs.YtibalpbkmgegnaaGreatDoorW.PrintLast Go.Proofs.YtibalpbkmgegnaaGreatDoorW.PrintMore
-- shrunk
attribute [local go_sem] max2_int min2_int max_two min_two max_three min_three max_four min_four   -- for this text's walks alone
set_option linter.unusedVariables false
set_option linter.unusedSimpArgs false
set_option maxHeartbeats 8000000
set_option maxRecDepth 100000

/-! ### pinfoldlaw0_CopyConfig: function 4 -/
def pinfoldlaw0_CopyConfig.f (a0_0:Int) (a0_1:Int) (l0_2:List Int) (l0_3:List (S95)) (a0_4:Int) (a0_5:ByteArray) (l0_6:List (S93)):Option (Int×Int×List Int×(List (S95))×Int×ByteArray×(List (S93))):=(some (([]:List Int):List Int)).bind fun y103=>(if y103.length+l0_2.length < 17592186044416 then ((some (([]:List (S95)):List (S95))).bind fun y109=>(if y109.length+l0_3.length < 5864062014805 then ((some (([]:List (S93)):List (S93))).bind fun y115=>(if y115.length+l0_6.length < 1759218604441 then (some (a0_0,a0_1,(y103 ++ l0_2),(y109 ++ l0_3),a0_4,a0_5,(y115 ++ l0_6))) else (none))) else (none))) else (none))
theorem pinfoldlaw0_CopyConfig.calls (a0_0:Int) (a0_1:Int) (A0_2:Option Addr) (c0_2:Nat) (l0_2:List Int) (A0_3:Option Addr) (c0_3:Nat) (l0_3:List (S95)) (a0_4:Int) (a0_5:ByteArray) (A0_6:Option Addr) (c0_6:Nat) (l0_6:List (S93)) (r1:Int) (r2:Int) (r3:List Int) (r4:List (S95)) (r5:Int) (r6:ByteArray) (r7:List (S93)) (w:World) (hr0_2:Kd.C (Kd.int .i64) w A0_2 l0_2.length l0_2) (hc0_2:l0_2.length≤c0_2) (hr0_3:Kd.C k95 w A0_3 l0_3.length l0_3) (hc0_3:l0_3.length≤c0_3) (hr0_6:Kd.C k93 w A0_6 l0_6.length l0_6) (hc0_6:l0_6.length≤c0_6) (h:pinfoldlaw0_CopyConfig.f a0_0 a0_1 l0_2 l0_3 a0_4 a0_5 l0_6=some (r1,r2,r3,r4,r5,r6,r7)) :
  Calls Tryz.prog 4 #[.agg #[.int .i64 a0_0,.int .i64 a0_1,.slice A0_2 l0_2.length c0_2,.slice A0_3 l0_3.length c0_3,.int .i64 a0_4,.string a0_5,.slice A0_6 l0_6.length c0_6]] w fun e w'=>∃ v2_ v3_ v6_:Value,e=.returned (.agg #[.int .i64 r1,.int .i64 r2,v2_,v3_,.int .i64 r5,.string r6,v6_])∧Kd.R (Kd.int .i64) 3 w' w.heap.size (fun _=>True) v2_ r3∧Kd.R k95 95 w' w.heap.size (fun _=>True) v3_ r4∧Kd.R k93 93 w' w.heap.size (fun _=>True) v6_ r7∧Below w.heap.size w w':=by
 have hu26:=Tryz.underlying26
 have HR0_2:=am_ hr0_2
 have HC0_2:=am_ hc0_2
 clear hr0_2 hc0_2
 have HR0_3:=am_ hr0_3
 have HC0_3:=am_ hc0_3
 clear hr0_3 hc0_3
 have HR0_6:=am_ hr0_6
 have HC0_6:=am_ hc0_6
 clear hr0_6 hc0_6
 have HB:=am_ (Below.refl w.heap.size w)
 have H:((some (([]:List Int):List Int)).bind fun y103=>(if y103.length+l0_2.length < 17592186044416 then ((some (([]:List (S95)):List (S95))).bind fun y109=>(if y109.length+l0_3.length < 5864062014805 then ((some (([]:List (S93)):List (S93))).bind fun y115=>(if y115.length+l0_6.length < 1759218604441 then (some (a0_0,a0_1,(y103 ++ l0_2),(y109 ++ l0_3),a0_4,a0_5,(y115 ++ l0_6))) else (none))) else (none))) else (none)))=some (r1,r2,r3,r4,r5,r6,r7):=h
 clear h
 obtain ⟨y103,hy103⟩:∃ y_:List Int,y_=(([]:List Int)):=⟨_,rfl⟩
 replace H:(if y103.length+l0_2.length < 17592186044416 then ((some (([]:List (S95)):List (S95))).bind fun y109=>(if y109.length+l0_3.length < 5864062014805 then ((some (([]:List (S93)):List (S93))).bind fun y115=>(if y115.length+l0_6.length < 1759218604441 then (some (a0_0,a0_1,(y103 ++ l0_2),(y109 ++ l0_3),a0_4,a0_5,(y115 ++ l0_6))) else (none))) else (none))) else (none))=some (r1,r2,r3,r4,r5,r6,r7):=by first|(rw [hy103];with_reducible exact H)|(have H2_:=(Option.bind_some _ _).symm.trans H;rw [hy103];with_reducible exact H2_)|(have H2_:=(Option.bind_some _ _).symm.trans H;with_reducible exact H2_)|with_reducible exact H|(rw [hy103];exact H)|exact H
 have Ny103:=am_ hy103
 clear hy103
 by_cases c2:y103.length+l0_2.length < 17592186044416
 rotate_left
 ·rw [if_neg c2] at H
  exact absurd H (by simp)
 rw [if_pos c2] at H
 have LMc2:=am_ c2
 clear c2
 obtain ⟨y106,hy106⟩:∃ y_:List Int,y_=(y103 ++ l0_2):=⟨_,rfl⟩
 replace H:((some (([]:List (S95)):List (S95))).bind fun y109=>(if y109.length+l0_3.length < 5864062014805 then ((some (([]:List (S93)):List (S93))).bind fun y115=>(if y115.length+l0_6.length < 1759218604441 then (some (a0_0,a0_1,y106,(y109 ++ l0_3),a0_4,a0_5,(y115 ++ l0_6))) else (none))) else (none)))=some (r1,r2,r3,r4,r5,r6,r7):=by first|(rw [hy106];with_reducible exact H)|(have H2_:=(Option.bind_some _ _).symm.trans H;rw [hy106];with_reducible exact H2_)|(have H2_:=(Option.bind_some _ _).symm.trans H;with_reducible exact H2_)|with_reducible exact H|(rw [hy106];exact H)|exact H
 have Ny106:=am_ hy106
 clear hy106
 obtain ⟨y109,hy109⟩:∃ y_:List (S95),y_=(([]:List (S95))):=⟨_,rfl⟩
 replace H:(if y109.length+l0_3.length < 5864062014805 then ((some (([]:List (S93)):List (S93))).bind fun y115=>(if y115.length+l0_6.length < 1759218604441 then (some (a0_0,a0_1,y106,(y109 ++ l0_3),a0_4,a0_5,(y115 ++ l0_6))) else (none))) else (none))=some (r1,r2,r3,r4,r5,r6,r7):=by first|(rw [hy109];with_reducible exact H)|(have H2_:=(Option.bind_some _ _).symm.trans H;rw [hy109];with_reducible exact H2_)|(have H2_:=(Option.bind_some _ _).symm.trans H;with_reducible exact H2_)|with_reducible exact H|(rw [hy109];exact H)|exact H
 have Ny109:=am_ hy109
 clear hy109
 by_cases c3:y109.length+l0_3.length < 5864062014805
 rotate_left
 ·rw [if_neg c3] at H
  exact absurd H (by simp)
 rw [if_pos c3] at H
 have LMc3:=am_ c3
 clear c3
 obtain ⟨y112,hy112⟩:∃ y_:List (S95),y_=(y109 ++ l0_3):=⟨_,rfl⟩
 replace H:((some (([]:List (S93)):List (S93))).bind fun y115=>(if y115.length+l0_6.length < 1759218604441 then (some (a0_0,a0_1,y106,y112,a0_4,a0_5,(y115 ++ l0_6))) else (none)))=some (r1,r2,r3,r4,r5,r6,r7):=by first|(rw [hy112];with_reducible exact H)|(have H2_:=(Option.bind_some _ _).symm.trans H;rw [hy112];with_reducible exact H2_)|(have H2_:=(Option.bind_some _ _).symm.trans H;with_reducible exact H2_)|with_reducible exact H|(rw [hy112];exact H)|exact H
 have Ny112:=am_ hy112
 clear hy112
 obtain ⟨y115,hy115⟩:∃ y_:List (S93),y_=(([]:List (S93))):=⟨_,rfl⟩
 replace H:(if y115.length+l0_6.length < 1759218604441 then (some (a0_0,a0_1,y106,y112,a0_4,a0_5,(y115 ++ l0_6))) else (none))=some (r1,r2,r3,r4,r5,r6,r7):=by first|(rw [hy115];with_reducible exact H)|(have H2_:=(Option.bind_some _ _).symm.trans H;rw [hy115];with_reducible exact H2_)|(have H2_:=(Option.bind_some _ _).symm.trans H;with_reducible exact H2_)|with_reducible exact H|(rw [hy115];exact H)|exact H
 have Ny115:=am_ hy115
 clear hy115
 by_cases c4:y115.length+l0_6.length < 1759218604441
 rotate_left
 ·rw [if_neg c4] at H
  exact absurd H (by simp)
 rw [if_pos c4] at H
 have LMc4:=am_ c4
 clear c4
 obtain ⟨y118,hy118⟩:∃ y_:List (S93),y_=(y115 ++ l0_6):=⟨_,rfl⟩
 replace H:(some (a0_0,a0_1,y106,y112,a0_4,a0_5,y118))=some (r1,r2,r3,r4,r5,r6,r7):=by first|(rw [hy118];with_reducible exact H)|(have H2_:=(Option.bind_some _ _).symm.trans H;rw [hy118];with_reducible exact H2_)|(have H2_:=(Option.bind_some _ _).symm.trans H;with_reducible exact H2_)|with_reducible exact H|(rw [hy118];exact H)|exact H
 have Ny118:=am_ hy118
 clear hy118
 simp only [Option.some.injEq,Prod.mk.injEq] at H
 obtain ⟨rfl,rfl,rfl,rfl,rfl,rfl,rfl⟩:=H
 go_enter Tryz.func4,Tryz.ntmps4
 go_wp2_with (first|((with_reducible refine gate_dst (N:=1) rfl ?_);refine box_event ?hg (N:=1) ?hd (cs:=#[.int .i64 a0_0,.int .i64 a0_1,.slice A0_2 l0_2.length c0_2,.slice A0_3 l0_3.length c0_3,.int .i64 a0_4,.string a0_5,.slice A0_6 l0_6.length c0_6]) (t:=26) ?hr ?_;(case hd=>rfl);(case hg=>rfl);(case hr=>first|(go_simp;done)|(go_simp;rfl));intro gb101 hg w5 hbox hb;have n0_:=am_ (bt_ (by repeat (with_reducible first|exact HB.out|apply p3_|apply p1_|apply p2_)) hb);have n1_:=am_ (hbox);have n2_:=am_ ((by rw [hg];exact (bz_ (by repeat (with_reducible first|exact HB.out|apply p3_|apply p1_|apply p2_))):w.heap.size≤gb101));have n3_:=am_ ((by rw [hg];exact (bz_ (by repeat (with_reducible first|exact HB.out|apply p3_|apply p1_|apply p2_))):w.heap.size≤gb101));clear HB;have HB:=n0_;have BK101:=n1_;have GW101:=n2_;have GE101:=n3_;clear n0_ n1_ n2_ n3_;clear hb hbox hg)|((with_reducible refine gate_dst (N:=2) rfl ?_);refine box_event ?hg (N:=2) ?hd (cs:=#[.int .i64 0,.int .i64 0,.slice none 0 0,.slice none 0 0,.int .i64 0,.string (⟨#[]⟩:ByteArray),.slice none 0 0]) (t:=26) ?hr ?_;(case hd=>rfl);(case hg=>rfl);(case hr=>first|(go_simp;done)|(go_simp;rfl));intro gb102 hg w6 hbox hb;have n0_:=am_ (kb_ (g:=gb101) (o:=.cells #[.int .i64 a0_0,.int .i64 a0_1,.slice A0_2 l0_2.length c0_2,.slice A0_3 l0_3.length c0_3,.int .i64 a0_4,.string a0_5,.slice A0_6 l0_6.length c0_6] 26 (0,0)) (by (with_reducible repeat (first|refine k2_ ?_ _|refine k3_ ?_|refine k1_ ?_ _));exact BK101.out) hb);have n1_:=am_ (bt_ (by repeat (with_reducible first|exact HB.out|apply p3_|apply p1_|apply p2_|refine bs_ ?_ GE101.out)) hb);have n2_:=am_ (hbox);have n3_:=am_ ((by rw [hg];exact (bz_ (by repeat (with_reducible first|exact HB.out|apply p3_|apply p1_|apply p2_|refine bs_ ?_ GE101.out))):w.heap.size≤gb102));have n4_:=am_ ((by rw [hg];exact (bz_ (by repeat (with_reducible first|exact HB.out|apply p3_|apply p1_|apply p2_|refine bs_ ?_ GE101.out))):w.heap.size≤gb102));have n5_:=am_ ((by rw [hg];exact Nat.ne_of_lt (blk_lt (g:=gb101) (o:=.cells #[.int .i64 a0_0,.int .i64 a0_1,.slice A0_2 l0_2.length c0_2,.slice A0_3 l0_3.length c0_3,.int .i64 a0_4,.string a0_5,.slice A0_6 l0_6.length c0_6] 26 (0,0)) (by (with_reducible repeat (first|refine k2_ ?_ _|refine k3_ ?_|refine k1_ ?_ _));exact BK101.out)):gb101≠gb102));have n6_:=am_ ((by rw [hg];exact Nat.ne_of_gt (blk_lt (g:=gb101) (o:=.cells #[.int .i64 a0_0,.int .i64 a0_1,.slice A0_2 l0_2.length c0_2,.slice A0_3 l0_3.length c0_3,.int .i64 a0_4,.string a0_5,.slice A0_6 l0_6.length c0_6] 26 (0,0)) (by (with_reducible repeat (first|refine k2_ ?_ _|refine k3_ ?_|refine k1_ ?_ _));exact BK101.out)):gb102≠gb101));clear BK101;clear HB;have BK101:=n0_;have HB:=n1_;have BK102:=n2_;have GW102:=n3_;have GE102:=n4_;have NB101_102:=n5_;have NB102_101:=n6_;clear n0_ n1_ n2_ n3_ n4_ n5_ n6_;clear hb hbox hg)|((with_reducible refine gate_dst (N:=3) rfl ?_);refine Kd.R_lit (Kd.int .i64) _ 3 ?hg (N:=3) ?hd (xs:=([]:List Int)) (inner:=[]) (ok:=fun _=>True) (okp:=fun _=>True) ?hr ?hp (fun _ hk=>hk) trivial (Below.refl _ _) (Nat.le_refl _) (by simp) ?_;(case hd=>rfl);(case hg=>rfl);(case hr=>first|(go_simp;done)|(go_simp;rfl));(case hp=>exact (Reps.none _ _));intro v104 w7 ho8 hb hg_ hnew_;clear hg_ hnew_;(first|rw [←Ny103.out] at ho8|(simp only [Int.reduceToNat] at ho8;rw [←Ny103.out] at ho8));have n0_:=am_ (Kd.R_lower ho8 (bz_ (by repeat (with_reducible first|exact HB.out|apply p3_|apply p1_|apply p2_|refine bs_ ?_ GE101.out|refine bs_ ?_ GE102.out))));have n1_:=am_ (kb_ (g:=gb101) (o:=.cells #[.int .i64 a0_0,.int .i64 a0_1,.slice A0_2 l0_2.length c0_2,.slice A0_3 l0_3.length c0_3,.int .i64 a0_4,.string a0_5,.slice A0_6 l0_6.length c0_6] 26 (0,0)) (by (with_reducible repeat (first|refine k2_ ?_ _|refine k3_ ?_|refine k1_ ?_ _));exact BK101.out) hb);have n2_:=am_ (kb_ (g:=gb102) (o:=.cells #[.int .i64 0,.int .i64 0,.slice none 0 0,.slice none 0 0,.int .i64 0,.string (⟨#[]⟩:ByteArray),.slice none 0 0] 26 (0,0)) (by (with_reducible repeat (first|refine k2_ ?_ _|refine k3_ ?_|refine k1_ ?_ _));exact BK102.out) hb);have n3_:=am_ (bt_ (by repeat (with_reducible first|exact HB.out|apply p3_|apply p1_|apply p2_|refine bs_ ?_ GE101.out|refine bs_ ?_ GE102.out)) hb);clear BK101;clear BK102;clear HB;have HO105:=n0_;have BK101:=n1_;have BK102:=n2_;have HB:=n3_;clear n0_ n1_ n2_ n3_;clear hb ho8;have hnb9:=NB101_102.out;have hnc9:=NB102_101.out;have hcz10_0:w7.cell? ⟨gb101,0,none⟩=some (.int .i64 a0_0):=(bc_ BK101.out 0).trans rfl;have hcz10_1:w7.cell? ⟨gb101,1,none⟩=some (.int .i64 a0_1):=(bc_ BK101.out 1).trans rfl;have hcz10_2:w7.cell? ⟨gb101,2,none⟩=some (.slice A0_2 l0_2.length c0_2):=(bc_ BK101.out 2).trans rfl;have hcz10_3:w7.cell? ⟨gb101,3,none⟩=some (.slice A0_3 l0_3.length c0_3):=(bc_ BK101.out 3).trans rfl;have hcz10_4:w7.cell? ⟨gb101,4,none⟩=some (.int .i64 a0_4):=(bc_ BK101.out 4).trans rfl;have hcz10_5:w7.cell? ⟨gb101,5,none⟩=some (.string a0_5):=(bc_ BK101.out 5).trans rfl;have hcz10_6:w7.cell? ⟨gb101,6,none⟩=some (.slice A0_6 l0_6.length c0_6):=(bc_ BK101.out 6).trans rfl;have hfz10_0:=bf_ BK101.out 0;have hfz10_1:=bf_ BK101.out 1;have hfz10_2:=bf_ BK101.out 2;have hfz10_3:=bf_ BK101.out 3;have hfz10_4:=bf_ BK101.out 4;have hfz10_5:=bf_ BK101.out 5;have hfz10_6:=bf_ BK101.out 6)|((with_reducible refine gate_builtin (b:=.append) (xs:=#[.tmp 3,.tmp 5]) rfl ?_);at_builtin;refine Kd.R_append_rows (Kd.int .i64) (w0:=w) w.heap.size rfl (.tmp 3) (.tmp 5) 22 3 (.int .i64 0) 8 rfl Tryz.underlying22 info3 rfl (by decide) (by omega) v104 y103 l0_2 _ _ _ (fun _=>True) (fun _=>False) rfl rfl ?aO ?aR (fun _ _ h=>h) (fun _ h=>h.elim) ?aF ?aB ?aS ?aL ?_;(case aR=>repeat (first|exact (c4_ HR0_2.out HB.out)|(with_reducible refine c1_ ?_ _)|(with_reducible refine c2_ ?_ _)|(with_reducible refine c3_ ?_)));(case aB=>exact (by repeat (with_reducible first|exact HB.out|apply p3_|apply p1_|apply p2_|refine bs_ ?_ GE101.out|refine bs_ ?_ GE102.out)));(case aF=>exact (fun _ _=>trivial));(case aO=>exact (by (with_reducible repeat (first|apply r1_|apply r2_|apply r3_));exact HO105.out));(case aS=>exact (bz_ (by repeat (with_reducible first|exact HB.out|apply p3_|apply p1_|apply p2_|refine bs_ ?_ GE101.out|refine bs_ ?_ GE102.out))));(case aL=>have:=LMc2.out;omega);intro v107 w11 ho hb hg hat;rw [←Ny106.out] at ho;have n0_:=am_ (blk_grown (g:=gb101) (o:=.cells #[.int .i64 a0_0,.int .i64 a0_1,.slice A0_2 l0_2.length c0_2,.slice A0_3 l0_3.length c0_3,.int .i64 a0_4,.string a0_5,.slice A0_6 l0_6.length c0_6] 26 (0,0)) (by (with_reducible repeat (first|refine k2_ ?_ _|refine k3_ ?_|refine k1_ ?_ _));exact BK101.out) hg (Kd.R_ne HO105.out BK101.out (by decide)));have n1_:=am_ (blk_grown (g:=gb102) (o:=.cells #[.int .i64 0,.int .i64 0,.slice none 0 0,.slice none 0 0,.int .i64 0,.string (⟨#[]⟩:ByteArray),.slice none 0 0] 26 (0,0)) (by (with_reducible repeat (first|refine k2_ ?_ _|refine k3_ ?_|refine k1_ ?_ _));exact BK102.out) hg (Kd.R_ne HO105.out BK102.out (by decide)));have n2_:=am_ (hb);have n3_:=am_ (ho);clear BK101;clear BK102;clear HB;clear HO105;have BK101:=n0_;have BK102:=n1_;have HB:=n2_;have HO108:=n3_;clear n0_ n1_ n2_ n3_;clear ho hb hg hat;obtain ⟨Ao12,co12,eo12⟩:=Kd.R_slice HO108.out;subst eo12;have hcz13_0:w11.cell? ⟨gb101,0,none⟩=some (.int .i64 a0_0):=(bc_ BK101.out 0).trans rfl;have hcz13_1:w11.cell? ⟨gb101,1,none⟩=some (.int .i64 a0_1):=(bc_ BK101.out 1).trans rfl;have hcz13_2:w11.cell? ⟨gb101,2,none⟩=some (.slice A0_2 l0_2.length c0_2):=(bc_ BK101.out 2).trans rfl;have hcz13_3:w11.cell? ⟨gb101,3,none⟩=some (.slice A0_3 l0_3.length c0_3):=(bc_ BK101.out 3).trans rfl;have hcz13_4:w11.cell? ⟨gb101,4,none⟩=some (.int .i64 a0_4):=(bc_ BK101.out 4).trans rfl;have hcz13_5:w11.cell? ⟨gb101,5,none⟩=some (.string a0_5):=(bc_ BK101.out 5).trans rfl;have hcz13_6:w11.cell? ⟨gb101,6,none⟩=some (.slice A0_6 l0_6.length c0_6):=(bc_ BK101.out 6).trans rfl;have hfz13_0:=bf_ BK101.out 0;have hfz13_1:=bf_ BK101.out 1;have hfz13_2:=bf_ BK101.out 2;have hfz13_3:=bf_ BK101.out 3;have hfz13_4:=bf_ BK101.out 4;have hfz13_5:=bf_ BK101.out 5;have hfz13_6:=bf_ BK101.out 6)|((with_reducible refine gate_dst (N:=8) rfl ?_);refine Kd.R_lit k95 _ 95 ?hg (N:=8) ?hd (xs:=([]:List (S95))) (inner:=[]) (ok:=fun _=>True) (okp:=fun _=>True) ?hr ?hp (fun _ hk=>hk) trivial (Below.refl _ _) (Nat.le_refl _) (by simp) ?_;(case hd=>rfl);(case hg=>rfl);(case hr=>first|(go_simp;done)|(go_simp;rfl));(case hp=>exact (Reps.none _ _));intro v110 w14 ho15 hb hg_ hnew_;clear hg_ hnew_;(first|rw [←Ny109.out] at ho15|(simp only [Int.reduceToNat] at ho15;rw [←Ny109.out] at ho15));have n0_:=am_ (Kd.R_below (by (with_reducible repeat (first|apply r1_|apply r2_|apply r3_));exact (Kd.R_mono (Kd.R_far (p:=⟨gb101,2,none⟩) (Kd.R_types HO108.out BK101.out (by decide)) (fun _ hk=>hk.2) (.slice Ao12 y106.length co12)) (fun _ h_=>h_.1))) hb);have n1_:=am_ (Kd.R_lower ho15 (bz_ (by repeat (with_reducible first|exact HB.out|apply p3_|apply p1_|apply p2_|refine bs_ ?_ GE101.out|refine bs_ ?_ GE102.out))));have n2_:=am_ (kb_ (g:=gb101) (o:=.cells #[.int .i64 a0_0,.int .i64 a0_1,.slice Ao12 y106.length co12,.slice A0_3 l0_3.length c0_3,.int .i64 a0_4,.string a0_5,.slice A0_6 l0_6.length c0_6] 26 (0,0)) (by (with_reducible repeat (first|refine k2_ ?_ _|refine k3_ ?_|refine k1_ ?_ _));refine blk_put (cs:=#[.int .i64 a0_0,.int .i64 a0_1,.slice A0_2 l0_2.length c0_2,.slice A0_3 l0_3.length c0_3,.int .i64 a0_4,.string a0_5,.slice A0_6 l0_6.length c0_6]) ?_ 2 _ rfl;(with_reducible repeat (first|refine k2_ ?_ _|refine k3_ ?_|refine k1_ ?_ _));exact BK101.out) hb);have n3_:=am_ (kb_ (g:=gb102) (o:=.cells #[.int .i64 0,.int .i64 0,.slice none 0 0,.slice none 0 0,.int .i64 0,.string (⟨#[]⟩:ByteArray),.slice none 0 0] 26 (0,0)) (by (with_reducible repeat (first|refine k2_ ?_ _|refine k3_ ?_|refine k1_ ?_ _));refine blk_far ?_ NB102_101.out _;(with_reducible repeat (first|refine k2_ ?_ _|refine k3_ ?_|refine k1_ ?_ _));exact BK102.out) hb);have n4_:=am_ (bt_ (by repeat (with_reducible first|exact HB.out|apply p3_|apply p1_|apply p2_|refine bs_ ?_ GE101.out|refine bs_ ?_ GE102.out)) hb);clear HO108;clear BK101;clear BK102;clear HB;have HO108:=n0_;have HO111:=n1_;have BK101:=n2_;have BK102:=n3_;have HB:=n4_;clear n0_ n1_ n2_ n3_ n4_;clear hb ho15;have hcz16_0:w14.cell? ⟨gb101,0,none⟩=some (.int .i64 a0_0):=(bc_ BK101.out 0).trans rfl;have hcz16_1:w14.cell? ⟨gb101,1,none⟩=some (.int .i64 a0_1):=(bc_ BK101.out 1).trans rfl;have hcz16_2:w14.cell? ⟨gb101,2,none⟩=some (.slice Ao12 y106.length co12):=(bc_ BK101.out 2).trans rfl;have hcz16_3:w14.cell? ⟨gb101,3,none⟩=some (.slice A0_3 l0_3.length c0_3):=(bc_ BK101.out 3).trans rfl;have hcz16_4:w14.cell? ⟨gb101,4,none⟩=some (.int .i64 a0_4):=(bc_ BK101.out 4).trans rfl;have hcz16_5:w14.cell? ⟨gb101,5,none⟩=some (.string a0_5):=(bc_ BK101.out 5).trans rfl;have hcz16_6:w14.cell? ⟨gb101,6,none⟩=some (.slice A0_6 l0_6.length c0_6):=(bc_ BK101.out 6).trans rfl;have hfz16_0:=bf_ BK101.out 0;have hfz16_1:=bf_ BK101.out 1;have hfz16_2:=bf_ BK101.out 2;have hfz16_3:=bf_ BK101.out 3;have hfz16_4:=bf_ BK101.out 4;have hfz16_5:=bf_ BK101.out 5;have hfz16_6:=bf_ BK101.out 6)|((with_reducible refine gate_builtin (b:=.append) (xs:=#[.tmp 8,.tmp 10]) rfl ?_);at_builtin;refine Kd.R_append_rows k95 (w0:=w) w.heap.size rfl (.tmp 8) (.tmp 10) 23 95 (.agg #[(.string ⟨#[]⟩),(.int .i64 0)]) 24 rfl Tryz.underlying23 info95 rfl (by decide) (by omega) v110 y109 l0_3 _ _ _ (fun _=>True) (fun _=>False) rfl rfl ?aO ?aR (fun _ _ h=>h) (fun _ h=>h.elim) ?aF ?aB ?aS ?aL ?_;(case aR=>repeat (first|exact (c4_ HR0_3.out HB.out)|(with_reducible refine c1_ ?_ _)|(with_reducible refine c2_ ?_ _)|(with_reducible refine c3_ ?_)));(case aB=>exact (by repeat (with_reducible first|exact HB.out|apply p3_|apply p1_|apply p2_|refine bs_ ?_ GE101.out|refine bs_ ?_ GE102.out)));(case aF=>exact (fun _ _=>trivial));(case aO=>exact (by (with_reducible repeat (first|apply r1_|apply r2_|apply r3_));exact HO111.out));(case aS=>exact (bz_ (by repeat (with_reducible first|exact HB.out|apply p3_|apply p1_|apply p2_|refine bs_ ?_ GE101.out|refine bs_ ?_ GE102.out))));(case aL=>have:=LMc3.out;omega);intro v113 w17 ho hb hg hat;rw [←Ny112.out] at ho;have n0_:=am_ (blk_grown (g:=gb101) (o:=.cells #[.int .i64 a0_0,.int .i64 a0_1,.slice Ao12 y106.length co12,.slice A0_3 l0_3.length c0_3,.int .i64 a0_4,.string a0_5,.slice A0_6 l0_6.length c0_6] 26 (0,0)) (by (with_reducible repeat (first|refine k2_ ?_ _|refine k3_ ?_|refine k1_ ?_ _));exact BK101.out) hg (Kd.R_ne HO111.out BK101.out (by decide)));have n1_:=am_ (blk_grown (g:=gb102) (o:=.cells #[.int .i64 0,.int .i64 0,.slice none 0 0,.slice none 0 0,.int .i64 0,.string (⟨#[]⟩:ByteArray),.slice none 0 0] 26 (0,0)) (by (with_reducible repeat (first|refine k2_ ?_ _|refine k3_ ?_|refine k1_ ?_ _));exact BK102.out) hg (Kd.R_ne HO111.out BK102.out (by decide)));have n2_:=am_ (Kd.R_over' (by (with_reducible repeat (first|apply r1_|apply r2_|apply r3_));exact HO108.out) (Kd.R_typed (by (with_reducible repeat (first|apply r1_|apply r2_|apply r3_));exact HO111.out)) (by decide) hg);have n3_:=am_ (hb);have n4_:=am_ (ho);clear BK101;clear BK102;clear HO108;clear HB;clear HO111;have BK101:=n0_;have BK102:=n1_;have HO108:=n2_;have HB:=n3_;have HO114:=n4_;clear n0_ n1_ n2_ n3_ n4_;clear ho hb hg hat;obtain ⟨Ao18,co18,eo18⟩:=Kd.R_slice HO114.out;subst eo18;have hcz19_0:w17.cell? ⟨gb101,0,none⟩=some (.int .i64 a0_0):=(bc_ BK101.out 0).trans rfl;have hcz19_1:w17.cell? ⟨gb101,1,none⟩=some (.int .i64 a0_1):=(bc_ BK101.out 1).trans rfl;have hcz19_2:w17.cell? ⟨gb101,2,none⟩=some (.slice Ao12 y106.length co12):=(bc_ BK101.out 2).trans rfl;have hcz19_3:w17.cell? ⟨gb101,3,none⟩=some (.slice A0_3 l0_3.length c0_3):=(bc_ BK101.out 3).trans rfl;have hcz19_4:w17.cell? ⟨gb101,4,none⟩=some (.int .i64 a0_4):=(bc_ BK101.out 4).trans rfl;have hcz19_5:w17.cell? ⟨gb101,5,none⟩=some (.string a0_5):=(bc_ BK101.out 5).trans rfl;have hcz19_6:w17.cell? ⟨gb101,6,none⟩=some (.slice A0_6 l0_6.length c0_6):=(bc_ BK101.out 6).trans rfl;have hfz19_0:=bf_ BK101.out 0;have hfz19_1:=bf_ BK101.out 1;have hfz19_2:=bf_ BK101.out 2;have hfz19_3:=bf_ BK101.out 3;have hfz19_4:=bf_ BK101.out 4;have hfz19_5:=bf_ BK101.out 5;have hfz19_6:=bf_ BK101.out 6)|((with_reducible refine gate_dst (N:=13) rfl ?_);refine Kd.R_lit k93 _ 93 ?hg (N:=13) ?hd (xs:=([]:List (S93))) (inner:=[]) (ok:=fun _=>True) (okp:=fun _=>True) ?hr ?hp (fun _ hk=>hk) trivial (Below.refl _ _) (Nat.le_refl _) (by simp) ?_;(case hd=>rfl);(case hg=>rfl);(case hr=>first|(go_simp;done)|(go_simp;rfl));(case hp=>exact (Reps.none _ _));intro v116 w20 ho21 hb hg_ hnew_;clear hg_ hnew_;(first|rw [←Ny115.out] at ho21|(simp only [Int.reduceToNat] at ho21;rw [←Ny115.out] at ho21));have n0_:=am_ (Kd.R_below (by (with_reducible repeat (first|apply r1_|apply r2_|apply r3_));exact (Kd.R_mono (Kd.R_far (p:=⟨gb101,3,none⟩) (Kd.R_types HO108.out BK101.out (by decide)) (fun _ hk=>hk.2) (.slice Ao18 y112.length co18)) (fun _ h_=>h_.1))) hb);have n1_:=am_ (Kd.R_below (by (with_reducible repeat (first|apply r1_|apply r2_|apply r3_));exact (Kd.R_mono (Kd.R_far (p:=⟨gb101,3,none⟩) (Kd.R_types HO114.out BK101.out (by decide)) (fun _ hk=>hk.2) (.slice Ao18 y112.length co18)) (fun _ h_=>h_.1))) hb);have n2_:=am_ (Kd.R_lower ho21 (bz_ (by repeat (with_reducible first|exact HB.out|apply p3_|apply p1_|apply p2_|refine bs_ ?_ GE101.out|refine bs_ ?_ GE102.out))));have n3_:=am_ (kb_ (g:=gb101) (o:=.cells #[.int .i64 a0_0,.int .i64 a0_1,.slice Ao12 y106.length co12,.slice Ao18 y112.length co18,.int .i64 a0_4,.string a0_5,.slice A0_6 l0_6.length c0_6] 26 (0,0)) (by (with_reducible repeat (first|refine k2_ ?_ _|refine k3_ ?_|refine k1_ ?_ _));refine blk_put (cs:=#[.int .i64 a0_0,.int .i64 a0_1,.slice Ao12 y106.length co12,.slice A0_3 l0_3.length c0_3,.int .i64 a0_4,.string a0_5,.slice A0_6 l0_6.length c0_6]) ?_ 3 _ rfl;(with_reducible repeat (first|refine k2_ ?_ _|refine k3_ ?_|refine k1_ ?_ _));exact BK101.out) hb);have n4_:=am_ (kb_ (g:=gb102) (o:=.cells #[.int .i64 0,.int .i64 0,.slice none 0 0,.slice none 0 0,.int .i64 0,.string (⟨#[]⟩:ByteArray),.slice none 0 0] 26 (0,0)) (by (with_reducible repeat (first|refine k2_ ?_ _|refine k3_ ?_|refine k1_ ?_ _));refine blk_far ?_ NB102_101.out _;(with_reducible repeat (first|refine k2_ ?_ _|refine k3_ ?_|refine k1_ ?_ _));exact BK102.out) hb);have n5_:=am_ (bt_ (by repeat (with_reducible first|exact HB.out|apply p3_|apply p1_|apply p2_|refine bs_ ?_ GE101.out|refine bs_ ?_ GE102.out)) hb);clear HO108;clear HO114;clear BK101;clear BK102;clear HB;have HO108:=n0_;have HO114:=n1_;have HO117:=n2_;have BK101:=n3_;have BK102:=n4_;have HB:=n5_;clear n0_ n1_ n2_ n3_ n4_ n5_;clear hb ho21;have hcz22_0:w20.cell? ⟨gb101,0,none⟩=some (.int .i64 a0_0):=(bc_ BK101.out 0).trans rfl;have hcz22_1:w20.cell? ⟨gb101,1,none⟩=some (.int .i64 a0_1):=(bc_ BK101.out 1).trans rfl;have hcz22_2:w20.cell? ⟨gb101,2,none⟩=some (.slice Ao12 y106.length co12):=(bc_ BK101.out 2).trans rfl;have hcz22_3:w20.cell? ⟨gb101,3,none⟩=some (.slice Ao18 y112.length co18):=(bc_ BK101.out 3).trans rfl;have hcz22_4:w20.cell? ⟨gb101,4,none⟩=some (.int .i64 a0_4):=(bc_ BK101.out 4).trans rfl;have hcz22_5:w20.cell? ⟨gb101,5,none⟩=some (.string a0_5):=(bc_ BK101.out 5).trans rfl;have hcz22_6:w20.cell? ⟨gb101,6,none⟩=some (.slice A0_6 l0_6.length c0_6):=(bc_ BK101.out 6).trans rfl;have hfz22_0:=bf_ BK101.out 0;have hfz22_1:=bf_ BK101.out 1;have hfz22_2:=bf_ BK101.out 2;have hfz22_3:=bf_ BK101.out 3;have hfz22_4:=bf_ BK101.out 4;have hfz22_5:=bf_ BK101.out 5;have hfz22_6:=bf_ BK101.out 6)|((with_reducible refine gate_builtin (b:=.append) (xs:=#[.tmp 13,.tmp 15]) rfl ?_);at_builtin;refine Kd.R_append_rows k93 (w0:=w) w.heap.size rfl (.tmp 13) (.tmp 15) 24 93 (.agg #[(.string ⟨#[]⟩),(.int .i64 0),(.int .i64 0),(.int .i64 0),(.string ⟨#[]⟩),(.string ⟨#[]⟩),(.int .i64 0)]) 80 rfl Tryz.underlying24 info93 rfl (by decide) (by omega) v116 y115 l0_6 _ _ _ (fun _=>True) (fun _=>False) rfl rfl ?aO ?aR (fun _ _ h=>h) (fun _ h=>h.elim) ?aF ?aB ?aS ?aL ?_;(case aR=>repeat (first|exact (c4_ HR0_6.out HB.out)|(with_reducible refine c1_ ?_ _)|(with_reducible refine c2_ ?_ _)|(with_reducible refine c3_ ?_)));(case aB=>exact (by repeat (with_reducible first|exact HB.out|apply p3_|apply p1_|apply p2_|refine bs_ ?_ GE101.out|refine bs_ ?_ GE102.out)));(case aF=>exact (fun _ _=>trivial));(case aO=>exact (by (with_reducible repeat (first|apply r1_|apply r2_|apply r3_));exact HO117.out));(case aS=>exact (bz_ (by repeat (with_reducible first|exact HB.out|apply p3_|apply p1_|apply p2_|refine bs_ ?_ GE101.out|refine bs_ ?_ GE102.out))));(case aL=>have:=LMc4.out;omega);intro v119 w23 ho hb hg hat;rw [←Ny118.out] at ho;have n0_:=am_ (blk_grown (g:=gb101) (o:=.cells #[.int .i64 a0_0,.int .i64 a0_1,.slice Ao12 y106.length co12,.slice Ao18 y112.length co18,.int .i64 a0_4,.string a0_5,.slice A0_6 l0_6.length c0_6] 26 (0,0)) (by (with_reducible repeat (first|refine k2_ ?_ _|refine k3_ ?_|refine k1_ ?_ _));exact BK101.out) hg (Kd.R_ne HO117.out BK101.out (by decide)));have n1_:=am_ (blk_grown (g:=gb102) (o:=.cells #[.int .i64 0,.int .i64 0,.slice none 0 0,.slice none 0 0,.int .i64 0,.string (⟨#[]⟩:ByteArray),.slice none 0 0] 26 (0,0)) (by (with_reducible repeat (first|refine k2_ ?_ _|refine k3_ ?_|refine k1_ ?_ _));exact BK102.out) hg (Kd.R_ne HO117.out BK102.out (by decide)));have n2_:=am_ (Kd.R_over' (by (with_reducible repeat (first|apply r1_|apply r2_|apply r3_));exact HO108.out) (Kd.R_typed (by (with_reducible repeat (first|apply r1_|apply r2_|apply r3_));exact HO117.out)) (by decide) hg);have n3_:=am_ (Kd.R_over' (by (with_reducible repeat (first|apply r1_|apply r2_|apply r3_));exact HO114.out) (Kd.R_typed (by (with_reducible repeat (first|apply r1_|apply r2_|apply r3_));exact HO117.out)) (by decide) hg);have n4_:=am_ (hb);have n5_:=am_ (ho);clear BK101;clear BK102;clear HO108;clear HO114;clear HB;clear HO117;have BK101:=n0_;have BK102:=n1_;have HO108:=n2_;have HO114:=n3_;have HB:=n4_;have HO120:=n5_;clear n0_ n1_ n2_ n3_ n4_ n5_;clear ho hb hg hat;obtain ⟨Ao24,co24,eo24⟩:=Kd.R_slice HO120.out;subst eo24;have hcz25_0:w23.cell? ⟨gb101,0,none⟩=some (.int .i64 a0_0):=(bc_ BK101.out 0).trans rfl;have hcz25_1:w23.cell? ⟨gb101,1,none⟩=some (.int .i64 a0_1):=(bc_ BK101.out 1).trans rfl;have hcz25_2:w23.cell? ⟨gb101,2,none⟩=some (.slice Ao12 y106.length co12):=(bc_ BK101.out 2).trans rfl;have hcz25_3:w23.cell? ⟨gb101,3,none⟩=some (.slice Ao18 y112.length co18):=(bc_ BK101.out 3).trans rfl;have hcz25_4:w23.cell? ⟨gb101,4,none⟩=some (.int .i64 a0_4):=(bc_ BK101.out 4).trans rfl;have hcz25_5:w23.cell? ⟨gb101,5,none⟩=some (.string a0_5):=(bc_ BK101.out 5).trans rfl;have hcz25_6:w23.cell? ⟨gb101,6,none⟩=some (.slice A0_6 l0_6.length c0_6):=(bc_ BK101.out 6).trans rfl;have hfz25_0:=bf_ BK101.out 0;have hfz25_1:=bf_ BK101.out 1;have hfz25_2:=bf_ BK101.out 2;have hfz25_3:=bf_ BK101.out 3;have hfz25_4:=bf_ BK101.out 4;have hfz25_5:=bf_ BK101.out 5;have hfz25_6:=bf_ BK101.out 6;have hcz26_0:w23.cell? ⟨gb102,0,none⟩=some (.int .i64 0):=(bc_ BK102.out 0).trans rfl;have hcz26_1:w23.cell? ⟨gb102,1,none⟩=some (.int .i64 0):=(bc_ BK102.out 1).trans rfl;have hcz26_2:w23.cell? ⟨gb102,2,none⟩=some (.slice none 0 0):=(bc_ BK102.out 2).trans rfl;have hcz26_3:w23.cell? ⟨gb102,3,none⟩=some (.slice none 0 0):=(bc_ BK102.out 3).trans rfl;have hcz26_4:w23.cell? ⟨gb102,4,none⟩=some (.int .i64 0):=(bc_ BK102.out 4).trans rfl;have hcz26_5:w23.cell? ⟨gb102,5,none⟩=some (.string (⟨#[]⟩:ByteArray)):=(bc_ BK102.out 5).trans rfl;have hcz26_6:w23.cell? ⟨gb102,6,none⟩=some (.slice none 0 0):=(bc_ BK102.out 6).trans rfl;have hfz26_0:=bf_ BK102.out 0;have hfz26_1:=bf_ BK102.out 1;have hfz26_2:=bf_ BK102.out 2;have hfz26_3:=bf_ BK102.out 3;have hfz26_4:=bf_ BK102.out 4;have hfz26_5:=bf_ BK102.out 5;have hfz26_6:=bf_ BK102.out 6))
 refine bodyPost_ret (results_cell_row rfl _ _ gb102 26 #[.int .i64 a0_0,.int .i64 a0_1,.slice Ao12 y106.length co12,.slice Ao18 y112.length co18,.int .i64 a0_4,.string a0_5,.slice Ao24 y118.length co24] (0,0) _ rfl (by (with_reducible repeat (first|refine k2_ ?_ _|refine k3_ ?_|refine k1_ ?_ _));refine blk_put (cs:=#[.int .i64 a0_0,.int .i64 a0_1,.slice Ao12 y106.length co12,.slice Ao18 y112.length co18,.int .i64 a0_4,.string a0_5,.slice none 0 0]) ?_ 6 _ rfl;(with_reducible repeat (first|refine k2_ ?_ _|refine k3_ ?_|refine k1_ ?_ _));refine blk_put (cs:=#[.int .i64 a0_0,.int .i64 a0_1,.slice Ao12 y106.length co12,.slice Ao18 y112.length co18,.int .i64 a0_4,.string (⟨#[]⟩:ByteArray),.slice none 0 0]) ?_ 5 _ rfl;(with_reducible repeat (first|refine k2_ ?_ _|refine k3_ ?_|refine k1_ ?_ _));refine blk_put (cs:=#[.int .i64 a0_0,.int .i64 a0_1,.slice Ao12 y106.length co12,.slice Ao18 y112.length co18,.int .i64 0,.string (⟨#[]⟩:ByteArray),.slice none 0 0]) ?_ 4 _ rfl;(with_reducible repeat (first|refine k2_ ?_ _|refine k3_ ?_|refine k1_ ?_ _));refine blk_put (cs:=#[.int .i64 a0_0,.int .i64 a0_1,.slice Ao12 y106.length co12,.slice none 0 0,.int .i64 0,.string (⟨#[]⟩:ByteArray),.slice none 0 0]) ?_ 3 _ rfl;(with_reducible repeat (first|refine k2_ ?_ _|refine k3_ ?_|refine k1_ ?_ _));refine blk_put (cs:=#[.int .i64 a0_0,.int .i64 a0_1,.slice none 0 0,.slice none 0 0,.int .i64 0,.string (⟨#[]⟩:ByteArray),.slice none 0 0]) ?_ 2 _ rfl;(with_reducible repeat (first|refine k2_ ?_ _|refine k3_ ?_|refine k1_ ?_ _));refine blk_put (cs:=#[.int .i64 a0_0,.int .i64 0,.slice none 0 0,.slice none 0 0,.int .i64 0,.string (⟨#[]⟩:ByteArray),.slice none 0 0]) ?_ 1 _ rfl;(with_reducible repeat (first|refine k2_ ?_ _|refine k3_ ?_|refine k1_ ?_ _));refine blk_put (cs:=#[.int .i64 0,.int .i64 0,.slice none 0 0,.slice none 0 0,.int .i64 0,.string (⟨#[]⟩:ByteArray),.slice none 0 0]) ?_ 0 _ rfl;(with_reducible repeat (first|refine k2_ ?_ _|refine k3_ ?_|refine k1_ ?_ _));refine blk_far ?_ NB102_101.out _;(with_reducible repeat (first|refine k2_ ?_ _|refine k3_ ?_|refine k1_ ?_ _));exact BK102.out) Tryz.underlying26 rfl (by kernel_rfl)) rfl ?_
 exact ⟨_,_,_,by first|rfl|(simp [errW_none,errW_some]<;>rfl)|(simp [*,errW_none,errW_some]<;>rfl),by (with_reducible repeat (first|apply r1_|apply r2_|apply r3_));exact Kd.R_mono (Kd.R_far (p:=⟨gb102,6,none⟩) (Kd.R_far (p:=⟨gb102,5,none⟩) (Kd.R_far (p:=⟨gb102,4,none⟩) (Kd.R_far (p:=⟨gb102,3,none⟩) (Kd.R_far (p:=⟨gb102,2,none⟩) (Kd.R_far (p:=⟨gb102,1,none⟩) (Kd.R_far (p:=⟨gb102,0,none⟩) (Kd.R_far (p:=⟨gb101,6,none⟩) (Kd.R_types (Kd.R_types HO108.out BK101.out (by decide)) BK102.out (by decide)) (fun _ hk=>hk.1.2) (.slice Ao24 y118.length co24)) (fun _ hk=>hk.2) (.int .i64 a0_0)) (fun _ hk=>hk.2) (.int .i64 a0_1)) (fun _ hk=>hk.2) (.slice Ao12 y106.length co12)) (fun _ hk=>hk.2) (.slice Ao18 y112.length co18)) (fun _ hk=>hk.2) (.int .i64 a0_4)) (fun _ hk=>hk.2) (.string a0_5)) (fun _ hk=>hk.2) (.slice Ao24 y118.length co24)) (fun _ hk=>trivial),by (with_reducible repeat (first|apply r1_|apply r2_|apply r3_));exact Kd.R_mono (Kd.R_far (p:=⟨gb102,6,none⟩) (Kd.R_far (p:=⟨gb102,5,none⟩) (Kd.R_far (p:=⟨gb102,4,none⟩) (Kd.R_far (p:=⟨gb102,3,none⟩) (Kd.R_far (p:=⟨gb102,2,none⟩) (Kd.R_far (p:=⟨gb102,1,none⟩) (Kd.R_far (p:=⟨gb102,0,none⟩) (Kd.R_far (p:=⟨gb101,6,none⟩) (Kd.R_types (Kd.R_types HO114.out BK101.out (by decide)) BK102.out (by decide)) (fun _ hk=>hk.1.2) (.slice Ao24 y118.length co24)) (fun _ hk=>hk.2) (.int .i64 a0_0)) (fun _ hk=>hk.2) (.int .i64 a0_1)) (fun _ hk=>hk.2) (.slice Ao12 y106.length co12)) (fun _ hk=>hk.2) (.slice Ao18 y112.length co18)) (fun _ hk=>hk.2) (.int .i64 a0_4)) (fun _ hk=>hk.2) (.string a0_5)) (fun _ hk=>hk.2) (.slice Ao24 y118.length co24)) (fun _ hk=>trivial),by (with_reducible repeat (first|apply r1_|apply r2_|apply r3_));exact Kd.R_mono (Kd.R_far (p:=⟨gb102,6,none⟩) (Kd.R_far (p:=⟨gb102,5,none⟩) (Kd.R_far (p:=⟨gb102,4,none⟩) (Kd.R_far (p:=⟨gb102,3,none⟩) (Kd.R_far (p:=⟨gb102,2,none⟩) (Kd.R_far (p:=⟨gb102,1,none⟩) (Kd.R_far (p:=⟨gb102,0,none⟩) (Kd.R_far (p:=⟨gb101,6,none⟩) (Kd.R_types (Kd.R_types HO120.out BK101.out (by decide)) BK102.out (by decide)) (fun _ hk=>hk.1.2) (.slice Ao24 y118.length co24)) (fun _ hk=>hk.2) (.int .i64 a0_0)) (fun _ hk=>hk.2) (.int .i64 a0_1)) (fun _ hk=>hk.2) (.slice Ao12 y106.length co12)) (fun _ hk=>hk.2) (.slice Ao18 y112.length co18)) (fun _ hk=>hk.2) (.int .i64 a0_4)) (fun _ hk=>hk.2) (.string a0_5)) (fun _ hk=>hk.2) (.slice Ao24 y118.length co24)) (fun _ hk=>trivial),by repeat (with_reducible first|exact HB.out|apply p3_|apply p1_|apply p2_|refine bs_ ?_ GE101.out|refine bs_ ?_ GE102.out)⟩

/-! ### pinfoldlaw0_CopyLeases: function 14 -/
def pinfoldlaw0_CopyLeases.f (l0:List (S44)):Option ((List (S44))):=(some (([]:List (S44)):List (S44))).bind fun y121=>(if y121.length+l0.length < 2199023255552 then (some (y121 ++ l0)) else (none))
theorem pinfoldlaw0_CopyLeases.calls (A0:Option Addr) (c0:Nat) (l0:List (S44)) (r:List (S44)) (w:World) (hr0:Kd.C k44 w A0 l0.length l0) (hc0:l0.length≤c0) (h:pinfoldlaw0_CopyLeases.f l0=some r) :
  Calls Tryz.prog 14 #[.slice A0 l0.length c0] w fun e w'=>∃ v0_:Value,e=.returned (v0_)∧Kd.R k44 44 w' w.heap.size (fun _=>True) v0_ r∧Below w.heap.size w w':=by
 have HR0:=am_ hr0
 have HC0:=am_ hc0
 clear hr0 hc0
 have HB:=am_ (Below.refl w.heap.size w)
 have H:((some (([]:List (S44)):List (S44))).bind fun y121=>(if y121.length+l0.length < 2199023255552 then (some (y121 ++ l0)) else (none)))=some r:=h
 clear h
 obtain ⟨y121,hy121⟩:∃ y_:List (S44),y_=(([]:List (S44))):=⟨_,rfl⟩
 replace H:(if y121.length+l0.length < 2199023255552 then (some (y121 ++ l0)) else (none))=some r:=by first|(rw [hy121];with_reducible exact H)|(have H2_:=(Option.bind_some _ _).symm.trans H;rw [hy121];with_reducible exact H2_)|(have H2_:=(Option.bind_some _ _).symm.trans H;with_reducible exact H2_)|with_reducible exact H|(rw [hy121];exact H)|exact H
 have Ny121:=am_ hy121
 clear hy121
 by_cases c2:y121.length+l0.length < 2199023255552
 rotate_left
 ·rw [if_neg c2] at H
  exact absurd H (by simp)
 rw [if_pos c2] at H
 have LMc2:=am_ c2
 clear c2
 obtain ⟨y124,hy124⟩:∃ y_:List (S44),y_=(y121 ++ l0):=⟨_,rfl⟩
 replace H:(some y124)=some r:=by first|(rw [hy124];with_reducible exact H)|(have H2_:=(Option.bind_some _ _).symm.trans H;rw [hy124];with_reducible exact H2_)|(have H2_:=(Option.bind_some _ _).symm.trans H;with_reducible exact H2_)|with_reducible exact H|(rw [hy124];exact H)|exact H
 have Ny124:=am_ hy124
 clear hy124
 obtain rfl:=e5_ H
 go_enter Tryz.func14,Tryz.ntmps14
 go_wp2_with (first|((with_reducible refine gate_dst (N:=3) rfl ?_);refine Kd.R_lit k44 _ 44 ?hg (N:=3) ?hd (xs:=([]:List (S44))) (inner:=[]) (ok:=fun _=>True) (okp:=fun _=>True) ?hr ?hp (fun _ hk=>hk) trivial (Below.refl _ _) (Nat.le_refl _) (by simp) ?_;(case hd=>rfl);(case hg=>rfl);(case hr=>first|(go_simp;done)|(go_simp;rfl));(case hp=>exact (Reps.none _ _));intro v122 w3 ho4 hb hg_ hnew_;clear hg_ hnew_;(first|rw [←Ny121.out] at ho4|(simp only [Int.reduceToNat] at ho4;rw [←Ny121.out] at ho4));have n0_:=am_ (Kd.R_lower ho4 (bz_ (by repeat (with_reducible first|exact HB.out|apply p3_|apply p1_|apply p2_))));have n1_:=am_ (bt_ (by repeat (with_reducible first|exact HB.out|apply p3_|apply p1_|apply p2_)) hb);clear HB;have HO123:=n0_;have HB:=n1_;clear n0_ n1_;clear hb ho4)|((with_reducible refine gate_builtin (b:=.append) (xs:=#[.tmp 3,.tmp 4]) rfl ?_);at_builtin;refine Kd.R_append_rows k44 (w0:=w) w.heap.size rfl (.tmp 3) (.tmp 4) 27 44 (.agg #[(.int .i64 0),(.int .i64 0),(.string ⟨#[]⟩),(.int .i64 0),(.string ⟨#[]⟩),(.bool false)]) 64 rfl Tryz.underlying27 info44 rfl (by decide) (by omega) v122 y121 l0 _ _ _ (fun _=>True) (fun _=>False) rfl rfl ?aO ?aR (fun _ _ h=>h) (fun _ h=>h.elim) ?aF ?aB ?aS ?aL ?_;(case aR=>repeat (first|exact (c4_ HR0.out HB.out)|(with_reducible refine c1_ ?_ _)|(with_reducible refine c2_ ?_ _)|(with_reducible refine c3_ ?_)));(case aB=>exact (by repeat (with_reducible first|exact HB.out|apply p3_|apply p1_|apply p2_)));(case aF=>exact (fun _ _=>trivial));(case aO=>exact (by (with_reducible repeat (first|apply r1_|apply r2_|apply r3_));exact HO123.out));(case aS=>exact (bz_ (by repeat (with_reducible first|exact HB.out|apply p3_|apply p1_|apply p2_))));(case aL=>have:=LMc2.out;omega);intro v125 w5 ho hb hg hat;rw [←Ny124.out] at ho;have n0_:=am_ (hb);have n1_:=am_ (ho);clear HB;clear HO123;have HB:=n0_;have HO126:=n1_;clear n0_ n1_;clear ho hb hg hat))
 go_ret
 exact ⟨_,by first|rfl|(simp [errW_none,errW_some]<;>rfl)|(simp [*,errW_none,errW_some]<;>rfl),by (with_reducible repeat (first|apply r1_|apply r2_|apply r3_));exact HO126.out,by repeat (with_reducible first|exact HB.out|apply p3_|apply p1_|apply p2_)⟩

/-! ### pinfoldlaw0_LendLeases: function 5 -/
-- BY HAND
-- what is lent: a row of its own with two leases behind its end.
def pinfoldlaw0_LendLeases.tl:List S44:=[(⟨77777,0,(⟨#[]⟩:ByteArray),0,(⟨#[]⟩:ByteArray),false⟩:S44),(⟨77777,0,(⟨#[]⟩:ByteArray),0,(⟨#[]⟩:ByteArray),false⟩:S44)]
def pinfoldlaw0_LendLeases.full (l:List S44):List S44:=l ++ pinfoldlaw0_LendLeases.tl
theorem pinfoldlaw0_LendLeases.full_length (l:List S44):(pinfoldlaw0_LendLeases.full l).length=l.length+2:=by
 unfold pinfoldlaw0_LendLeases.full
 rw [List.length_append]
 rfl
theorem pinfoldlaw0_LendLeases.front {w:World} {A:Option Addr} {l:List S44} (h:Kd.C k44 w A (pinfoldlaw0_LendLeases.full l).length (pinfoldlaw0_LendLeases.full l)):Kd.C k44 w A l.length l:=by
 have h1:=Kd.C_take (m:=l.length) h (by rw [pinfoldlaw0_LendLeases.full_length];omega)
 unfold pinfoldlaw0_LendLeases.full at h1
 rw [List.take_left] at h1
 exact h1
theorem pinfoldlaw0_LendLeases.lent {w:World} {base:Nat} {ok:Nat→Prop} {A:Option Addr} {c:Nat} {l:List S44} (h:Kd.R k44 44 w base ok (.slice A (pinfoldlaw0_LendLeases.full l).length c) (pinfoldlaw0_LendLeases.full l)):Kd.C k44 w A l.length l∧l.length≤c:=by
 refine ⟨pinfoldlaw0_LendLeases.front (Kd.R_reads' h).2.2,?_⟩
 have:=(Kd.R_reads' h).2.1
 rw [pinfoldlaw0_LendLeases.full_length] at this
 omega
def pinfoldlaw0_LendLeases.f (l0:List (S44)):Option ((List (S44))):=if l0.length+2 < 2199023255552 then some l0 else none
theorem pinfoldlaw0_LendLeases.calls (A0:Option Addr) (c0:Nat) (l0:List (S44)) (r:List (S44)) (w:World) (hr0:Kd.C k44 w A0 l0.length l0) (hc0:l0.length≤c0) (h:pinfoldlaw0_LendLeases.f l0=some r) :
  Calls Tryz.prog 5 #[.slice A0 l0.length c0] w fun e w'=>∃ (A:Option Addr) (c:Nat),e=.returned (.slice A r.length c)∧Kd.R k44 44 w' w.heap.size (fun _=>True) (.slice A (pinfoldlaw0_LendLeases.full r).length c) (pinfoldlaw0_LendLeases.full r)∧Below w.heap.size w w':=by
 have hu:=Tryz.underlying44
 unfold pinfoldlaw0_LendLeases.f at h
 by_cases hlim:l0.length+2 < 2199023255552
 rotate_left
 ·rw [if_neg hlim] at h
  exact absurd h (by simp)
 rw [if_pos hlim] at h
 obtain rfl:=e5_ h
 clear h
 have HR0:=am_ hr0
 have HC0:=am_ hc0
 clear hr0 hc0
 have HB:=am_ (Below.refl w.heap.size w)
 obtain ⟨t107,ht107⟩:∃ t,t=l0:=⟨_,rfl⟩
 have A2:Aside0 (pinfoldlaw0_CopyLeases.f l0=some t107):=am_ (by
  rw [ht107]
  unfold pinfoldlaw0_CopyLeases.f
  simp only [Option.bind_some,List.length_nil,Nat.zero_add,List.nil_append]
  rw [if_pos (by omega)])
 obtain ⟨y110,hy110⟩:∃ y_:List (S44),y_=(([(⟨77777,0,(⟨#[]⟩:ByteArray),0,(⟨#[]⟩:ByteArray),false⟩:S44),(⟨77777,0,(⟨#[]⟩:ByteArray),0,(⟨#[]⟩:ByteArray),false⟩:S44)]:List (S44))):=⟨_,rfl⟩
 have LMc3:Aside0 (t107.length+y110.length < 2199023255552):=am_ (by rw [ht107,hy110];exact hlim)
 obtain ⟨y113,hy113⟩:∃ y_:List (S44),y_=(t107 ++ y110):=⟨_,rfl⟩
 have FULL:Aside0 (y113=pinfoldlaw0_LendLeases.full l0):=am_ (by rw [hy113,ht107,hy110];rfl)
 have hlen:y113.length=l0.length+2:=by rw [FULL.out,pinfoldlaw0_LendLeases.full_length]
 have Ny110:=am_ hy110
 clear hy110
 have Ny113:=am_ hy113
 clear hy113
 have HLIM:=am_ ht107
 clear ht107
 have c4:0≤(l0.length:Int):=by omega
 have c4b0:=eq_true c4
 have c4b1:decide (0≤(l0.length:Int))=true:=decide_eq_true c4
 clear c4
 have c5:(l0.length:Int)≤(y113.length:Int):=by omega
 have c5b0:=eq_true c5
 have c5b1:decide ((l0.length:Int)≤(y113.length:Int))=true:=decide_eq_true c5
 clear c5 hlen hlim
 obtain ⟨y116,hy116⟩:∃ y_:List (S44),y_=(y113.take ((l0.length:Int):Int).toNat):=⟨_,rfl⟩
 have Ny116:=am_ hy116
 clear hy116
 go_enter Tryz.func5,Tryz.ntmps5
 go_wp2_with (first|((with_reducible refine gate_callee (f:=14) rfl ?_);refine goesL_ (some 5) rfl rfl Tryz.func14 (by kernel_rfl) rfl #[.slice A0 l0.length c0] rfl (by (try simp only [List.map_toArray,List.map_cons,List.map_nil]);first|done|rfl|(simp only [List.length_drop,List.length_take];rfl)) ?_;(with_reducible refine (pinfoldlaw0_CopyLeases.calls _ _ l0 t107 _ ?side1 ?side2 A2.out).mono ?_);(case side1=>repeat (first|exact HR0.out|(with_reducible refine c1_ ?_ _)|(with_reducible refine c2_ ?_ _)|(with_reducible refine c3_ ?_)));(case side2=>exact HC0.out);rintro e w6 ⟨v108,rfl,ho0,hb⟩;refine ⟨_,rfl,?_⟩;have n0_:=am_ (Kd.R_lower ho0 (bz_ (by repeat (with_reducible first|exact HB.out|apply p3_|apply p1_|apply p2_))));have n1_:=am_ (bt_ (by repeat (with_reducible first|exact HB.out|apply p3_|apply p1_|apply p2_)) hb);clear HB;have HO109:=n0_;have HB:=n1_;clear n0_ n1_;(try clear hb);(try clear ho0))|((with_reducible refine gate_dst (N:=8) rfl ?_);refine Kd.R_lit k44 _ 44 ?hg (N:=8) ?hd (xs:=([(⟨77777,0,(⟨#[]⟩:ByteArray),0,(⟨#[]⟩:ByteArray),false⟩:S44),(⟨77777,0,(⟨#[]⟩:ByteArray),0,(⟨#[]⟩:ByteArray),false⟩:S44)]:List (S44))) (inner:=[.int .i64 77777,.int .i64 0,.string (⟨#[]⟩:ByteArray),.int .i64 0,.string (⟨#[]⟩:ByteArray),.bool false,.int .i64 77777,.int .i64 0,.string (⟨#[]⟩:ByteArray),.int .i64 0,.string (⟨#[]⟩:ByteArray),.bool false]) (ok:=fun _=>True) (okp:=fun _=>True) ?hr ?hp (fun _ hk=>hk) trivial (Below.refl _ _) (Nat.le_refl _) (by simp) ?_;(case hd=>rfl);(case hg=>rfl);(case hr=>first|(go_simp;done)|(go_simp;rfl));(case hp=>exact (Reps.c6 (show Kd.M k44 _ _ _ (⟨77777,0,(⟨#[]⟩:ByteArray),0,(⟨#[]⟩:ByteArray),false⟩:S44) [.int .i64 77777,.int .i64 0,.string (⟨#[]⟩:ByteArray),.int .i64 0,.string (⟨#[]⟩:ByteArray),.bool false] from (k44_mkM _ _ _ (⟨77777,0,(⟨#[]⟩:ByteArray),0,(⟨#[]⟩:ByteArray),false⟩:S44) )) (Reps.c6 (show Kd.M k44 _ _ _ (⟨77777,0,(⟨#[]⟩:ByteArray),0,(⟨#[]⟩:ByteArray),false⟩:S44) [.int .i64 77777,.int .i64 0,.string (⟨#[]⟩:ByteArray),.int .i64 0,.string (⟨#[]⟩:ByteArray),.bool false] from (k44_mkM _ _ _ (⟨77777,0,(⟨#[]⟩:ByteArray),0,(⟨#[]⟩:ByteArray),false⟩:S44) )) (Reps.none _ _))));intro v111 w7 ho8 hb hg_ hnew_;clear hg_ hnew_;(first|rw [←Ny110.out] at ho8|(simp only [Int.reduceToNat] at ho8;rw [←Ny110.out] at ho8));have n0_:=am_ (r5_ (by (with_reducible repeat (first|apply r1_|apply r2_|apply r3_));exact HO109.out) (r4_ ho8) hb);have n1_:=am_ (Kd.R_lower (Kd.R_new' ho8 (Kd.R_lt (by (with_reducible repeat (first|apply r1_|apply r2_|apply r3_));exact HO109.out))) (bz_ (by repeat (with_reducible first|exact HB.out|apply p3_|apply p1_|apply p2_))));have n2_:=am_ (bt_ (by repeat (with_reducible first|exact HB.out|apply p3_|apply p1_|apply p2_)) hb);clear HO109;clear HB;have HO109:=n0_;have HO112:=n1_;have HB:=n2_;clear n0_ n1_ n2_;clear hb ho8;obtain ⟨Ao10,co10,eo10⟩:=Kd.R_slice HO112.out;subst eo10)|((with_reducible refine gate_builtin (b:=.append) (xs:=#[.tmp 5,.tmp 8]) rfl ?_);at_builtin;refine Kd.R_append_rows k44 (w0:=w) w.heap.size rfl (.tmp 5) (.tmp 8) 27 44 (.agg #[(.int .i64 0),(.int .i64 0),(.string ⟨#[]⟩),(.int .i64 0),(.string ⟨#[]⟩),(.bool false)]) 64 rfl Tryz.underlying27 info44 rfl (by decide) (by omega) v108 t107 y110 _ _ _ (fun k_=>some k_≠(.slice Ao10 y110.length co10:Value).ownBlock) (fun _=>False) rfl rfl ?aO ?aR (fun _ _ h=>h) (fun _ h=>h.elim) ?aF ?aB ?aS ?aL ?_;(case aR=>repeat (first|exact (Kd.R_reads' HO112.out).2.2|(with_reducible refine c1_ ?_ _)|(with_reducible refine c2_ ?_ _)|(with_reducible refine c3_ ?_)));(case aB=>exact (by repeat (with_reducible first|exact HB.out|apply p3_|apply p1_|apply p2_)));(case aF=>exact (fun k_ hk=>Kd.fresh' (Kd.R_lt (by (with_reducible repeat (first|apply r1_|apply r2_|apply r3_));exact HO112.out)) k_ hk));(case aO=>exact (by (with_reducible repeat (first|apply r1_|apply r2_|apply r3_));exact Kd.R_mono HO109.out (fun _ hk=>hk.2)));(case aS=>exact (bz_ (by repeat (with_reducible first|exact HB.out|apply p3_|apply p1_|apply p2_))));(case aL=>have:=LMc3.out;omega);intro v114 w9 ho hb hg hat;rw [←Ny113.out] at ho;have n0_:=am_ (Kd.R_after (ok:=(fun _=>True)) (by (with_reducible repeat (first|apply r1_|apply r2_|apply r3_));exact HO112.out) hg hat);have n1_:=am_ (hb);have n2_:=am_ (ho);clear HO112;clear HB;clear HO109;have HO112:=n0_;have HB:=n1_;have HO115:=n2_;clear n0_ n1_ n2_;clear ho hb hg hat;obtain ⟨Ao11,co11,eo11⟩:=Kd.R_slice HO115.out;subst eo11;have q12:((l0.length:Int):Int)≤((y113.length:Int):Int):=of_decide_eq_true (by first|(with_reducible assumption)|assumption);obtain ⟨i012,hi012,_,hsz12,_⟩:=info_parts info44;have hcut12:=cut_to (P:=Tryz.prog) 27 44 .i64 Tryz.underlying27 hi012 Ao11 y113.length co11 (l0.length:Int) (of_decide_eq_true (by first|(with_reducible assumption)|assumption)) q12 (Kd.R_reads' HO115.out).2.1;have hr12:=Kd.R_take (m:=((l0.length:Int):Int).toNat) HO115.out (by omega);have hy12:y116.length=((l0.length:Int):Int).toNat:=(by rw [Ny116.out,List.length_take];omega);rw [Int.toNat_natCast] at hcut12;clear hy12 hr12 hi012 hsz12;replace q12:=eq_true q12))
 go_ret
 refine ⟨_,_,by first|rfl|(simp;done),?_,by repeat (with_reducible first|exact HB.out|apply p3_|apply p1_|apply p2_)⟩
 rw [←FULL.out]
 (with_reducible repeat (first|apply r1_|apply r2_|apply r3_))
 exact Kd.R_mono HO115.out (fun _ hk=>trivial)

/-! ### stringslite_IndexByte: function 101 -/
-- BY HAND
def stringslite_IndexByte.f (a0:ByteArray) (a1:Int):Option Int:=some (Lib.indexByte a0.data.toList a1.toNat.toUInt8)
theorem stringslite_IndexByte.calls (a0:ByteArray) (a1:Int) (r:Int) (w:World) (h:stringslite_IndexByte.f a0 a1=some r) :
  Calls Tryz.prog 101 #[.string a0,.int .u8 a1] w fun e w'=>e=.returned (.int .i64 r)∧Drawn0 w w':=by
 obtain rfl:=e5_ h
 clear h
 go_enter Tryz.func101,Tryz.ntmps101
 go_wp2
 rw [run_callFunc_extern Tryz.func109 (by kernel_rfl) (by kernel_rfl) (by kernel_rfl) (e:=Extern.BytealgIndexByte.indexByte) (by kernel_rfl),Lib.run_indexByteString]
 simp only [Result.andThen]
 rw [Oper.upon_value]
 go_wp2
 go_ret
 exact ⟨rfl,Drawn0.refl _⟩

/-! ### stringslite_Index: function 94 -/
-- BY HAND
/-- where the one byte of the second text stands first; -1: nowhere. -/
def stringslite_Index.at_ (a0 a1:ByteArray):Int:=Lib.indexByte a0.data.toList (a1.data.toList.headD 0)
def stringslite_Index.f (a0:ByteArray) (a1:ByteArray):Option Int:=if a1.size=1 then some (stringslite_Index.at_ a0 a1) else none
theorem stringslite_Index.one {a:ByteArray} (h:a.size=1):∃ c,a=⟨#[c]⟩:=by
 have hl:a.data.toList.length=1:=by rw [data_length];exact h
 obtain ⟨c,hc⟩:=List.length_eq_one_iff.1 hl
 refine ⟨c,?_⟩
 have e:a=⟨a.data⟩:=rfl
 rw [e,show a.data=#[c] from Array.toList_inj.1 hc]
theorem stringslite_Index.calls (a0:ByteArray) (a1:ByteArray) (r:Int) (w:World) (h:stringslite_Index.f a0 a1=some r) :
  Calls Tryz.prog 94 #[.string a0,.string a1] w fun e w'=>e=.returned (.int .i64 r)∧Drawn0 w w':=by
 unfold stringslite_Index.f at h
 by_cases hs:a1.size=1
 ·rw [if_pos hs] at h
  obtain rfl:=e5_ h
  clear h
  obtain ⟨c,rfl⟩:=stringslite_Index.one hs
  clear hs
  show Calls _ _ _ _ fun e w'=>e=.returned (.int .i64 (Lib.indexByte a0.data.toList c))∧Drawn0 w w'
  go_enter Tryz.func94,Tryz.ntmps94
  go_wp2_with (go_at_call 101;(with_reducible refine (stringslite_IndexByte.calls _ _ _ _ rfl).mono ?_);rintro e w' ⟨rfl,⟨nd,rfl⟩⟩)
  ·have h:([c] == a0.toList)=true:=by assumption
   go_ret
   refine ⟨?_,by repeat (first|exact Drawn0.refl _|apply Drawn0.step)⟩
   have e:a0.data.toList=[c]:=by rw [←ByteArray.toList_eq];exact (beq_iff_eq.1 h).symm
   rw [e]
   simp [Lib.indexByte]
  ·go_ret
   exact ⟨by first|rfl|(simp;done),by repeat (first|exact Drawn0.refl _|apply Drawn0.step)⟩
 ·rw [if_neg hs] at h
  exact absurd h (by simp)

/-! ### stringslite_Cut: function 86 -/
-- BY HAND
/-- what stands ahead of a byte, what stands behind it, is it there. -/
def stringslite_Cut.v (a0 a1:ByteArray):ByteArray×ByteArray×Bool:=if 0≤stringslite_Index.at_ a0 a1 then (a0.extract 0 (stringslite_Index.at_ a0 a1).toNat,a0.extract ((stringslite_Index.at_ a0 a1).toNat+1) a0.size,true) else (a0,⟨#[]⟩,false)
def stringslite_Cut.f (a0:ByteArray) (a1:ByteArray):Option (ByteArray×ByteArray×Bool):=if a1.size=1∧a0.size≤562949953421312 then some (stringslite_Cut.v a0 a1) else none
theorem stringslite_Cut.in_:∀ (l:List UInt8) (c:UInt8),Lib.indexByte l c < (l.length:Int)
 | [],_=>by show (-1:Int) < 0;decide
 | b :: l,c=>by
  have:=stringslite_Cut.in_ l c
  unfold Lib.indexByte
  simp only [List.length_cons]
  split
  ·omega
  ·split<;>omega
theorem stringslite_Cut.calls (a0:ByteArray) (a1:ByteArray) (r1:ByteArray) (r2:ByteArray) (r3:Bool) (w:World) (h:stringslite_Cut.f a0 a1=some (r1,r2,r3)) :
  Calls Tryz.prog 86 #[.string a0,.string a1] w fun e w'=>e=.returned (.tuple #[.string r1,.string r2,.bool r3])∧Drawn0 w w':=by
 unfold stringslite_Cut.f at h
 by_cases hs:a1.size=1∧a0.size≤562949953421312
 ·rw [if_pos hs] at h
  obtain ⟨hs,hz⟩:=hs
  have hv:=e5_ h
  clear h
  have hx:stringslite_Index.f a0 a1=some (stringslite_Index.at_ a0 a1):=by unfold stringslite_Index.f;rw [if_pos hs]
  have hlt:stringslite_Index.at_ a0 a1 < (a0.size:Int):=by
   have:=stringslite_Cut.in_ a0.data.toList (a1.data.toList.headD 0)
   rw [data_length] at this
   exact this
  unfold stringslite_Cut.v at hv
  obtain ⟨i,hi⟩:∃ i,stringslite_Index.at_ a0 a1=i:=⟨_,rfl⟩
  rw [hi] at hx hlt hv
  clear hi
  have HX:=am_ hx
  clear hx
  by_cases h0:0≤i
  ·rw [if_pos h0] at hv
   simp only [Prod.mk.injEq] at hv
   obtain ⟨rfl,rfl,rfl⟩:=hv
   obtain ⟨c,rfl⟩:=stringslite_Index.one hs
   have hw:IntKind.i64.wrap (i+1)=i+1:=by rw [IntKind.wrap_i64];omega
   have c1:(0:Int)≤i:=h0
   have c2:i≤(a0.size:Int):=by omega
   have c3:(0:Int)≤i+1:=by omega
   have c4:(i+1:Int)≤(a0.size:Int):=by omega
   have c5:(i+1).toNat=i.toNat+1:=by omega
   clear hs hlt
   go_enter Tryz.func86,Tryz.ntmps86
   go_wp2_with (go_at_call 94;(with_reducible refine (stringslite_Index.calls _ _ _ _ HX.out).mono ?_);rintro e w' ⟨rfl,⟨nd,rfl⟩⟩)
   go_quiet (fail)
   go_wp2
   go_ret3
   exact ⟨by first|rfl|(simp [c5];done),by repeat (first|exact Drawn0.refl _|apply Drawn0.step)⟩
  ·rw [if_neg h0] at hv
   simp only [Prod.mk.injEq] at hv
   obtain ⟨rfl,rfl,rfl⟩:=hv
   go_enter Tryz.func86,Tryz.ntmps86
   go_wp2_with (go_at_call 94;(with_reducible refine (stringslite_Index.calls _ _ _ _ HX.out).mono ?_);rintro e w' ⟨rfl,⟨nd,rfl⟩⟩)
   go_ret3
   exact ⟨by first|rfl|(simp;done),by repeat (first|exact Drawn0.refl _|apply Drawn0.step)⟩
 ·rw [if_neg hs] at h
  exact absurd h (by simp)

/-! ### strings_Cut: function 71 -/
-- BY HAND
def strings_Cut.f (a0:ByteArray) (a1:ByteArray):Option (ByteArray×ByteArray×Bool):=stringslite_Cut.f a0 a1
theorem strings_Cut.calls (a0:ByteArray) (a1:ByteArray) (r1:ByteArray) (r2:ByteArray) (r3:Bool) (w:World) (h:strings_Cut.f a0 a1=some (r1,r2,r3)) :
  Calls Tryz.prog 71 #[.string a0,.string a1] w fun e w'=>e=.returned (.tuple #[.string r1,.string r2,.bool r3])∧Drawn0 w w':=by
 have HX:Aside0 (stringslite_Cut.f a0 a1=some (r1,r2,r3)):=⟨h⟩
 clear h
 go_enter Tryz.func71,Tryz.ntmps71
 go_wp2_with (go_at_call 86;(with_reducible refine (stringslite_Cut.calls _ _ _ _ _ _ HX.out).mono ?_);rintro e w' ⟨rfl,⟨nd,rfl⟩⟩)
 go_ret3
 exact ⟨by first|rfl|(simp;done),by repeat (first|exact Drawn0.refl _|apply Drawn0.step)⟩

/-! ### name_letter: function 87 -/
def name_letter.f (a0:Int):Option (Bool):=if a0 ≥ 97 then (if a0≤122 then (some true) else (if a0 ≥ 48 then (if a0≤57 then (some true) else (some (a0 == 45))) else (some (a0 == 45)))) else (if a0 ≥ 48 then (if a0≤57 then (some true) else (some (a0 == 45))) else (some (a0 == 45)))
theorem name_letter.calls (a0:Int) (r:Bool) (w:World) (h:name_letter.f a0=some r) :
  Calls Tryz.prog 87 #[.int .u8 a0] w fun e w'=>e=.returned (.bool r)∧Drawn0 w w':=by
 have H:(if a0 ≥ 97 then (if a0≤122 then (some true) else (if a0 ≥ 48 then (if a0≤57 then (some true) else (some (a0 == 45))) else (some (a0 == 45)))) else (if a0 ≥ 48 then (if a0≤57 then (some true) else (some (a0 == 45))) else (some (a0 == 45))))=some r:=h
 clear h
 by_cases c2:a0 ≥ 97
 ·rw [if_pos c2] at H
  have c2b0:decide (97≤a0)=true:=decide_eq_true c2
  clear c2
  by_cases c3:a0≤122
  ·rw [if_pos c3] at H
   have c3b0:decide (a0≤122)=true:=decide_eq_true c3
   clear c3
   obtain rfl:=e5_ H
   go_enter Tryz.func87,Tryz.ntmps87
   go_wp2
   go_ret
   exact ⟨by first|rfl|(simp;done)|(simp [*];done),by repeat (first|exact Drawn0.refl _|apply Drawn0.step)⟩
  rw [if_neg c3] at H
  have c3b0:decide (a0≤122)=false:=decide_eq_false c3
  clear c3
  by_cases c4:a0 ≥ 48
  ·rw [if_pos c4] at H
   have c4b0:decide (48≤a0)=true:=decide_eq_true c4
   clear c4
   by_cases c5:a0≤57
   ·rw [if_pos c5] at H
    have c5b0:decide (a0≤57)=true:=decide_eq_true c5
    clear c5
    obtain rfl:=e5_ H
    go_enter Tryz.func87,Tryz.ntmps87
    go_wp2
    go_ret
    exact ⟨by first|rfl|(simp;done)|(simp [*];done),by repeat (first|exact Drawn0.refl _|apply Drawn0.step)⟩
   rw [if_neg c5] at H
   have c5b0:decide (a0≤57)=false:=decide_eq_false c5
   clear c5
   obtain rfl:=e5_ H
   go_enter Tryz.func87,Tryz.ntmps87
   go_wp2
   go_ret
   exact ⟨by first|rfl|(simp;done)|(simp [*];done),by repeat (first|exact Drawn0.refl _|apply Drawn0.step)⟩
  rw [if_neg c4] at H
  have c4b0:decide (48≤a0)=false:=decide_eq_false c4
  clear c4
  obtain rfl:=e5_ H
  go_enter Tryz.func87,Tryz.ntmps87
  go_wp2
  go_ret
  exact ⟨by first|rfl|(simp;done)|(simp [*];done),by repeat (first|exact Drawn0.refl _|apply Drawn0.step)⟩
 rw [if_neg c2] at H
 have c2b0:decide (97≤a0)=false:=decide_eq_false c2
 clear c2
 by_cases c6:a0 ≥ 48
 ·rw [if_pos c6] at H
  have c6b0:decide (48≤a0)=true:=decide_eq_true c6
  clear c6
  by_cases c7:a0≤57
  ·rw [if_pos c7] at H
   have c7b0:decide (a0≤57)=true:=decide_eq_true c7
   clear c7
   obtain rfl:=e5_ H
   go_enter Tryz.func87,Tryz.ntmps87
   go_wp2
   go_ret
   exact ⟨by first|rfl|(simp;done)|(simp [*];done),by repeat (first|exact Drawn0.refl _|apply Drawn0.step)⟩
  rw [if_neg c7] at H
  have c7b0:decide (a0≤57)=false:=decide_eq_false c7
  clear c7
  obtain rfl:=e5_ H
  go_enter Tryz.func87,Tryz.ntmps87
  go_wp2
  go_ret
  exact ⟨by first|rfl|(simp;done)|(simp [*];done),by repeat (first|exact Drawn0.refl _|apply Drawn0.step)⟩
 rw [if_neg c6] at H
 have c6b0:decide (48≤a0)=false:=decide_eq_false c6
 clear c6
 obtain rfl:=e5_ H
 go_enter Tryz.func87,Tryz.ntmps87
 go_wp2
 go_ret
 exact ⟨by first|rfl|(simp;done)|(simp [*];done),by repeat (first|exact Drawn0.refl _|apply Drawn0.step)⟩

/-! ### name_Label: function 72 -/
def name_Label.l0:Nat→ByteArray→Int→Int→Option (Bool)
 | 0,_,_,_=>none
 | k+1,x0,x5,x6=>if x6 < x5 then (if 0≤x6 then (if x6 < (x0.size:Int) then ((name_letter.f (bt x0 x6)).bind fun t127=>(if t127=true then (name_Label.l0 k x0 x5 (wrap64 (x6+1))) else (some false))) else (none)) else (none)) else (if (x0.size:Int) ≥ 1 then (some (decide ((x0.size:Int)≤8))) else (some false))
def name_Label.f (k:Nat) (a0:ByteArray):Option (Bool):=name_Label.l0 k a0 (a0.size:Int) 0
theorem name_Label.mono_l:∀ k,(∀y0 y1 y2,LeO (name_Label.l0 k y0 y1 y2) (name_Label.l0 (k+1) y0 y1 y2))
 | 0=>fun _ _ _ r h=>by simp [name_Label.l0] at h
 | k+1=>by
  have ih0:=name_Label.mono_l k
  ·intro y0 y1 y2
   unfold name_Label.l0
   repeat' first
   | (with_reducible exact ih0 _ _ _)
   | (with_reducible exact LeO.refl _)
   | (with_reducible exact LeO.none _)
   | (with_reducible refine LeO.ite ?_ ?_)
   | (with_reducible refine LeO.bind ?_ (fun _=>?_))
   | exact ih0 _ _ _
   | exact LeO.none _
   | refine LeO.ite ?_ ?_
   | refine LeO.bind ?_ (fun _=>?_)
theorem name_Label.mono:∀ a0 k,LeO (name_Label.f k a0) (name_Label.f (k+1) a0):=by
 intro a0 k
 have ih0:=name_Label.mono_l k
 unfold name_Label.f
 repeat' first
   | (with_reducible exact ih0 _ _ _)
   | (with_reducible exact LeO.refl _)
   | (with_reducible exact LeO.none _)
   | (with_reducible refine LeO.ite ?_ ?_)
   | (with_reducible refine LeO.bind ?_ (fun _=>?_))
   | exact ih0 _ _ _
   | exact LeO.none _
   | refine LeO.ite ?_ ?_
   | refine LeO.bind ?_ (fun _=>?_)
theorem name_Label.calls (k:Nat) (a0:ByteArray) (r:Bool) (w:World) (h:name_Label.f k a0=some r) :
  Calls Tryz.prog 72 #[.string a0] w fun e w'=>e=.returned (.bool r)∧Drawn0 w w':=by
 have H:(name_Label.l0 k a0 (a0.size:Int) 0)=some r:=h
 clear h
 have H':=am_ H
 clear H
 go_enter Tryz.func72,Tryz.ntmps72
 go_wp2
 go_loopg [6] k (fun kq v6 w'=>∃ (x6_1:Int),v6=.int .i64 x6_1∧Aside0 (name_Label.l0 kq a0 (a0.size:Int) x6_1=some r)∧Aside0 (kq≤k)∧Drawn0 w w')
 case atStart=>exact ⟨(0),(by first|rfl|(simp;done)|(simp [*];done)),H',⟨Nat.le_refl _⟩,by repeat (first|exact Drawn0.refl _|apply Drawn0.step)⟩
 case round =>
  clear H'
  obtain ⟨x6_1,rfl,HA,HK1,⟨m1,rfl⟩⟩:=hrel
  cases gk with
  | zero=>exact absurd HA.out (by simp [name_Label.l0])
  | succ k1 =>
   have H:=HA.out
   clear HA
   simp only [name_Label.l0] at H
   by_cases c2:x6_1 < (a0.size:Int)
   ·rw [if_pos c2] at H
    have c2b0:decide (x6_1 < (a0.size:Int))=true:=decide_eq_true c2
    clear c2
    by_cases c3:0≤x6_1
    rotate_left
    ·rw [if_neg c3] at H
     exact absurd H (by simp)
    rw [if_pos c3] at H
    have c3b0:decide (0≤x6_1)=true:=decide_eq_true c3
    clear c3
    by_cases c4:x6_1 < (a0.size:Int)
    rotate_left
    ·rw [if_neg c4] at H
     exact absurd H (by simp)
    rw [if_pos c4] at H
    have c4b0:decide (x6_1 < (a0.size:Int))=true:=decide_eq_true c4
    clear c4
    replace H:=e4_ H
    obtain ⟨t127,A60,H⟩:=H
    replace H:(if t127=true then (name_Label.l0 k1 a0 (a0.size:Int) (wrap64 (x6_1+1))) else (some false))=some r:=H
    have A6:=am_ A60
    clear A60
    by_cases c7:t127=true
    ·subst c7
     have H1:(name_Label.l0 k1 a0 (a0.size:Int) (wrap64 (x6_1+1)))=some r:=by rw [if_pos rfl] at H;exact H
     clear H
     have H:=H1
     clear H1
     have H':=am_ H
     clear H
     have p5:0≤(x6_1:Int):=of_decide_eq_true (by first|(with_reducible assumption)|assumption)
     have q5:x6_1 < (a0.size:Int):=of_decide_eq_true (by first|(with_reducible assumption)|assumption)
     have hx5:=bt_at a0 x6_1
     replace p5:=eq_true p5
     replace q5:=eq_true q5
     go_wp2_with (first|((with_reducible refine gate_callee (f:=87) rfl ?_);refine goesL_ (some 12) rfl rfl Tryz.func87 (by kernel_rfl) rfl #[.int .u8 (bt a0 x6_1)] rfl (by (try simp only [List.map_toArray,List.map_cons,List.map_nil]);first|done|rfl|(simp only [List.length_drop,List.length_take];rfl)) ?_;(with_reducible refine (name_letter.calls (bt a0 x6_1) true _ A6.out).mono ?_);rintro e w' ⟨rfl,⟨nd,rfl⟩⟩;refine ⟨_,rfl,?_⟩))
     go_roundg k1
     case measure=>have:=HK1.out;omega
     case rel=>exact ⟨(wrap64 (x6_1+1)),(by first|rfl|(simp;done)|(simp [*];done)),H',⟨by have:=HK1.out;omega⟩,by repeat (first|exact Drawn0.refl _|apply Drawn0.step)⟩
    replace c7:=e3_ c7
    subst c7
    have H1:(some false)=some r:=by rw [if_neg (show ¬(false=true) by decide)] at H;exact H
    clear H
    have H:=H1
    clear H1
    obtain rfl:=e5_ H
    have p5:0≤(x6_1:Int):=of_decide_eq_true (by first|(with_reducible assumption)|assumption)
    have q5:x6_1 < (a0.size:Int):=of_decide_eq_true (by first|(with_reducible assumption)|assumption)
    have hx5:=bt_at a0 x6_1
    replace p5:=eq_true p5
    replace q5:=eq_true q5
    go_wp2_with (first|((with_reducible refine gate_callee (f:=87) rfl ?_);refine goesL_ (some 12) rfl rfl Tryz.func87 (by kernel_rfl) rfl #[.int .u8 (bt a0 x6_1)] rfl (by (try simp only [List.map_toArray,List.map_cons,List.map_nil]);first|done|rfl|(simp only [List.length_drop,List.length_take];rfl)) ?_;(with_reducible refine (name_letter.calls (bt a0 x6_1) false _ A6.out).mono ?_);rintro e w' ⟨rfl,⟨nd,rfl⟩⟩;refine ⟨_,rfl,?_⟩))
    go_ret
    exact ⟨by first|rfl|(simp;done)|(simp [*];done),by repeat (first|exact Drawn0.refl _|apply Drawn0.step)⟩
   rw [if_neg c2] at H
   have c2b0:decide (x6_1 < (a0.size:Int))=false:=decide_eq_false c2
   clear c2
   by_cases c8:(a0.size:Int) ≥ 1
   ·rw [if_pos c8] at H
    have c8b0:decide (1≤(a0.size:Int))=true:=decide_eq_true c8
    have c8b1:decide (1≤a0.size)=true:=decide_eq_true (by omega)
    clear c8
    obtain rfl:=e5_ H
    go_wp2
    go_ret
    exact ⟨by first|rfl|(simp;done)|(simp [*];done),by repeat (first|exact Drawn0.refl _|apply Drawn0.step)⟩
   rw [if_neg c8] at H
   have c8b0:decide (1≤(a0.size:Int))=false:=decide_eq_false c8
   have c8b1:decide (1≤a0.size)=false:=decide_eq_false (by omega)
   clear c8
   obtain rfl:=e5_ H
   go_wp2
   go_ret
   exact ⟨by first|rfl|(simp;done)|(simp [*];done),by repeat (first|exact Drawn0.refl _|apply Drawn0.step)⟩

/-! ### name_May: function 44 -/
def name_May.l0:Nat→Int→ByteArray→Bool→Option (Bool)
 | 0,_,_,_=>none
 | k+1,x3,x4,x5=>if x5=true then ((strings_Cut.f x4 (⟨#[46]⟩:ByteArray)).bind fun bt128=>((name_Label.f k bt128.1).bind fun t131=>(if t131=true then (if (wrap64 (x3+1)) > 8 then (some false) else (name_May.l0 k (wrap64 (x3+1)) bt128.2.1 bt128.2.2)) else (some false)))) else (some true)
def name_May.f (k:Nat) (a0:ByteArray):Option (Bool):=name_May.l0 k 0 a0 (a0.toList != ([]:List UInt8))
theorem name_May.mono_l:∀ k,(∀y0 y1 y2,LeO (name_May.l0 k y0 y1 y2) (name_May.l0 (k+1) y0 y1 y2))
 | 0=>fun _ _ _ r h=>by simp [name_May.l0] at h
 | k+1=>by
  have ih0:=name_May.mono_l k
  ·intro y0 y1 y2
   unfold name_May.l0
   repeat' first
   | (with_reducible exact ih0 _ _ _)
   | (with_reducible exact name_Label.mono _ _)
   | (with_reducible exact LeO.refl _)
   | (with_reducible exact LeO.none _)
   | (with_reducible refine LeO.ite ?_ ?_)
   | (with_reducible refine LeO.bind ?_ (fun _=>?_))
   | exact ih0 _ _ _
   | exact name_Label.mono _ _
   | exact LeO.none _
   | refine LeO.ite ?_ ?_
   | refine LeO.bind ?_ (fun _=>?_)
theorem name_May.mono:∀ a0 k,LeO (name_May.f k a0) (name_May.f (k+1) a0):=by
 intro a0 k
 have ih0:=name_May.mono_l k
 unfold name_May.f
 repeat' first
   | (with_reducible exact ih0 _ _ _)
   | (with_reducible exact name_Label.mono _ _)
   | (with_reducible exact LeO.refl _)
   | (with_reducible exact LeO.none _)
   | (with_reducible refine LeO.ite ?_ ?_)
   | (with_reducible refine LeO.bind ?_ (fun _=>?_))
   | exact ih0 _ _ _
   | exact name_Label.mono _ _
   | exact LeO.none _
   | refine LeO.ite ?_ ?_
   | refine LeO.bind ?_ (fun _=>?_)
theorem name_May.calls (k:Nat) (a0:ByteArray) (r:Bool) (w:World) (h:name_May.f k a0=some r) :
  Calls Tryz.prog 44 #[.string a0] w fun e w'=>e=.returned (.bool r)∧Drawn0 w w':=by
 have H:(name_May.l0 k 0 a0 (a0.toList != ([]:List UInt8)))=some r:=h
 clear h
 have H':=am_ H
 clear H
 go_enter Tryz.func44,Tryz.ntmps44
 go_wp2
 go_loopg [3,4,5] k (fun kq v3 v4 v5 w'=>∃ (x3_1:Int) (x4_1:ByteArray) (x5_1:Bool),v3=.int .i64 x3_1∧v4=.string x4_1∧v5=.bool x5_1∧Aside0 (name_May.l0 kq x3_1 x4_1 x5_1=some r)∧Aside0 (kq≤k)∧Drawn0 w w')
 case atStart=>exact ⟨(0),(a0),((a0.toList != ([]:List UInt8))),(by first|rfl|(simp;done)|(simp [*];done)|(simp only [str_ne_];rfl)|(simp only [str_eq_];rfl)),(by first|rfl|(simp;done)|(simp [*];done)|(simp only [str_ne_];rfl)|(simp only [str_eq_];rfl)),(by first|rfl|(simp;done)|(simp [*];done)|(simp only [str_ne_];rfl)|(simp only [str_eq_];rfl)),H',⟨Nat.le_refl _⟩,by repeat (first|exact Drawn0.refl _|apply Drawn0.step)⟩
 case round =>
  clear H'
  obtain ⟨x3_1,x4_1,x5_1,rfl,rfl,rfl,HA,HK1,⟨m1,rfl⟩⟩:=hrel
  cases gk with
  | zero=>exact absurd HA.out (by simp [name_May.l0])
  | succ k1 =>
   have H:=HA.out
   clear HA
   simp only [name_May.l0] at H
   by_cases c2:x5_1=true
   ·subst c2
    have H1:((strings_Cut.f x4_1 (⟨#[46]⟩:ByteArray)).bind fun bt128=>((name_Label.f k1 bt128.1).bind fun t131=>(if t131=true then (if (wrap64 (x3_1+1)) > 8 then (some false) else (name_May.l0 k1 (wrap64 (x3_1+1)) bt128.2.1 bt128.2.2)) else (some false))))=some r:=by rw [if_pos rfl] at H;exact H
    clear H
    have H:=H1
    clear H1
    replace H:=e4_ H
    obtain ⟨⟨t128,t129,t130⟩,A30,H⟩:=H
    replace H:((name_Label.f k1 t128).bind fun t131=>(if t131=true then (if (wrap64 (x3_1+1)) > 8 then (some false) else (name_May.l0 k1 (wrap64 (x3_1+1)) t129 t130)) else (some false)))=some r:=H
    have A3:=am_ A30
    clear A30
    replace H:=e4_ H
    obtain ⟨t131,A40,H⟩:=H
    replace H:(if t131=true then (if (wrap64 (x3_1+1)) > 8 then (some false) else (name_May.l0 k1 (wrap64 (x3_1+1)) t129 t130)) else (some false))=some r:=H
    have A4:=am_ A40
    clear A40
    by_cases c5:t131=true
    ·subst c5
     have H1:(if (wrap64 (x3_1+1)) > 8 then (some false) else (name_May.l0 k1 (wrap64 (x3_1+1)) t129 t130))=some r:=by rw [if_pos rfl] at H;exact H
     clear H
     have H:=H1
     clear H1
     by_cases c6:(wrap64 (x3_1+1)) > 8
     ·rw [if_pos c6] at H
      have c6b0:decide (8 < (wrap64 (x3_1+1)))=true:=decide_eq_true c6
      clear c6
      obtain rfl:=e5_ H
      go_wp2_with (first|((with_reducible refine gate_callee (f:=71) rfl ?_);refine goesL_ (some 15) rfl rfl Tryz.func71 (by kernel_rfl) rfl #[.string x4_1,.string (⟨#[46]⟩:ByteArray)] rfl (by (try simp only [List.map_toArray,List.map_cons,List.map_nil]);first|done|rfl|(simp only [List.length_drop,List.length_take];rfl)) ?_;(with_reducible refine (strings_Cut.calls x4_1 (⟨#[46]⟩:ByteArray) t128 t129 t130 _ A3.out).mono ?_);rintro e w' ⟨rfl,⟨nd,rfl⟩⟩;refine ⟨_,rfl,?_⟩)|((with_reducible refine gate_callee (f:=72) rfl ?_);refine goesL_ (some 22) rfl rfl Tryz.func72 (by kernel_rfl) rfl #[.string t128] rfl (by (try simp only [List.map_toArray,List.map_cons,List.map_nil]);first|done|rfl|(simp only [List.length_drop,List.length_take];rfl)) ?_;(with_reducible refine (name_Label.calls k1 t128 true _ A4.out).mono ?_);rintro e w' ⟨rfl,⟨nd,rfl⟩⟩;refine ⟨_,rfl,?_⟩))
      go_ret
      exact ⟨by first|rfl|(simp;done)|(simp [*];done)|(simp only [str_ne_];rfl)|(simp only [str_eq_];rfl),by repeat (first|exact Drawn0.refl _|apply Drawn0.step)⟩
     rw [if_neg c6] at H
     have c6b0:decide (8 < (wrap64 (x3_1+1)))=false:=decide_eq_false c6
     clear c6
     have H':=am_ H
     clear H
     go_wp2_with (first|((with_reducible refine gate_callee (f:=71) rfl ?_);refine goesL_ (some 15) rfl rfl Tryz.func71 (by kernel_rfl) rfl #[.string x4_1,.string (⟨#[46]⟩:ByteArray)] rfl (by (try simp only [List.map_toArray,List.map_cons,List.map_nil]);first|done|rfl|(simp only [List.length_drop,List.length_take];rfl)) ?_;(with_reducible refine (strings_Cut.calls x4_1 (⟨#[46]⟩:ByteArray) t128 t129 t130 _ A3.out).mono ?_);rintro e w' ⟨rfl,⟨nd,rfl⟩⟩;refine ⟨_,rfl,?_⟩)|((with_reducible refine gate_callee (f:=72) rfl ?_);refine goesL_ (some 22) rfl rfl Tryz.func72 (by kernel_rfl) rfl #[.string t128] rfl (by (try simp only [List.map_toArray,List.map_cons,List.map_nil]);first|done|rfl|(simp only [List.length_drop,List.length_take];rfl)) ?_;(with_reducible refine (name_Label.calls k1 t128 true _ A4.out).mono ?_);rintro e w' ⟨rfl,⟨nd,rfl⟩⟩;refine ⟨_,rfl,?_⟩))
     go_roundg k1
     case measure=>have:=HK1.out;omega
     case rel=>exact ⟨(wrap64 (x3_1+1)),(t129),(t130),(by first|rfl|(simp;done)|(simp [*];done)|(simp only [str_ne_];rfl)|(simp only [str_eq_];rfl)),(by first|rfl|(simp;done)|(simp [*];done)|(simp only [str_ne_];rfl)|(simp only [str_eq_];rfl)),(by first|rfl|(simp;done)|(simp [*];done)|(simp only [str_ne_];rfl)|(simp only [str_eq_];rfl)),H',⟨by have:=HK1.out;omega⟩,by repeat (first|exact Drawn0.refl _|apply Drawn0.step)⟩
    replace c5:=e3_ c5
    subst c5
    have H1:(some false)=some r:=by rw [if_neg (show ¬(false=true) by decide)] at H;exact H
    clear H
    have H:=H1
    clear H1
    obtain rfl:=e5_ H
    go_wp2_with (first|((with_reducible refine gate_callee (f:=71) rfl ?_);refine goesL_ (some 15) rfl rfl Tryz.func71 (by kernel_rfl) rfl #[.string x4_1,.string (⟨#[46]⟩:ByteArray)] rfl (by (try simp only [List.map_toArray,List.map_cons,List.map_nil]);first|done|rfl|(simp only [List.length_drop,List.length_take];rfl)) ?_;(with_reducible refine (strings_Cut.calls x4_1 (⟨#[46]⟩:ByteArray) t128 t129 t130 _ A3.out).mono ?_);rintro e w' ⟨rfl,⟨nd,rfl⟩⟩;refine ⟨_,rfl,?_⟩)|((with_reducible refine gate_callee (f:=72) rfl ?_);refine goesL_ (some 22) rfl rfl Tryz.func72 (by kernel_rfl) rfl #[.string t128] rfl (by (try simp only [List.map_toArray,List.map_cons,List.map_nil]);first|done|rfl|(simp only [List.length_drop,List.length_take];rfl)) ?_;(with_reducible refine (name_Label.calls k1 t128 false _ A4.out).mono ?_);rintro e w' ⟨rfl,⟨nd,rfl⟩⟩;refine ⟨_,rfl,?_⟩))
    go_ret
    exact ⟨by first|rfl|(simp;done)|(simp [*];done)|(simp only [str_ne_];rfl)|(simp only [str_eq_];rfl),by repeat (first|exact Drawn0.refl _|apply Drawn0.step)⟩
   replace c2:=e3_ c2
   subst c2
   have H1:(some true)=some r:=by rw [if_neg (show ¬(false=true) by decide)] at H;exact H
   clear H
   have H:=H1
   clear H1
   obtain rfl:=e5_ H
   go_wp2
   go_ret
   exact ⟨by first|rfl|(simp;done)|(simp [*];done)|(simp only [str_ne_];rfl)|(simp only [str_eq_];rfl),by repeat (first|exact Drawn0.refl _|apply Drawn0.step)⟩

/-! ### name_May_c: function 44 -/
-- inc name1.inc
theorem letter_eq (b:Int):name_letter.f b=some (letterB b):=by
 have e:∀ x:Bool,(x=true ↔ ((97≤b∧b≤122)∨(48≤b∧b≤57)∨b=45))→some x=some (letterB b):=by
  intro x hx
  congr 1
  rw [Bool.eq_iff_iff,hx]
  simp only [letterB,decide_eq_true_eq]
 unfold name_letter.f
 repeat' split
 all_goals apply e
 all_goals simp only [beq_iff_eq,true_iff]
 all_goals omega

theorem label_loop (s:ByteArray) (hs:s.size≤4611686018427387904) (d:Nat):∀ (k i:Nat),i+d=s.size→d < k →
  name_Label.l0 k s (s.size:Int) (i:Int)=some (((bytesOf s).drop i).all letterB && decide (1≤s.size∧s.size≤8)):=by
 induction d with
 | zero =>
  intro k i hi hk
  obtain ⟨k,rfl⟩:∃ m,k=m+1:=⟨k - 1,by omega⟩
  rw [name_Label.l0,if_neg (by omega),drop_end s i (by omega)]
  simp only [List.all_nil,Bool.true_and]
  split
  ·congr 1
   rw [Bool.eq_iff_iff]
   simp only [decide_eq_true_eq]
   omega
  ·congr 1
   symm
   rw [decide_eq_false_iff_not]
   omega
 | succ d ih =>
  intro k i hi hk
  obtain ⟨k,rfl⟩:∃ m,k=m+1:=⟨k - 1,by omega⟩
  rw [name_Label.l0,if_pos (by omega),if_pos (by omega),if_pos (by omega),letter_eq,drop_cons s i (by omega)]
  simp only [Option.bind_some,List.all_cons]
  cases letterB (bt s i) with
  | true =>
   rw [if_pos rfl,w64 (by omega)]
   have:=ih k (i+1) (by omega) (by omega)
   rw [show ((i:Int)+1)=((i+1:Nat):Int) by omega,this]
   simp
  | false=>simp
theorem label_eq (k:Nat) (s:ByteArray) (hs:s.size≤4611686018427387904) (hk:s.size < k):name_Label.f k s=some (labelB (bytesOf s)):=by
 unfold name_Label.f
 have:=label_loop s hs s.size k 0 (by omega) hk
 rw [show ((0:Nat):Int)=0 by rfl] at this
 rw [this]
 unfold labelB
 rw [List.drop_zero,bytesOf_length]

theorem may_loop (m:Nat):∀ (k n:Nat) (s:ByteArray),s.size≤m→s.size≤562949953421312→m+2≤k→n≤8 →
  name_May.l0 k (n:Int) s true=some ((cutL (bytesOf s)).all labelB && decide (n+(cutL (bytesOf s)).length≤8)):=by
 induction m with
 | zero =>
  intro k n s hm hs hk hn
  obtain ⟨k,rfl⟩:∃ j,k=j+1:=⟨k - 1,by omega⟩
  have hz:bytesOf s=[]:=List.length_eq_zero_iff.1 (by rw [bytesOf_length];omega)
  rw [name_May.l0,if_pos rfl]
  have hd:s.data.toList=[]:=List.length_eq_zero_iff.1 (by rw [data_length];omega)
  have hc:strings_Cut.f s ⟨#[46]⟩=some (s,⟨#[]⟩,false):=by
   unfold strings_Cut.f stringslite_Cut.f
   rw [if_pos ⟨rfl,hs⟩]
   unfold stringslite_Cut.v stringslite_Index.at_
   rw [hd]
   rfl
  rw [hc]
  simp only [Option.bind_some]
  rw [label_eq k s (by omega) (by omega),hz]
  simp [labelB,cutL]
 | succ m ih =>
  intro k n s hm hs hk hn
  obtain ⟨k,rfl⟩:∃ j,k=j+1:=⟨k - 1,by omega⟩
  rw [name_May.l0,if_pos rfl]
  rcases cut_index s.data.toList with ⟨h1,h2⟩|⟨h1,h1',h2⟩
  ·have hc:strings_Cut.f s ⟨#[46]⟩=some (s,⟨#[]⟩,false):=by
    unfold strings_Cut.f stringslite_Cut.f
    rw [if_pos ⟨rfl,hs⟩]
    unfold stringslite_Cut.v stringslite_Index.at_
    rw [show (⟨#[46]⟩:ByteArray).data.toList.headD 0=46 from rfl,h1,if_neg (by decide)]
   have h2':cutL (bytesOf s)=[bytesOf s]:=h2
   rw [hc,h2']
   simp only [Option.bind_some]
   rw [label_eq k s (by omega) (by omega)]
   simp only [Option.bind_some,List.all_cons,List.all_nil,Bool.and_true,List.length_cons,List.length_nil]
   cases labelB (bytesOf s) with
   | true =>
    rw [if_pos rfl,w64 (by omega)]
    by_cases h8:(n:Int)+1 > 8
    ·rw [if_pos h8,decide_eq_false (by omega)]
     rfl
    ·rw [if_neg h8,decide_eq_true (by omega)]
     obtain ⟨k,rfl⟩:∃ j,k=j+1:=⟨k - 1,by omega⟩
     rw [name_May.l0,if_neg (by decide)]
     rfl
   | false=>simp
  ·have hc:strings_Cut.f s ⟨#[46]⟩=some (s.extract 0 (Lib.indexByte s.data.toList 46).toNat,s.extract ((Lib.indexByte s.data.toList 46).toNat+1) s.size,true):=by
    unfold strings_Cut.f stringslite_Cut.f
    rw [if_pos ⟨rfl,hs⟩]
    unfold stringslite_Cut.v stringslite_Index.at_
    rw [show (⟨#[46]⟩:ByteArray).data.toList.headD 0=46 from rfl,if_pos h1]
   have h2':cutL (bytesOf s)=(bytesOf s).take (Lib.indexByte s.data.toList 46).toNat :: cutL ((bytesOf s).drop ((Lib.indexByte s.data.toList 46).toNat+1)):=h2
   rw [data_length] at h1'
   obtain ⟨i,hi⟩:∃ i:Nat,(Lib.indexByte s.data.toList 46).toNat=i:=⟨_,rfl⟩
   rw [hi] at hc h2'
   have hil:i < s.size:=by omega
   rw [hc]
   simp only [Option.bind_some]
   have e1:bytesOf (s.extract 0 i)=(bytesOf s).take i:=by rw [bytesOf_extract,List.drop_zero,Nat.sub_zero]
   have e2:bytesOf (s.extract (i+1) s.size)=(bytesOf s).drop (i+1):=by
    rw [bytesOf_extract,List.take_of_length_le (by rw [List.length_drop,bytesOf_length];omega)]
   have z1:(s.extract 0 i).size=i:=by rw [ByteArray.size_extract];omega
   have z2:(s.extract (i+1) s.size).size=s.size - (i+1):=by rw [ByteArray.size_extract];omega
   rw [label_eq k _ (by omega) (by omega),e1,h2']
   simp only [Option.bind_some,List.all_cons,List.length_cons]
   cases labelB ((bytesOf s).take i) with
   | true =>
    rw [if_pos rfl,w64 (by omega)]
    have hp:0 < (cutL ((bytesOf s).drop (i+1))).length:=List.length_pos_iff.2 (cutL_ne _)
    by_cases h8:(n:Int)+1 > 8
    ·rw [if_pos h8,decide_eq_false (by omega)]
     simp
    ·rw [if_neg h8,show (n:Int)+1=((n+1:Nat):Int) by omega,ih k (n+1) _ (by omega) (by omega) (by omega) (by omega),e2]
     simp only [Bool.true_and]
     rw [show n+1+(cutL ((bytesOf s).drop (i+1))).length=n+((cutL ((bytesOf s).drop (i+1))).length+1) by omega]
   | false=>simp

/-- what the program says of a name. -/
theorem name_eq (k:Nat) (s:ByteArray) (hs:s.size≤562949953421312) (hk:s.size+2≤k):name_May.f k s=some (nameB (bytesOf s)):=by
 unfold name_May.f nameB
 by_cases h:s.size=0
 ·have hz:bytesOf s=[]:=List.length_eq_zero_iff.1 (by rw [bytesOf_length];omega)
  have ht:(s.toList != ([]:List UInt8))=false:=by rw [(toList_nil s).2 h];rfl
  obtain ⟨k,rfl⟩:∃ j,k=j+1:=⟨k - 1,by omega⟩
  rw [ht,name_May.l0,if_neg (by decide),hz]
  rfl
 ·have hz:bytesOf s≠[]:=fun e=>h (by rw [←bytesOf_length,e];rfl)
  have ht:(s.toList != ([]:List UInt8))=true:=by
   rw [bne_iff_ne]
   exact fun e=>h ((toList_nil s).1 e)
  have:=may_loop s.size k 0 s (Nat.le_refl _) hs hk (by omega)
  rw [show ((0:Nat):Int)=0 by rfl] at this
  rw [ht,this,decide_eq_false hz,Bool.false_or,Nat.zero_add]
def name_May_c.f (a0:ByteArray):Option Bool:=if a0.size≤562949953421312 then some (nameB (bytesOf a0)) else none
theorem name_May_c.calls (a0:ByteArray) (r:Bool) (w:World) (h:name_May_c.f a0=some r) :
  Calls Tryz.prog 44 #[.string a0] w fun e w'=>e=.returned (.bool r)∧Drawn0 w w':=by
 unfold name_May_c.f at h
 by_cases hs:a0.size≤562949953421312
 ·rw [if_pos hs] at h
  obtain rfl:=e5_ h
  exact name_May.calls (a0.size+2) a0 _ w (name_eq _ a0 hs (Nat.le_refl _))
 ·rw [if_neg hs] at h
  cases h

/-! ### strings_Count: function 98 -/
-- BY HAND
/-- how often the one byte of the second text stands in the first. -/
def strings_Count.at_ (a0 a1:ByteArray):Nat:=Lib.countByte a0.data.toList (a1.data.toList.headD 0)
def strings_Count.f (a0:ByteArray) (a1:ByteArray):Option Int:=if a1.size=1 then some (strings_Count.at_ a0 a1) else none
theorem strings_Count.one {a:ByteArray} (h:a.size=1):∃ c,a=⟨#[c]⟩:=by
 have hl:a.data.toList.length=1:=by rw [data_length];exact h
 obtain ⟨c,hc⟩:=List.length_eq_one_iff.1 hl
 refine ⟨c,?_⟩
 have e:a=⟨a.data⟩:=rfl
 rw [e,show a.data=#[c] from Array.toList_inj.1 hc]
theorem strings_Count.calls (a0:ByteArray) (a1:ByteArray) (r:Int) (w:World) (h:strings_Count.f a0 a1=some r) :
  Calls Tryz.prog 98 #[.string a0,.string a1] w fun e w'=>e=.returned (.int .i64 r)∧Drawn0 w w':=by
 unfold strings_Count.f at h
 by_cases hs:a1.size=1
 ·rw [if_pos hs] at h
  obtain rfl:=e5_ h
  clear h
  obtain ⟨c,rfl⟩:=strings_Count.one hs
  clear hs
  show Calls _ _ _ _ fun e w'=>e=.returned (.int .i64 (Lib.countByte a0.data.toList c))∧Drawn0 w w'
  go_enter Tryz.func98,Tryz.ntmps98
  go_wp2
  rw [run_callFunc_extern Tryz.func108 (by kernel_rfl) (by kernel_rfl) (by kernel_rfl) (e:=Extern.BytealgCount.count) (by kernel_rfl),Lib.run_countString]
  simp only [Result.andThen]
  rw [Oper.upon_value]
  go_wp2
  go_ret
  exact ⟨rfl,Drawn0.refl _⟩
 ·rw [if_neg hs] at h
  exact absurd h (by simp)

/-! ### strings_Index: function 99 -/
def strings_Index.f (a0:ByteArray) (a1:ByteArray):Option (Int):=(stringslite_Index.f a0 a1).bind fun t132=>(some t132)
theorem strings_Index.calls (a0:ByteArray) (a1:ByteArray) (r:Int) (w:World) (h:strings_Index.f a0 a1=some r) :
  Calls Tryz.prog 99 #[.string a0,.string a1] w fun e w'=>e=.returned (.int .i64 r)∧Drawn0 w w':=by
 have H:((stringslite_Index.f a0 a1).bind fun t132=>(some t132))=some r:=h
 clear h
 replace H:=e4_ H
 obtain ⟨t132,A30,H⟩:=H
 replace H:(some t132)=some r:=H
 have A3:=am_ A30
 clear A30
 obtain rfl:=e5_ H
 go_enter Tryz.func99,Tryz.ntmps99
 go_wp2_with (first|((with_reducible refine gate_callee (f:=94) rfl ?_);refine goesL_ (some 7) rfl rfl Tryz.func94 (by kernel_rfl) rfl #[.string a0,.string a1] rfl (by (try simp only [List.map_toArray,List.map_cons,List.map_nil]);first|done|rfl|(simp only [List.length_drop,List.length_take];rfl)) ?_;(with_reducible refine (stringslite_Index.calls a0 a1 t132 _ A3.out).mono ?_);rintro e w' ⟨rfl,⟨nd,rfl⟩⟩;refine ⟨_,rfl,?_⟩))
 go_ret
 exact ⟨by first|rfl|(simp;done)|(simp [*];done),by repeat (first|exact Drawn0.refl _|apply Drawn0.step)⟩

end Go.Proofs.YtibalpbkmgegnaaGreatDoor.PL
