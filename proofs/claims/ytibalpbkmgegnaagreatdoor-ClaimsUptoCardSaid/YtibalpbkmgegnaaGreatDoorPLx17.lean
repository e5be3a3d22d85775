-- Made by wip/pr.py out of the translation (a turned copy of the kit's print; contracts by hand where said).
import Derived.Test.YtibalpbkmgegnaaGreatDoorPLx0
import Derived.Test.YtibalpbkmgegnaaGreatDoorPLx4
namespace Go.Proofs.YtibalpbkmgegnaaGreatDoor.PL
open Go.RowKit Go.Proofs.YtibalpbkmgegnaaGreatDoorW.PrintWords Go.Proofs.YtibalpbkmgegnaaGreatDoorW.PrintLast Go.Proofs.YtibalpbkmgegnaaGreatDoorW.PrintMore
-- shrunk
attribute [local go_sem] max2_int min2_int max_two min_two max_three min_three max_four min_four   -- for this text's walks alone
set_option linter.unusedVariables false
set_option linter.unusedSimpArgs false

/-! ### pinfoldref11_put: function 35 -/
-- BY HAND
theorem pinfoldref11_put.info:(Tryz.prog.info? 44).map (fun i=>(i.zero,i.size,i.bytes))=some (some (.agg #[.int .i64 0,.int .i64 0,.string ⟨#[]⟩,.int .i64 0,.string ⟨#[]⟩,.bool false]),6,64):=by kernel_rfl
def pinfoldref11_put_c.f (l0:List S44) (a1_0:Int) (a1_1:Int) (a1_2:ByteArray) (a1_3:Int) (a1_4:ByteArray) (a1_5:Bool):Option (List S44):=if l0.length≤1099511627776 then some (putL l0 ⟨a1_0,a1_1,a1_2,a1_3,a1_4,a1_5⟩) else none
set_option maxHeartbeats 8000000 in
set_option maxRecDepth 100000 in
theorem pinfoldref11_put_c.calls (A0:Option Addr) (c0:Nat) (l0:List S44) (a1_0:Int) (a1_1:Int) (a1_2:ByteArray) (a1_3:Int) (a1_4:ByteArray) (a1_5:Bool) (r:List S44) (w:World) (hr0:Kd.C k44 w A0 l0.length l0) (hc0:l0.length≤c0) (h:pinfoldref11_put_c.f l0 a1_0 a1_1 a1_2 a1_3 a1_4 a1_5=some r) :
  Calls Tryz.prog 35 #[.slice A0 l0.length c0,.agg #[.int .i64 a1_0,.int .i64 a1_1,.string a1_2,.int .i64 a1_3,.string a1_4,.bool a1_5]] w fun e w'=>∃ v0_:Value,e=.returned v0_∧Kd.R k44 44 w' w.heap.size (fun _=>True) v0_ r∧Below w.heap.size w w':=by
 unfold pinfoldref11_put_c.f at h
 by_cases hs:l0.length≤1099511627776
 rotate_left
 ·rw [if_neg hs] at h
  cases h
 rw [if_pos hs] at h
 have HE:=am_ (show ([]:List S44) ++ putGo (⟨a1_0,a1_1,a1_2,a1_3,a1_4,a1_5⟩:S44) false (l0.drop (0:Int).toNat)=r from e5_ h)
 have HR0:=am_ hr0
 have HB:=am_ (Below.refl w.heap.size w)
 have BK:=am_ (blk_new w (.cells #[.int .i64 a1_0,.int .i64 a1_1,.string a1_2,.int .i64 a1_3,.string a1_4,.bool a1_5] 44))
 clear h hr0 hc0
 go_enter Tryz.func35,Tryz.ntmps35
 go_wp2
 replace HB:=am_ (p3_ HB.out (.cells #[.int .i64 a1_0,.int .i64 a1_1,.string a1_2,.int .i64 a1_3,.string a1_4,.bool a1_5] 44))
 go_loopg [5,6,7] l0.length (fun d v5 v6 v7 w'=>∃ (i:Int) (dn:Bool) (acc:List S44),0≤i∧i.toNat+d=l0.length∧v6=.bool dn∧v7=.int .i64 i∧acc.length≤i.toNat+(if dn=true then 1 else 0)∧Aside0 (Below w.heap.size w w')∧Aside0 (w'.heap[w.heap.size]?=some (.cells #[.int .i64 a1_0,.int .i64 a1_1,.string a1_2,.int .i64 a1_3,.string a1_4,.bool a1_5] 44))∧Aside0 (Kd.R k44 44 w' w.heap.size (fun k_=>k_≠w.heap.size) v5 acc)∧Aside0 (acc ++ putGo (⟨a1_0,a1_1,a1_2,a1_3,a1_4,a1_5⟩:S44) dn (l0.drop i.toNat)=r))
 case atStart=>exact ⟨0,false,[],by omega,by simp,rfl,rfl,by simp,HB,BK,⟨Kd.R_nil _ _ _ _ _⟩,HE⟩
 case round =>
  clear HB BK HE
  obtain ⟨i,dn,acc,hi0,hd,rfl,rfl,hac,HB,BK,HO,HE⟩:=hrel
  have ua0:=bc_ BK.out 0;have ua1:=bc_ BK.out 1;have ua2:=bc_ BK.out 2;have ua3:=bc_ BK.out 3;have ua4:=bc_ BK.out 4;have ua5:=bc_ BK.out 5
  have tokA:True:=trivial
  by_cases hlt:i < (l0.length:Int)
  ·obtain ⟨ad,e1,hw⟩:=at_T44 HR0.out i hi0 hlt
   cases e1
   have he:=HE.out
   rw [(dropLease l0 i hi0 hlt).1] at he
   clear HE
   generalize rd_T44 l0 i=x at hw he
   obtain ⟨y0,y1,y2,y3,y4,y5⟩:=x
   simp only at hw
   have HW:=am_ hw
   clear hw
   have hx0:=(HB.out.cell (wb_ w _ HW.out.1)).trans HW.out.1;have hx1:=(HB.out.cell (wb_ w _ HW.out.2.1)).trans HW.out.2.1;have hx2:=(HB.out.cell (wb_ w _ HW.out.2.2.1)).trans HW.out.2.2.1;have hx3:=(HB.out.cell (wb_ w _ HW.out.2.2.2.1)).trans HW.out.2.2.2.1;have hx4:=(HB.out.cell (wb_ w _ HW.out.2.2.2.2.1)).trans HW.out.2.2.2.2.1;have hx5:=(HB.out.cell (wb_ w _ HW.out.2.2.2.2.2)).trans HW.out.2.2.2.2.2
   unfold putGo at he
   have M1:=am_ (show 0≤i+1 by omega)
   have M2:=am_ (show (i+1).toNat+(l0.length - (i.toNat+1))=l0.length by omega)
   have M3:=am_ (show l0.length - (i.toNat+1) < gk by omega)
   have M4:=am_ (show IntKind.i64.wrap (i+1)=i+1 from (i64_w _).trans (by unfold wrap64;omega))
   have hi2:i.toNat+1=(i+1).toNat:=by omega
   rw [hi2] at he
   have clt:=decide_eq_true hlt
   have cle:=decide_eq_true hi0
   have plt:=eq_true hlt
   have ple:=eq_true hi0
   cases dn with
   | true =>
    replace hac:acc.length≤i.toNat+1:=hac
    rw [if_neg (fun h=>by cases h.1),List.nil_append,Bool.true_or] at he
    by_cases q:y0=a1_0
    ·rw [if_pos q,List.nil_append] at he
     have HN:=am_ he
     have HL:=am_ (show acc.length≤(i+1).toNat+1 by omega)
     have qb:(y0 == a1_0)=true:=by simpa using q
     clear q he hi2 hd hi0 hlt hac
     go_wp2_with fail
     go_quiet (fail)
     go_wp2_with fail
     go_quiet (fail)
     go_wp2
     go_roundg (l0.length - (i.toNat+1))
     case measure=>exact M3.out
     case rel=>exact ⟨i+1,true,acc,M1.out,M2.out,rfl,by first|rfl|(rw [show wrap64 (i+1)=i+1 from (i64_w _).symm.trans M4.out]),HL.out,⟨(by repeat (with_reducible first|exact HB.out|apply p3_|apply p1_|apply p2_))⟩,⟨(by (with_reducible repeat (first|exact BK.out|refine k2_ ?_ _|refine k3_ ?_|refine k1_ ?_ _)))⟩,⟨by (with_reducible repeat (first|apply r1_|apply r2_|apply r3_));exact HO.out⟩,HN⟩
    ·rw [if_neg q,←List.append_assoc] at he
     have HN:=am_ he
     have HL:=am_ (show (acc ++ [(⟨y0,y1,y2,y3,y4,y5⟩:S44)]).length≤(i+1).toNat+1 by rw [List.length_append,List.length_singleton];omega)
     have qb:(y0 == a1_0)=false:=by simpa using q
     have LEN:=am_ (show (acc.length+1) * 64≤140737488355328 by omega)
     clear q he hi2 hd hi0 hlt hac
     go_wp2_with fail
     go_quiet (fail)
     go_wp2_with fail
     go_quiet (fail)
     go_wp2_with (first|((with_reducible refine gate_builtin (b:=.append) (xs:=#[.tmp 38,.tmp 43]) rfl ?_);at_builtin;refine Kd.R_append k44 (w0:=w) w.heap.size rfl (.tmp 38) (.tmp 43) 27 44 (.agg #[(.int .i64 0),(.int .i64 0),(.string ⟨#[]⟩),(.int .i64 0),(.string ⟨#[]⟩),(.bool false)]) 64 rfl Tryz.underlying27 pinfoldref11_put.info rfl (by decide) (by omega) u5 acc (⟨y0,y1,y2,y3,y4,y5⟩:S44) [.int .i64 y0,.int .i64 y1,.string y2,.int .i64 y3,.string y4,.bool y5] (fun k_=>k_≠w.heap.size) (fun _=>False) rfl rfl ?aP (fun _ hk=>hk.elim) ?aF ?aO ?aB ?aS ?aL ?_;(case aP=>exact k44_mkM _ _ _ (⟨y0,y1,y2,y3,y4,y5⟩:S44));(case aF=>exact (fun k_ hk=>Kd.freshB (g:=w.heap.size) (o:=(.cells #[.int .i64 a1_0,.int .i64 a1_1,.string a1_2,.int .i64 a1_3,.string a1_4,.bool a1_5] 44)) (by (with_reducible repeat (first|exact BK.out|refine k2_ ?_ _|refine k3_ ?_|refine k1_ ?_ _))) k_ hk));(case aO=>exact (by (with_reducible repeat (first|apply r1_|apply r2_|apply r3_));exact HO.out));(case aB=>exact (by repeat (with_reducible first|exact HB.out|apply p3_|apply p1_|apply p2_)));(case aS=>exact (bz_ (by repeat (with_reducible first|exact HB.out|apply p3_|apply p1_|apply p2_))));(case aL=>exact LEN.out);intro v9 w9 ho hb hg hat;have n0:=am_ (blk_grown (g:=w.heap.size) (o:=(.cells #[.int .i64 a1_0,.int .i64 a1_1,.string a1_2,.int .i64 a1_3,.string a1_4,.bool a1_5] 44)) (by (with_reducible repeat (first|exact BK.out|refine k2_ ?_ _|refine k3_ ?_|refine k1_ ?_ _))) hg (Kd.R_away HO.out (fun _ hk=>hk)));have n1:=am_ hb;have n2:=am_ ho;clear BK HB HO ho hb hg hat;have BK:=n0;have HB:=n1;have HO:=n2;clear n0 n1 n2;clear ua0 ua1 ua2 ua3 ua4 ua5 hx0 hx1 hx2 hx3 hx4 hx5))
     go_roundg (l0.length - (i.toNat+1))
     case measure=>exact M3.out
     case rel=>exact ⟨i+1,true,(acc ++ [(⟨y0,y1,y2,y3,y4,y5⟩:S44)]),M1.out,M2.out,rfl,by first|rfl|(rw [show wrap64 (i+1)=i+1 from (i64_w _).symm.trans M4.out]),HL.out,⟨(by repeat (with_reducible first|exact HB.out|apply p3_|apply p1_|apply p2_))⟩,⟨(by (with_reducible repeat (first|exact BK.out|refine k2_ ?_ _|refine k3_ ?_|refine k1_ ?_ _)))⟩,⟨by (with_reducible repeat (first|apply r1_|apply r2_|apply r3_));exact HO.out⟩,HN⟩
   | false =>
    replace hac:acc.length≤i.toNat:=hac
    rw [Bool.false_or] at he
    by_cases q:y0 ≥ a1_0
    rotate_left
    ·rw [if_neg (fun h=>q h.2),List.nil_append,if_neg (show ¬y0=a1_0 from fun e=>q (by omega)),decide_eq_false q,←List.append_assoc] at he
     have HN:=am_ he
     have HL:=am_ (show (acc ++ [(⟨y0,y1,y2,y3,y4,y5⟩:S44)]).length≤(i+1).toNat+0 by rw [List.length_append,List.length_singleton];omega)
     have qb:(y0 == a1_0)=false:=by simpa using (fun e:y0=a1_0=>q (by omega))
     have qc:decide (a1_0≤y0)=false:=decide_eq_false q
     have LEN:=am_ (show (acc.length+1) * 64≤140737488355328 by omega)
     clear q he hi2 hd hi0 hlt hac
     go_wp2_with fail
     go_quiet (fail)
     go_wp2_with fail
     go_quiet (fail)
     go_wp2_with (first|((with_reducible refine gate_builtin (b:=.append) (xs:=#[.tmp 38,.tmp 43]) rfl ?_);at_builtin;refine Kd.R_append k44 (w0:=w) w.heap.size rfl (.tmp 38) (.tmp 43) 27 44 (.agg #[(.int .i64 0),(.int .i64 0),(.string ⟨#[]⟩),(.int .i64 0),(.string ⟨#[]⟩),(.bool false)]) 64 rfl Tryz.underlying27 pinfoldref11_put.info rfl (by decide) (by omega) u5 acc (⟨y0,y1,y2,y3,y4,y5⟩:S44) [.int .i64 y0,.int .i64 y1,.string y2,.int .i64 y3,.string y4,.bool y5] (fun k_=>k_≠w.heap.size) (fun _=>False) rfl rfl ?aP (fun _ hk=>hk.elim) ?aF ?aO ?aB ?aS ?aL ?_;(case aP=>exact k44_mkM _ _ _ (⟨y0,y1,y2,y3,y4,y5⟩:S44));(case aF=>exact (fun k_ hk=>Kd.freshB (g:=w.heap.size) (o:=(.cells #[.int .i64 a1_0,.int .i64 a1_1,.string a1_2,.int .i64 a1_3,.string a1_4,.bool a1_5] 44)) (by (with_reducible repeat (first|exact BK.out|refine k2_ ?_ _|refine k3_ ?_|refine k1_ ?_ _))) k_ hk));(case aO=>exact (by (with_reducible repeat (first|apply r1_|apply r2_|apply r3_));exact HO.out));(case aB=>exact (by repeat (with_reducible first|exact HB.out|apply p3_|apply p1_|apply p2_)));(case aS=>exact (bz_ (by repeat (with_reducible first|exact HB.out|apply p3_|apply p1_|apply p2_))));(case aL=>exact LEN.out);intro v9 w9 ho hb hg hat;have n0:=am_ (blk_grown (g:=w.heap.size) (o:=(.cells #[.int .i64 a1_0,.int .i64 a1_1,.string a1_2,.int .i64 a1_3,.string a1_4,.bool a1_5] 44)) (by (with_reducible repeat (first|exact BK.out|refine k2_ ?_ _|refine k3_ ?_|refine k1_ ?_ _))) hg (Kd.R_away HO.out (fun _ hk=>hk)));have n1:=am_ hb;have n2:=am_ ho;clear BK HB HO ho hb hg hat;have BK:=n0;have HB:=n1;have HO:=n2;clear n0 n1 n2;clear ua0 ua1 ua2 ua3 ua4 ua5 hx0 hx1 hx2 hx3 hx4 hx5))
     go_roundg (l0.length - (i.toNat+1))
     case measure=>exact M3.out
     case rel=>exact ⟨i+1,false,(acc ++ [(⟨y0,y1,y2,y3,y4,y5⟩:S44)]),M1.out,M2.out,rfl,by first|rfl|(rw [show wrap64 (i+1)=i+1 from (i64_w _).symm.trans M4.out]),HL.out,⟨(by repeat (with_reducible first|exact HB.out|apply p3_|apply p1_|apply p2_))⟩,⟨(by (with_reducible repeat (first|exact BK.out|refine k2_ ?_ _|refine k3_ ?_|refine k1_ ?_ _)))⟩,⟨by (with_reducible repeat (first|apply r1_|apply r2_|apply r3_));exact HO.out⟩,HN⟩
    rw [if_pos ⟨rfl,q⟩,decide_eq_true q,←List.append_assoc] at he
    have qc:decide (a1_0≤y0)=true:=decide_eq_true q
    have LEN:=am_ (show (acc.length+1) * 64≤140737488355328 by omega)
    have LEN2:=am_ (show ((acc ++ [(⟨a1_0,a1_1,a1_2,a1_3,a1_4,a1_5⟩:S44)]).length+1) * 64≤140737488355328 by rw [List.length_append,List.length_singleton];omega)
    by_cases q2:y0=a1_0
    ·rw [if_pos q2,List.nil_append] at he
     have HN:=am_ he
     have HL:=am_ (show (acc ++ [(⟨a1_0,a1_1,a1_2,a1_3,a1_4,a1_5⟩:S44)]).length≤(i+1).toNat+1 by rw [List.length_append,List.length_singleton];omega)
     have qb:(y0 == a1_0)=true:=by simpa using q2
     clear q q2 he hi2 hd hi0 hlt hac
     go_wp2_with fail
     go_quiet (fail)
     go_wp2_with (first|(have N1:=tokA;clear tokA N1;((with_reducible refine gate_builtin (b:=.append) (xs:=#[.tmp 26,.tmp 28]) rfl ?_);at_builtin;refine Kd.R_append k44 (w0:=w) w.heap.size rfl (.tmp 26) (.tmp 28) 27 44 (.agg #[(.int .i64 0),(.int .i64 0),(.string ⟨#[]⟩),(.int .i64 0),(.string ⟨#[]⟩),(.bool false)]) 64 rfl Tryz.underlying27 pinfoldref11_put.info rfl (by decide) (by omega) u5 acc (⟨a1_0,a1_1,a1_2,a1_3,a1_4,a1_5⟩:S44) [.int .i64 a1_0,.int .i64 a1_1,.string a1_2,.int .i64 a1_3,.string a1_4,.bool a1_5] (fun k_=>k_≠w.heap.size) (fun _=>False) rfl rfl ?aP (fun _ hk=>hk.elim) ?aF ?aO ?aB ?aS ?aL ?_;(case aP=>exact k44_mkM _ _ _ (⟨a1_0,a1_1,a1_2,a1_3,a1_4,a1_5⟩:S44));(case aF=>exact (fun k_ hk=>Kd.freshB (g:=w.heap.size) (o:=(.cells #[.int .i64 a1_0,.int .i64 a1_1,.string a1_2,.int .i64 a1_3,.string a1_4,.bool a1_5] 44)) (by (with_reducible repeat (first|exact BK.out|refine k2_ ?_ _|refine k3_ ?_|refine k1_ ?_ _))) k_ hk));(case aO=>exact (by (with_reducible repeat (first|apply r1_|apply r2_|apply r3_));exact HO.out));(case aB=>exact (by repeat (with_reducible first|exact HB.out|apply p3_|apply p1_|apply p2_)));(case aS=>exact (bz_ (by repeat (with_reducible first|exact HB.out|apply p3_|apply p1_|apply p2_))));(case aL=>exact LEN.out);intro v9 w9 ho hb hg hat;have n0:=am_ (blk_grown (g:=w.heap.size) (o:=(.cells #[.int .i64 a1_0,.int .i64 a1_1,.string a1_2,.int .i64 a1_3,.string a1_4,.bool a1_5] 44)) (by (with_reducible repeat (first|exact BK.out|refine k2_ ?_ _|refine k3_ ?_|refine k1_ ?_ _))) hg (Kd.R_away HO.out (fun _ hk=>hk)));have n1:=am_ hb;have n2:=am_ ho;clear BK HB HO ho hb hg hat;have BK:=n0;have HB:=n1;have HO:=n2;clear n0 n1 n2;have LEN:=LEN2;clear LEN2 ua0 ua1 ua2 ua3 ua4 ua5 hx0 hx1 hx2 hx3 hx4 hx5;have ua0:=bc_ BK.out 0;have ua1:=bc_ BK.out 1;have ua2:=bc_ BK.out 2;have ua3:=bc_ BK.out 3;have ua4:=bc_ BK.out 4;have ua5:=bc_ BK.out 5;have hx0:=(HB.out.cell (wb_ w _ HW.out.1)).trans HW.out.1;have hx1:=(HB.out.cell (wb_ w _ HW.out.2.1)).trans HW.out.2.1;have hx2:=(HB.out.cell (wb_ w _ HW.out.2.2.1)).trans HW.out.2.2.1;have hx3:=(HB.out.cell (wb_ w _ HW.out.2.2.2.1)).trans HW.out.2.2.2.1;have hx4:=(HB.out.cell (wb_ w _ HW.out.2.2.2.2.1)).trans HW.out.2.2.2.2.1;have hx5:=(HB.out.cell (wb_ w _ HW.out.2.2.2.2.2)).trans HW.out.2.2.2.2.2)))
     go_quiet (fail)
     go_wp2
     go_roundg (l0.length - (i.toNat+1))
     case measure=>exact M3.out
     case rel=>exact ⟨i+1,true,(acc ++ [(⟨a1_0,a1_1,a1_2,a1_3,a1_4,a1_5⟩:S44)]),M1.out,M2.out,rfl,by first|rfl|(rw [show wrap64 (i+1)=i+1 from (i64_w _).symm.trans M4.out]),HL.out,⟨(by repeat (with_reducible first|exact HB.out|apply p3_|apply p1_|apply p2_))⟩,⟨(by (with_reducible repeat (first|exact BK.out|refine k2_ ?_ _|refine k3_ ?_|refine k1_ ?_ _)))⟩,⟨by (with_reducible repeat (first|apply r1_|apply r2_|apply r3_));exact HO.out⟩,HN⟩
    ·rw [if_neg q2,←List.append_assoc] at he
     have HN:=am_ he
     have HL:=am_ (show ((acc ++ [(⟨a1_0,a1_1,a1_2,a1_3,a1_4,a1_5⟩:S44)]) ++ [(⟨y0,y1,y2,y3,y4,y5⟩:S44)]).length≤(i+1).toNat+1 by rw [List.length_append,List.length_append,List.length_singleton,List.length_singleton];omega)
     have qb:(y0 == a1_0)=false:=by simpa using q2
     clear q q2 he hi2 hd hi0 hlt hac
     go_wp2_with fail
     go_quiet (fail)
     go_wp2_with (first|(have N1:=tokA;clear tokA N1;((with_reducible refine gate_builtin (b:=.append) (xs:=#[.tmp 26,.tmp 28]) rfl ?_);at_builtin;refine Kd.R_append k44 (w0:=w) w.heap.size rfl (.tmp 26) (.tmp 28) 27 44 (.agg #[(.int .i64 0),(.int .i64 0),(.string ⟨#[]⟩),(.int .i64 0),(.string ⟨#[]⟩),(.bool false)]) 64 rfl Tryz.underlying27 pinfoldref11_put.info rfl (by decide) (by omega) u5 acc (⟨a1_0,a1_1,a1_2,a1_3,a1_4,a1_5⟩:S44) [.int .i64 a1_0,.int .i64 a1_1,.string a1_2,.int .i64 a1_3,.string a1_4,.bool a1_5] (fun k_=>k_≠w.heap.size) (fun _=>False) rfl rfl ?aP (fun _ hk=>hk.elim) ?aF ?aO ?aB ?aS ?aL ?_;(case aP=>exact k44_mkM _ _ _ (⟨a1_0,a1_1,a1_2,a1_3,a1_4,a1_5⟩:S44));(case aF=>exact (fun k_ hk=>Kd.freshB (g:=w.heap.size) (o:=(.cells #[.int .i64 a1_0,.int .i64 a1_1,.string a1_2,.int .i64 a1_3,.string a1_4,.bool a1_5] 44)) (by (with_reducible repeat (first|exact BK.out|refine k2_ ?_ _|refine k3_ ?_|refine k1_ ?_ _))) k_ hk));(case aO=>exact (by (with_reducible repeat (first|apply r1_|apply r2_|apply r3_));exact HO.out));(case aB=>exact (by repeat (with_reducible first|exact HB.out|apply p3_|apply p1_|apply p2_)));(case aS=>exact (bz_ (by repeat (with_reducible first|exact HB.out|apply p3_|apply p1_|apply p2_))));(case aL=>exact LEN.out);intro v9 w9 ho hb hg hat;have n0:=am_ (blk_grown (g:=w.heap.size) (o:=(.cells #[.int .i64 a1_0,.int .i64 a1_1,.string a1_2,.int .i64 a1_3,.string a1_4,.bool a1_5] 44)) (by (with_reducible repeat (first|exact BK.out|refine k2_ ?_ _|refine k3_ ?_|refine k1_ ?_ _))) hg (Kd.R_away HO.out (fun _ hk=>hk)));have n1:=am_ hb;have n2:=am_ ho;clear BK HB HO ho hb hg hat;have BK:=n0;have HB:=n1;have HO:=n2;clear n0 n1 n2;have LEN:=LEN2;clear LEN2 ua0 ua1 ua2 ua3 ua4 ua5 hx0 hx1 hx2 hx3 hx4 hx5;have ua0:=bc_ BK.out 0;have ua1:=bc_ BK.out 1;have ua2:=bc_ BK.out 2;have ua3:=bc_ BK.out 3;have ua4:=bc_ BK.out 4;have ua5:=bc_ BK.out 5;have hx0:=(HB.out.cell (wb_ w _ HW.out.1)).trans HW.out.1;have hx1:=(HB.out.cell (wb_ w _ HW.out.2.1)).trans HW.out.2.1;have hx2:=(HB.out.cell (wb_ w _ HW.out.2.2.1)).trans HW.out.2.2.1;have hx3:=(HB.out.cell (wb_ w _ HW.out.2.2.2.1)).trans HW.out.2.2.2.1;have hx4:=(HB.out.cell (wb_ w _ HW.out.2.2.2.2.1)).trans HW.out.2.2.2.2.1;have hx5:=(HB.out.cell (wb_ w _ HW.out.2.2.2.2.2)).trans HW.out.2.2.2.2.2)))
     go_quiet (fail)
     go_wp2_with (first|((with_reducible refine gate_builtin (b:=.append) (xs:=#[.tmp 38,.tmp 43]) rfl ?_);at_builtin;refine Kd.R_append k44 (w0:=w) w.heap.size rfl (.tmp 38) (.tmp 43) 27 44 (.agg #[(.int .i64 0),(.int .i64 0),(.string ⟨#[]⟩),(.int .i64 0),(.string ⟨#[]⟩),(.bool false)]) 64 rfl Tryz.underlying27 pinfoldref11_put.info rfl (by decide) (by omega) v9 (acc ++ [(⟨a1_0,a1_1,a1_2,a1_3,a1_4,a1_5⟩:S44)]) (⟨y0,y1,y2,y3,y4,y5⟩:S44) [.int .i64 y0,.int .i64 y1,.string y2,.int .i64 y3,.string y4,.bool y5] (fun k_=>k_≠w.heap.size) (fun _=>False) rfl rfl ?aP (fun _ hk=>hk.elim) ?aF ?aO ?aB ?aS ?aL ?_;(case aP=>exact k44_mkM _ _ _ (⟨y0,y1,y2,y3,y4,y5⟩:S44));(case aF=>exact (fun k_ hk=>Kd.freshB (g:=w.heap.size) (o:=(.cells #[.int .i64 a1_0,.int .i64 a1_1,.string a1_2,.int .i64 a1_3,.string a1_4,.bool a1_5] 44)) (by (with_reducible repeat (first|exact BK.out|refine k2_ ?_ _|refine k3_ ?_|refine k1_ ?_ _))) k_ hk));(case aO=>exact (by (with_reducible repeat (first|apply r1_|apply r2_|apply r3_));exact HO.out));(case aB=>exact (by repeat (with_reducible first|exact HB.out|apply p3_|apply p1_|apply p2_)));(case aS=>exact (bz_ (by repeat (with_reducible first|exact HB.out|apply p3_|apply p1_|apply p2_))));(case aL=>exact LEN.out);intro v9 w9 ho hb hg hat;have n0:=am_ (blk_grown (g:=w.heap.size) (o:=(.cells #[.int .i64 a1_0,.int .i64 a1_1,.string a1_2,.int .i64 a1_3,.string a1_4,.bool a1_5] 44)) (by (with_reducible repeat (first|exact BK.out|refine k2_ ?_ _|refine k3_ ?_|refine k1_ ?_ _))) hg (Kd.R_away HO.out (fun _ hk=>hk)));have n1:=am_ hb;have n2:=am_ ho;clear BK HB HO ho hb hg hat;have BK:=n0;have HB:=n1;have HO:=n2;clear n0 n1 n2;clear ua0 ua1 ua2 ua3 ua4 ua5 hx0 hx1 hx2 hx3 hx4 hx5))
     go_roundg (l0.length - (i.toNat+1))
     case measure=>exact M3.out
     case rel=>exact ⟨i+1,true,((acc ++ [(⟨a1_0,a1_1,a1_2,a1_3,a1_4,a1_5⟩:S44)]) ++ [(⟨y0,y1,y2,y3,y4,y5⟩:S44)]),M1.out,M2.out,rfl,by first|rfl|(rw [show wrap64 (i+1)=i+1 from (i64_w _).symm.trans M4.out]),HL.out,⟨(by repeat (with_reducible first|exact HB.out|apply p3_|apply p1_|apply p2_))⟩,⟨(by (with_reducible repeat (first|exact BK.out|refine k2_ ?_ _|refine k3_ ?_|refine k1_ ?_ _)))⟩,⟨by (with_reducible repeat (first|apply r1_|apply r2_|apply r3_));exact HO.out⟩,HN⟩
  ·have he:=HE.out
   rw [List.drop_eq_nil_of_le (by omega)] at he
   cases dn with
   | true =>
    have HN:=am_ (show acc=r by rw [←he];exact (List.append_nil _).symm)
    clear he HE
    go_wp2
    go_ret
    exact ⟨_,rfl,Kd.R_mono (by rw [←HN.out];exact HO.out) (fun _ _=>trivial),HB.out⟩
   | false =>
    have HN:=am_ (show acc ++ [(⟨a1_0,a1_1,a1_2,a1_3,a1_4,a1_5⟩:S44)]=r from he)
    have LEN:=am_ (show (acc.length+1) * 64≤140737488355328 by replace hac:acc.length≤i.toNat:=hac;omega)
    clear he HE hac hd
    go_wp2_with (first|((with_reducible refine gate_builtin (b:=.append) (xs:=#[.tmp 47,.tmp 49]) rfl ?_);at_builtin;refine Kd.R_append k44 (w0:=w) w.heap.size rfl (.tmp 47) (.tmp 49) 27 44 (.agg #[(.int .i64 0),(.int .i64 0),(.string ⟨#[]⟩),(.int .i64 0),(.string ⟨#[]⟩),(.bool false)]) 64 rfl Tryz.underlying27 pinfoldref11_put.info rfl (by decide) (by omega) u5 acc (⟨a1_0,a1_1,a1_2,a1_3,a1_4,a1_5⟩:S44) [.int .i64 a1_0,.int .i64 a1_1,.string a1_2,.int .i64 a1_3,.string a1_4,.bool a1_5] (fun k_=>k_≠w.heap.size) (fun _=>False) rfl rfl ?aP (fun _ hk=>hk.elim) ?aF ?aO ?aB ?aS ?aL ?_;(case aP=>exact k44_mkM _ _ _ (⟨a1_0,a1_1,a1_2,a1_3,a1_4,a1_5⟩:S44));(case aF=>exact (fun k_ hk=>Kd.freshB (g:=w.heap.size) (o:=(.cells #[.int .i64 a1_0,.int .i64 a1_1,.string a1_2,.int .i64 a1_3,.string a1_4,.bool a1_5] 44)) (by (with_reducible repeat (first|exact BK.out|refine k2_ ?_ _|refine k3_ ?_|refine k1_ ?_ _))) k_ hk));(case aO=>exact (by (with_reducible repeat (first|apply r1_|apply r2_|apply r3_));exact HO.out));(case aB=>exact (by repeat (with_reducible first|exact HB.out|apply p3_|apply p1_|apply p2_)));(case aS=>exact (bz_ (by repeat (with_reducible first|exact HB.out|apply p3_|apply p1_|apply p2_))));(case aL=>exact LEN.out);intro v9 w9 ho hb hg hat;have n0:=am_ (blk_grown (g:=w.heap.size) (o:=(.cells #[.int .i64 a1_0,.int .i64 a1_1,.string a1_2,.int .i64 a1_3,.string a1_4,.bool a1_5] 44)) (by (with_reducible repeat (first|exact BK.out|refine k2_ ?_ _|refine k3_ ?_|refine k1_ ?_ _))) hg (Kd.R_away HO.out (fun _ hk=>hk)));have n1:=am_ hb;have n2:=am_ ho;clear BK HB HO ho hb hg hat;have BK:=n0;have HB:=n1;have HO:=n2;clear n0 n1 n2))
    go_ret
    exact ⟨_,rfl,Kd.R_mono (by rw [←HN.out];exact HO.out) (fun _ _=>trivial),HB.out⟩

end Go.Proofs.YtibalpbkmgegnaaGreatDoor.PL
